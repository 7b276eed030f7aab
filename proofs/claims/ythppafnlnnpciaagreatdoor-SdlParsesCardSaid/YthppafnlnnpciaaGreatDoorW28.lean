import Derived.Lib.OthersKept
import Derived.Test.YthppafnlnnpciaaGreatDoorW27
set_option maxHeartbeats 8000000
set_option maxRecDepth 100000
set_option linter.unusedVariables false
set_option linter.unusedSimpArgs false
namespace Go.Proofs.YthppafnlnnpciaaGreatDoor
section
open Go.RowKit
attribute [local irreducible] wpList Calls Code.wp
def hexIx (g:UInt8):Int:=Lib.indexByte [48,49,50,51,52,53,54,55,56,57,97,98,99,100,101,102] (bits BinOp.or IntKind.u8 (g.toNat:Int) 32).toNat.toUInt8
def ixOk (g:UInt8):Bool:=match valU g with
 |some d=>decide (hexIx g=(d:Int))&&decide (48<=g.toNat)&&decide (g.toNat<=57\/65<=g.toNat)
 |none=>decide (-1<=hexIx g)&&decide (hexIx g<=15)&&decide (hexIx g<0\/g.toNat<48\/57<g.toNat/\g.toNat<65)
theorem ix_ok (g:UInt8):ixOk g=true:=zGP (p:=fun g=>ixOk g=true) (by decide +kernel) g
theorem ix_some {g:UInt8} {d:Nat} (h:valU g=some d):hexIx g=(d:Int)/\48<=g.toNat/\(g.toNat<=57\/65<=g.toNat):=by
 have:=ix_ok g
 unfold ixOk at this
 rw [h] at this
 simp only [Bool.and_eq_true,decide_eq_true_eq] at this
 exact ⟨this.1.1,this.1.2,this.2⟩
theorem ix_none {g:UInt8} (h:valU g=none) : -1<=hexIx g/\hexIx g<=15/\(hexIx g<0\/g.toNat<48\/57<g.toNat/\g.toNat<65):=by
 have:=ix_ok g
 unfold ixOk at this
 rw [h] at this
 simp only [Bool.and_eq_true,decide_eq_true_eq] at this
 exact ⟨this.1.1,this.1.2,this.2⟩
theorem zDE {T e:TypeId} {B b:Nat} {p:Value} {bs:List Value} {w w':World} (h:Lib.BuilderAtF T e B b p bs w) (hb:Below w.heap.size w w'):Lib.BuilderAtF T e B b p bs w':=by
 obtain ⟨hB,v,h1,hown,hne⟩:=h
 have old : ∀ k o,w.heap[k]? = some o->w'.heap[k]? = some o:=fun k o hk=>by
  have hl:k<w.heap.size:=by
   rcases Nat.lt_or_ge k w.heap.size with h' | h'
   . exact h'
   . rw [Array.getElem?_eq_none h'] at hk;cases hk
  rw [hb.block k hl];exact hk
 refine ⟨hB,v,old _ _ h1,⟨hown.1,?_⟩,hne⟩
 rcases hown.2 with hn | ⟨g,cap,cur,fz,hv,hbg,hg,rest⟩
 . exact .inl hn
 . exact .inr ⟨g,cap,cur,fz,hv,hbg,old _ _ hg,rest⟩
theorem isB_keep {B b:Nat} {bs:List Value} {w w':World} (h:IsB B b bs w) (hb:Below w.heap.size w w'):IsB B b bs w':=
 h.elim (fun x => .inl (zDE x hb)) (fun x => .inr (zDE x hb))
theorem unquoteP (s:ByteArray) (w:World) (hs:s.size<=100000):Calls Tryz.prog 115 #[.string s] w (Uq (unquoteU s.data.toList) w):=by
 by_cases hlen:s.size<2
 . have Hno:=Lib.hid (zDn (s:=s) (fun h=>by omega))
   have q0:decide ((s.size:Int)<2)=true:=decide_eq_true (by omega)
   go_enter Tryz.func115,Tryz.ntmps115
   go_wp2
   go_ret2
   exact ⟨by rw [Hno.out];rfl,Below.refl _ _⟩
 have q0:decide ((s.size:Int)<2)=false:=decide_eq_false (by omega)
 have i0:(0:Int)<(s.size:Int):=by omega
 have hb0:=zCq (show 0<s.size by omega)
 have hr0:=zA2 s 0
 by_cases h0:bV s 0=34
 case neg =>
  have Hno:=Lib.hid (zDn (s:=s) (fun h=>h0 h.2.1))
  have q1:(bV s 0==34)=false:=beq_false_of_ne h0
  generalize bV s 0=v0 at *
  go_enter Tryz.func115,Tryz.ntmps115
  go_wp2
  go_ret2
  exact ⟨by rw [Hno.out];rfl,Below.refl _ _⟩
 have hbz:=zCq (show s.size-1<s.size by omega)
 have hrz:=zA2 s (s.size-1)
 by_cases hz:bV s (s.size-1)=34
 case neg =>
  have Hno:=Lib.hid (zDn (s:=s) (fun h=>hz h.2.2))
  have q1:(bV s (s.size-1)==34)=false:=beq_false_of_ne hz
  rw [h0] at hb0
  generalize bV s (s.size-1)=v1 at *
  go_enter Tryz.func115,Tryz.ntmps115
  go_wp2
  go_ret2
  exact ⟨by rw [Hno.out];rfl,Below.refl _ _⟩
 have Hu:=Lib.hid (unq_of (by omega) h0 hz)
 rw [h0] at hb0
 rw [hz] at hbz
 clear h0 hz hr0 hrz
 have hdz:(s.extract 1 (s.size-1)).size<=100000:=by rw [mid_bs,zk];simp;omega
 obtain ⟨d,hd⟩ : ∃ d,s.extract 1 (s.size-1)=d:=⟨_,rfl⟩
 rw [hd] at Hu hdz
 go_enter Tryz.func115,Tryz.ntmps115
 go_wp2
 clear hb0 hbz i0 q0
 have h0:=Lib.IsBuilderF.of (Lib.fresh_isBuilder 135 5 w)
 have H0:=Lib.hid h0
 clear h0
 go_loopg [5] d.size (fun j i wr => ∃ (m:Nat) (acc:List UInt8),m+j=d.size/\i = .int .i64 m/\acc.length<=m/\unqU d.data.toList=(unqU (d.data.toList.drop m)).map (acc ++ ·)/\Below w.heap.size w wr/\IsB w.heap.size w.heap.size (Lib.byteCells acc) wr)
 case atStart=>exact ⟨0,[],by omega,rfl,by simp,by simp,(Below.refl _ _).alloc (Nat.le_refl _) _,H0.out⟩
 case round =>
  obtain ⟨x,acc,hmj,rfl,hac,hun,hb,hI⟩:=hrel
  have Hmj:=Lib.hid hmj;have hmn:x<=d.size:=by omega
  have Hun:=Lib.hid hun
  have Hb:=Lib.hid hb
  have HI:=Lib.hid hI
  have hal:acc.length<=100000:=by omega
  have Hac:=Lib.hid hac
  clear hmj hun hb hac hI H0
  by_cases hlt:x<d.size
  . have hxi:(x:Int)<(d.size:Int):=by omega
    have hb:=zCq hlt
    rw [bV_bC] at hb
    have HL:=Lib.hid (zD0 hlt)
    have hc256:=(bC d x).toNat_lt
    generalize bC d x=c at *
    obtain ⟨v,hv⟩ : ∃ v:Int,(c.toNat:Int)=v:=⟨_,rfl⟩
    rw [hv] at hb
    by_cases hbad:c.toNat<32\/126<c.toNat\/c=34
    . have Hno:=Lib.hid (Hu.out.trans (zAn Hun.out (by rw [HL.out];exact zJp hbad)))
      have hbv:v<32\/126<v\/v=34:=by
       rcases hbad with h | h | h
       . exact .inl (by omega)
       . exact .inr (.inl (by omega))
       . exact .inr (.inr (by rw [<- hv,h];rfl))
      clear hbad hv
      rcases hbv with h | h | h
      . go_wp2
        go_ret2
        exact ⟨by rw [Hno.out];rfl,Hb.out⟩
      . go_wp2
        all_goals first
         |(exfalso;omega)
         |(go_ret2
           exact ⟨by rw [Hno.out];rfl,Hb.out⟩)
      . subst h
        go_wp2
        go_ret2
        exact ⟨by rw [Hno.out];rfl,Hb.out⟩
    have hc34:v≠34:=by
     rw [<- hv]
     exact zDX (n:=34) (by omega) (fun e=>hbad (.inr (.inr e)))
    have f1:decide (v<32)=false:=decide_eq_false (by omega)
    have f1' : ¬ v<32:=by omega
    have f2:decide (v>126)=false:=decide_eq_false (by omega)
    have f3:(v==34)=false:=beq_false_of_ne hc34
    by_cases h92:c=92
    case neg =>
     have q92:(v==92)=false:=beq_false_of_ne (by rw [<- hv];exact zDX (n:=92) (by omega) h92)
     have Hst:=Lib.hid (zCv (m':=x+1) Hun.out (by rw [HL.out];exact zFq hbad h92))
     have Hv:=Lib.hid hv
     clear hbad hv h92
     go_wp2_with fail
     refine (wB w.heap.size w.heap.size acc c v _ Hv.out.symm HI.out (by omega) Hb.out.size).mono ?_
     rintro e2 w2 ⟨rfl,h2,hb2⟩
     have H2:=Lib.hid h2
     have Hb2:=Lib.hid (Hb.out.trans hb2)
     clear h2 hb2
     go_wp2
     go_roundg (gk-1)
     case measure=>have:=Hmj.out;omega
     case rel=>exact ⟨x+1,acc++[c],by have:=Hmj.out;omega,by go_num,by have:=Hac.out;simp;omega,Hst.out,Hb2.out,H2.out⟩
    subst h92
    obtain rfl:v=92:=by rw [<- hv];rfl
    clear hbad hv hc34 f1 f1' f2 f3 hc256
    by_cases hlt1:x+1<d.size
    case neg =>
     have Hno:=Lib.hid (Hu.out.trans (zAn Hun.out (by rw [HL.out,List.drop_of_length_le (by simp;omega)];exact zHe)))
     have q1:((x:Int)+1==(d.size:Int))=true:=by rw [beq_iff_eq];omega
     go_wp2
     go_ret2
     exact ⟨by rw [Hno.out];rfl,Hb.out⟩
    have q1:((x:Int)+1==(d.size:Int))=false:=beq_false_of_ne (by omega)
    have hxi1:(x:Int)+1<(d.size:Int):=by omega
    have hb1:=zCq hlt1
    rw [bV_bC] at hb1
    have HL1:=Lib.hid (HL.out.trans (by rw [zD0 hlt1]))
    clear HL
    have HS:=Lib.hid (plainP (bC d (x+1)) _ rfl wr)
    unfold Sm at HS
    generalize bC d (x+1)=e at *
    cases hsim:simU e with
    |some y =>
     rw [hsim] at HS
     unfold simV at HS
     have Hst:=Lib.hid (zCv (m':=x+2) Hun.out (by rw [HL1.out];exact zJo hsim))
     clear hsim
     generalize (e.toNat:Int)=ev at *
     go_wp2_with fail
     refine HS.out.mono ?_
     rintro e2 w2 ⟨rfl,rfl⟩
     go_wp2_with fail
     refine (wB w.heap.size w.heap.size acc y (y.toNat:Int) _ rfl HI.out (by omega) Hb.out.size).mono ?_
     rintro e2 w2 ⟨rfl,h2,hb2⟩
     have H2:=Lib.hid h2
     have Hb2:=Lib.hid (Hb.out.trans hb2)
     clear h2 hb2
     go_wp2
     go_roundg (gk-2)
     case measure=>have:=Hmj.out;omega
     case rel=>exact ⟨x+2,acc++[y],by have:=Hmj.out;omega,by go_num,by have:=Hac.out;simp;omega,Hst.out,Hb2.out,H2.out⟩
    |none =>
     rw [hsim] at HS
     unfold simV at HS
     have hrl:(d.data.toList.drop (x+1+1)).length=d.size-(x+2):=by simp
     by_cases h117:e=117
     case neg =>
      have q117:((e.toNat:Int)==117)=false:=beq_false_of_ne (zDX (n:=117) (by omega) h117)
      have Hno:=Lib.hid (Hu.out.trans (zAn Hun.out (by rw [HL1.out];exact zGX hsim (.inl h117))))
      clear hsim h117
      have n117 : ¬ (e.toNat:Int)=117:=by simpa using q117
      generalize (e.toNat:Int)=ev at *
      go_wp2_with fail
      refine HS.out.mono ?_
      rintro e2 w2 ⟨rfl,rfl⟩
      go_wp2
      all_goals first
       |(exfalso;omega)
       |(go_ret2
         exact ⟨by rw [Hno.out];rfl,Hb.out⟩)
     have he:(e.toNat:Int)=117:=by rw [h117];rfl
     rw [he] at hb1 HS
     by_cases hfit:x+6<=d.size
     case neg =>
      have q6:decide ((x:Int)+1+4>=(d.size:Int))=true:=decide_eq_true (by omega)
      have Hno:=Lib.hid (Hu.out.trans (zAn Hun.out (by rw [HL1.out];exact zGX hsim (.inr (by rw [hrl];omega)))))
      clear hsim h117 he
      go_wp2_with fail
      refine HS.out.mono ?_
      rintro e2 w2 ⟨rfl,rfl⟩
      go_wp2
      go_ret2
      exact ⟨by rw [Hno.out];rfl,Hb.out⟩
     have q6:decide ((x:Int)+1+4>=(d.size:Int))=false:=decide_eq_false (by omega)
     have HL2:d.data.toList.drop x=92::117::d.data.toList.drop (x+1+1):=by rw [HL1.out,h117]
     have Hcode:=Lib.hid ((congrArg unqU HL2).trans (zHf (by rw [hrl];omega)))
     clear HL2
     have hksz:(d.extract (x+2) (x+6)).size=4:=by rw [ByteArray.size_extract];omega
     have Hcl:=Lib.hid (zK6 d x)
     obtain ⟨k,hk⟩ : ∃ k,d.extract (x+2) (x+6)=k:=⟨_,rfl⟩
     have hk':d.extract (x+1+1) (x+1+5)=k:=hk
     rw [hk] at hksz Hcl
     have Hd4:=Lib.hid (show (d.data.toList.drop (x+1+1)).drop 4=d.data.toList.drop (x+6) by rw [List.drop_drop])
     clear hsim h117 he
     go_wp2_with fail
     have hcv:=Lib.run_convert_string_bytes (P:=Tryz.prog) wr 9 133 5 k Tryz.underlying9 Tryz.underlying133 Tryz.underlying5
     obtain ⟨W2,hW2⟩ : ∃ W2,Lib.bytesWorld wr 5 k=W2:=⟨_,rfl⟩
     have hcell : ∀ j:Nat,j<4->W2.cell? ⟨wr.heap.size,j,none⟩=some (.int .u8 ((bC k j).toNat:Int)):=fun j hj=>by rw [<- hW2];exact Lib.bytesWorld_cell wr 5 k j (by omega)
     have hbl:Below wr.heap.size wr W2:=by rw [<- hW2];exact Lib.bytesWorld_below _ _ _
     have HI2:=Lib.hid (isB_keep HI.out hbl)
     have Hb2:=Lib.hid (Hb.out.trans (hbl.mono Hb.out.size))
     have Hcell:=Lib.hid hcell
     rw [hW2,hksz] at hcv
     clear hW2 hbl hcell
     generalize grownCap wr 4 0 5=cp at hcv
     obtain ⟨bk,hbk⟩ : ∃ bk,wr.heap.size=bk:=⟨_,rfl⟩
     rw [hbk] at hcv Hcell
     clear hbk
     refine HS.out.mono ?_
     rintro e2 w2 ⟨rfl,rfl⟩
     go_wp2
     go_loopg [9,92] 4 (fun j n i wr2 => ∃ m u:Nat,m+j=4/\i = .int .i64 m/\n = .int .i64 u/\u<16^m/\codeFrom 0 k.data.toList=codeFrom u (k.data.toList.drop m)/\wr2=W2)
     case atStart=>exact ⟨0,0,by omega,rfl,rfl,by simp,rfl,rfl⟩
     case round =>
      obtain ⟨z,u,hzj,rfl,rfl,hu,hc,rfl⟩:=hrel
      clear hk hk'
      have Hzj:=Lib.hid hzj;have hzn:z<=4:=by omega
      clear hzj
      have Hc:=Lib.hid hc
      clear hc
      by_cases hz4:z<4
      . have hu2:u<65536:=Nat.lt_of_lt_of_le hu (Nat.pow_le_pow_right (by omega) (by omega:z<=4))
        have Hu16:=Lib.hid hu
        clear hu
        have hzi:(z:Int)<4:=by omega
        have hcl:=Hcell.out z hz4
        have Hdr:=Lib.hid (zD0 (s:=k) (x:=z) (by omega))
        generalize bC k z=g at *
        have HIx:=Lib.hid (Tryz.strings_IndexByte ⟨#[48,49,50,51,52,53,54,55,56,57,97,98,99,100,101,102]⟩ (bits BinOp.or IntKind.u8 (g.toNat:Int) 32) wr)
        rw [show Lib.indexByte (⟨#[48,49,50,51,52,53,54,55,56,57,97,98,99,100,101,102]⟩:ByteArray).data.toList (bits BinOp.or IntKind.u8 (g.toNat:Int) 32).toNat.toUInt8=hexIx g from rfl] at HIx
        cases hval:valU g with
        |some dd =>
         have hd16:=val_lt hval
         obtain ⟨j1,j2,j3⟩:=ix_some hval
         rw [j1] at HIx
         have Hok:=Lib.hid (show codeFrom 0 k.data.toList=codeFrom (16*u+dd) (k.data.toList.drop (z+1)) by rw [Hc.out,Hdr.out,zIh hval])
         clear hval j1
         have g0:decide ((dd:Int)<0)=false:=decide_eq_false (by omega)
         have g0' : ¬ (dd:Int)<0:=by omega
         have g48:decide ((g.toNat:Int)<48)=false:=decide_eq_false (by omega)
         have g48' : ¬ (g.toNat:Int)<48:=by omega
         go_wp2_with fail
         refine HIx.out.mono ?_
         rintro e2 w3 ⟨rfl,rfl⟩
         rcases j3 with j3 | j3
         . have g57:decide ((g.toNat:Int)>57)=false:=decide_eq_false (by omega)
           go_wp2
           all_goals first
            |(exfalso;omega)
            |(go_roundg (gk-1)
              case measure=>have:=Hzj.out;omega
              case rel=>exact ⟨z+1,16*u+dd,by have:=Hzj.out;omega,by go_num,by go_num,by have:=Hu16.out;rw [Nat.pow_succ];omega,Hok.out,rfl⟩)
         . have g65:decide ((g.toNat:Int)<65)=false:=decide_eq_false (by omega)
           rcases Nat.lt_or_ge 57 g.toNat with j4 | j4
           . have g57:decide ((g.toNat:Int)>57)=true:=decide_eq_true (by omega)
             go_wp2
             all_goals first
              |(exfalso;omega)
              |(go_roundg (gk-1)
                case measure=>have:=Hzj.out;omega
                case rel=>exact ⟨z+1,16*u+dd,by have:=Hzj.out;omega,by go_num,by go_num,by have:=Hu16.out;rw [Nat.pow_succ];omega,Hok.out,rfl⟩)
           . exfalso;omega
        |none =>
         obtain ⟨j1,j2,j3⟩:=ix_none hval
         have Hcn:=Lib.hid (show codeFrom 0 k.data.toList=none by rw [Hc.out,Hdr.out,zIi hval])
         have Hno:=Lib.hid (Hu.out.trans (zAn Hun.out (Hcode.out.trans (by rw [show (d.data.toList.drop (x+1+1)).take 4=k.data.toList from Hcl.out.symm,Hcn.out]))))
         clear hval
         obtain ⟨ix,hix⟩ : ∃ ix,hexIx g=ix:=⟨_,rfl⟩
         rw [hix] at HIx j1 j2 j3
         clear hix
         go_wp2_with fail
         refine HIx.out.mono ?_
         rintro e2 w3 ⟨rfl,rfl⟩
         rcases Int.lt_or_le ix 0 with h | h
         . have g0:decide (ix<0)=true:=decide_eq_true h
           go_wp2
           all_goals first
            |(exfalso;omega)
            |(go_ret2
              exact ⟨by rw [Hno.out];rfl,Hb2.out⟩)
         . have g0:decide (ix<0)=false:=decide_eq_false (by omega)
           have g0' : ¬ ix<0:=by omega
           rcases Nat.lt_or_ge g.toNat 48 with h' | h'
           . have g48:decide ((g.toNat:Int)<48)=true:=decide_eq_true (by omega)
             go_wp2
             all_goals first
              |(exfalso;omega)
              |(go_ret2
                exact ⟨by rw [Hno.out];rfl,Hb2.out⟩)
           . have g48:decide ((g.toNat:Int)<48)=false:=decide_eq_false (by omega)
             have g48' : ¬ (g.toNat:Int)<48:=by omega
             have g57:decide ((g.toNat:Int)>57)=true:=decide_eq_true (by omega)
             have g65:decide ((g.toNat:Int)<65)=true:=decide_eq_true (by omega)
             go_wp2
             all_goals first
              |(exfalso;omega)
              |(go_ret2
                exact ⟨by rw [Hno.out];rfl,Hb2.out⟩)
      . obtain rfl:z=4:=by omega
        have Hfin:=Lib.hid (show codeFrom 0 k.data.toList=some u by
         rw [Hc.out,List.drop_of_length_le (by simp;omega)];rfl)
        clear hu
        have Hcode2:=Lib.hid (Hcode.out.trans (by rw [show (d.data.toList.drop (x+1+1)).take 4=k.data.toList from Hcl.out.symm,Hfin.out]))
        by_cases hn:u<=255
        case neg =>
         have n255:decide ((u:Int)>255)=true:=decide_eq_true (by omega)
         have Hno:=Lib.hid (Hu.out.trans (zAn Hun.out (Hcode2.out.trans (if_neg hn))))
         go_wp2
         go_ret2
         exact ⟨by rw [Hno.out];rfl,Hb2.out⟩
        have n255:decide ((u:Int)>255)=false:=decide_eq_false (by omega)
        have Hst:=Lib.hid (zCv (m':=x+6) Hun.out (by rw [<- Hd4.out];exact Hcode2.out.trans (if_pos hn)))
        have hon:(u:Int)=((UInt8.ofNat u).toNat:Int):=by simp;omega
        have Hon:=Lib.hid hon
        clear hon
        go_wp2_with fail
        refine (wB w.heap.size w.heap.size acc (UInt8.ofNat u) (u:Int) _ Hon.out HI2.out (by omega) Hb2.out.size).mono ?_
        rintro e2 w3 ⟨rfl,h3,hb3⟩
        have H3:=Lib.hid h3
        have Hb3:=Lib.hid (Hb2.out.trans hb3)
        clear h3 hb3
        go_wp2
        go_roundg (d.size-(x+6))
        case measure=>have:=Hmj.out;omega
        case rel=>exact ⟨x+6,acc++[UInt8.ofNat u],by have:=Hmj.out;omega,by go_num,by have:=Hac.out;simp;omega,Hst.out,Hb3.out,H3.out⟩
  . obtain rfl:x=d.size:=by omega
    have Hfin:=Lib.hid (Hu.out.trans (unq_end Hun.out (by simp)))
    go_wp2_with fail
    refine (Tryz.Builder_String_any_k w.heap.size w.heap.size acc _ HI.out Hb.out.size).mono ?_
    rintro e w2 ⟨rfl,_,hb2,_⟩
    have Hb2:=Lib.hid (Hb.out.trans hb2)
    clear hb2
    have Ha:=Lib.hid (show uqV (some acc) = .tuple #[.string (bs acc),.int .i64 0] from rfl)
    go_wp2
    go_ret2
    exact ⟨by rw [Hfin.out,Ha.out];rfl,Hb2.out⟩
end
section
def sepB (c:UInt8):Bool:=c==32||c==9||c==10||c==13||c==44
def skipM:Bool->List UInt8->Nat
 |_,[]=>0
 |false,c::r=>if sepB c then skipM false r+1 else if c==35 then skipM true r+1 else 0
 |true,c::r=>if c==10||c==13 then skipM false r+1 else skipM true r+1
def letU (c:UInt8):Bool:=decide (97<=c.toNat/\c.toNat<=122)||decide (65<=c.toNat/\c.toNat<=90)||c==95
def wrdU (c:UInt8):Bool:=letU c||digU c
def signB (c:UInt8):Bool:=[33,36,38,40,41,58,61,64,91,93,123,124,125].contains c
def spanN (p:UInt8->Bool):List UInt8->Nat
 |[]=>0
 |c::r=>if p c then spanN p r+1 else 0
def litN:List UInt8->Option Nat
 |[]=>none
 |[c]=>if c==34 then some 1 else none
 |c::d::r=>if c==34 then some 1 else if c==92 then (litN r).map (· + 2) else (litN (d::r)).map (· + 1)
structure Tok where
 k:Int
 s:List UInt8
 i:Nat
deriving DecidableEq
def nerU:Lib.NumEnd Int->Int
 |.ok _=>0
 |Lib.NumEnd.syntax=>3
 |.range=>4
def readU (l:List UInt8):Except Int (Int × List UInt8 × Nat):=
 match l with
 |[] => .error 3
 |c::r =>
  if signB c then .ok (1,[c],1)
  else if c==46 then (if r.take 2=[46,46] then .ok (1,[46,46,46],3) else .error 3)
  else if c==45||digU c then
   (if nerU (numU (c::r.take (spanN wrdU r)))=0 then .ok (3,c::r.take (spanN wrdU r),spanN wrdU r+1) else .error (nerU (numU (c::r.take (spanN wrdU r)))))
  else if letU c then
   (if spanN wrdU r+1>64 then .error 3 else .ok (2,c::r.take (spanN wrdU r),spanN wrdU r+1))
  else if c==34 then
   (match litN r with
   |none => .error 3
   |some n=>match unquoteU (c::r.take n) with
    |none => .error 3
    |some t => .ok (4,t,n+1))
  else .error 3
def zDA (l:List UInt8) (i:Nat):Except Int (Tok × Nat):=
 match readU l with
 |.error e => .error e
 |.ok (k,s,n) => .ok (⟨k,s,i⟩,n)
def scanF:Nat->List UInt8->Nat->Except (Nat × Int) (List Tok)
 |0,_,i => .error (i,0)
 |f+1,l,i =>
  match l.drop (skipM false l) with
  |[] => .ok [⟨5,[],i+l.length⟩]
  |c::r=>match zDA (c::r) (i+skipM false l) with
   |.error e => .error (i+skipM false l,e)
   |.ok (t,n)=>match scanF f ((c::r).drop n) (i+skipM false l+n) with
    |.error e => .error e
    |.ok ts => .ok (t::ts)
def zAp (l:List UInt8):Except (Nat × Int) (List Tok):=if l.length>65536 then .error (65536,4) else scanF (l.length+1) l 0
theorem zAo : ∀ (b:Bool) (l:List UInt8),skipM b l<=l.length
 |b,[]=>by cases b<;>simp [skipM]
 |false,c::r=>by
  have h1:=zAo false r
  have h2:=zAo true r
  unfold skipM
  split
  . simp;omega
  . split
    . simp;omega
    . simp
 |true,c::r=>by
  have h1:=zAo false r
  have h2:=zAo true r
  unfold skipM
  split<;>simp<;>omega
theorem zAx (p:UInt8->Bool) : ∀ l,spanN p l<=l.length
 |[]=>Nat.le_refl _
 |c::r=>by
  have:=zAx p r
  unfold spanN
  split<;>simp<;>omega
theorem zE7 : ∀ (l:List UInt8) (n:Nat),litN l=some n->1<=n/\n<=l.length
 |[],n,h=>by simp [litN] at h
 |[c],n,h=>by
  unfold litN at h
  split at h
  . cases h;simp
  . cases h
 |c::d::r,n,h=>by
  unfold litN at h
  split at h
  . cases h;simp
  . split at h
    . obtain ⟨m,hm,rfl⟩:=Option.map_eq_some_iff.1 h
      have:=zE7 r m hm
      simp;omega
    . obtain ⟨m,hm,rfl⟩:=Option.map_eq_some_iff.1 h
      have:=zE7 (d::r) m hm
      simp at this |-;omega
theorem zCF {l:List UInt8} {k:Int} {t:List UInt8} {n:Nat} (h:readU l = .ok (k,t,n)):1<=n/\n<=l.length/\1<=k/\k<=4:=by
 unfold readU at h
 split at h
 . cases h
 . rename_i c r
   have hs:=zAx wrdU r
   split at h
   . cases h;simp
   split at h
   . split at h
     . rename_i h3
       cases h
       have:(r.take 2).length=2:=by rw [h3];rfl
       rw [List.length_take] at this
       simp;omega
     . cases h
   split at h
   . split at h
     . cases h;simp;omega
     . cases h
   split at h
   . split at h
     . cases h
     . cases h;simp;omega
   split at h
   . split at h
     . cases h
     . rename_i n' hn
       have:=zE7 r n' hn
       split at h
       . cases h
       . cases h;simp;omega
   . cases h
theorem zER {l:List UInt8} {i:Nat} {t:Tok} {n:Nat} (h:zDA l i = .ok (t,n)):readU l = .ok (t.k,t.s,n)/\t.i=i:=by
 unfold zDA at h
 split at h
 . cases h
 . rename_i k s m hm
   cases h
   exact ⟨hm,rfl⟩
theorem zGq {l:List UInt8} {i:Nat} {t:Tok} {n:Nat} (h:zDA l i = .ok (t,n)):1<=n/\n<=l.length:=by
 have:=zCF (zER h).1
 omega
structure PS where
 ts:List Tok
 vr:Bool
 nd:Nat
abbrev PR (α:Type):=Except (Nat × Int) (α × PS)
def hdT (x:PS):Tok:=x.ts.headD ⟨5,[],0⟩
def isS (x:PS) (s:List UInt8):Bool:=(hdT x).k==1&&(hdT x).s==s
def nxT (x:PS):PS:=if (hdT x).k=5 then x else { x with ts:=x.ts.drop 1 }
def takeQ (s:List UInt8) (x:PS):PR Unit:=if isS x s=true then .ok ((),nxT x) else .error ((hdT x).i,3)
def nameQ (x:PS):PR (List UInt8):=if (hdT x).k=2 then .ok ((hdT x).s,nxT x) else .error ((hdT x).i,3)
def limQ (n most:Nat) (x:PS):PR Unit:=if most<=n then .error ((hdT x).i,4) else .ok ((),x)
theorem zAE {n most:Nat} {x y:PS} {u:Unit} (h:limQ n most x = .ok (u,y)):n<most/\y=x:=by
 unfold limQ at h
 split at h
 . cases h
 . cases h;exact ⟨by omega,rfl⟩
def zY {α β:Type} (r:PR α) (f:α->PS->PR β):PR β:=
 match r with
 |.error e => .error e
 |.ok (a,x)=>f a x
def strD (s:List UInt8):D:=.str ⟨s.toArray⟩
def valD (k n:Int) (s:List UInt8) (items:List D) (keys:List (List UInt8)):D:=.obj [.int k,.int n,strD s,.list items,.list (keys.map strD)]
def refD (n:List UInt8) (w:List Int):D:=.obj [strD n,.list (w.map .int)]
def argD (n:List UInt8) (v:D):D:=.obj [strD n,v]
def dirD (n:List UInt8) (aa:List D):D:=.obj [strD n,.list aa]
def selD (k:Int) (al n on:List UInt8) (aa ds ss:List D):D:=.obj [.int k,strD al,strD n,strD on,.list aa,.list ds,.list ss]
def varD (n:List UInt8) (t:D) (h:Bool) (v:D):D:=.obj [strD n,t,.bool h,v]
def opD (k:Int) (n:List UInt8) (vs ss:List D):D:=.obj [.int k,strD n,.list vs,.list ss]
def zA5:D:=valD 0 0 [] [] []
def openQ:Nat->PS->Nat × PS
 |0,x=>(0,x)
 |f+1,x=>if isS x [91]=true then ((openQ f (nxT x)).1+1,(openQ f (nxT x)).2) else (0,x)
def closeQ:Nat->List Int->PS->PR (List Int)
 |0,w,x => .ok (if isS x [33]=true then (1::w,nxT x) else (w,x))
 |n+1,w,x=>zY (takeQ [93] (if isS x [33]=true then nxT x else x)) fun _ y=>closeQ n (2::(if isS x [33]=true then 1::w else w)) y
def zAX (x:PS):PR (List UInt8 × List Int):=
 zY (nameQ (openQ x.ts.length x).2) fun n y=>zY (closeQ (openQ x.ts.length x).1 [] y) fun w z => .ok ((n,w),z)
def typQ (x:PS):PR D:=zY (zAX x) fun t y=>if t.2.length>24 then .error ((hdT x).i,5) else .ok (refD t.1 t.2,y)
def numQ (l:List UInt8):Int:=match numU l with | .ok n=>n | _=>0
def zB6 (s:List UInt8):D:=
 if s=[116,114,117,101] then valD 1 1 [] [] [] else if s=[102,97,108,115,101] then valD 1 0 [] [] [] else if s=[110,117,108,108] then zA5 else valD 4 0 s [] []
def zBQ (x:PS):Bool:=(hdT x).k==5||((hdT x).k==1 && !isS x [91] && !isS x [123] && !(x.vr&&isS x [36]))
def itemsQ (val:PS->PR D):Nat->List D->PS->PR (List D)
 |0,_,x => .error ((hdT x).i,0)
 |f+1,acc,x=>if isS x [93]=true then .ok (acc,nxT x) else zY (val x) fun v y=>itemsQ val f (acc++[v]) y
def z7 (val:PS->PR D):Nat->List (List UInt8)->List D->PS->PR (List (List UInt8) × List D)
 |0,_,_,x => .error ((hdT x).i,0)
 |f+1,ks,acc,x =>
  if isS x [125]=true then .ok ((ks,acc),nxT x)
  else zY (nameQ x) fun k y=>if ks.contains k=true then .error ((hdT x).i,7) else
   zY (takeQ [58] y) fun _ z=>zY (val z) fun v u=>z7 val f (ks++[k]) (acc++[v]) u
def valueQ:Nat->Nat->PS->PR D
 |0,_,x => .error ((hdT x).i,0)
 |f+1,lv,x =>
  if zBQ x=true then .error ((hdT x).i,3)
  else if 24<lv then .error ((hdT x).i,5)
  else if 4096<=x.nd then .error ((hdT x).i,4)
  else
   let y:PS:={ nxT x with nd:=x.nd+1 }
   if (hdT x).k=3 then .ok (valD 2 (numQ (hdT x).s) [] [] [],y)
   else if (hdT x).k=4 then .ok (valD 3 0 (hdT x).s [] [],y)
   else if (hdT x).k=2 then .ok (zB6 (hdT x).s,y)
   else if (hdT x).s=[36] then zY (nameQ y) fun n z => .ok (valD 7 0 n [] [],z)
   else if (hdT x).s=[91] then zY (itemsQ (valueQ f (lv+1)) (y.ts.length+1) [] y) fun l z => .ok (valD 5 0 [] l [],z)
   else zY (z7 (valueQ f (lv+1)) (y.ts.length+1) [] [] y) fun l z => .ok (valD 6 0 [] l.2 l.1,z)
def zAQ (x:PS):PR D:=valueQ 25 1 { x with nd:=0 }
def zDO:Nat->List D->PS->PR (List D)
 |0,_,x => .error ((hdT x).i,0)
 |f+1,acc,x =>
  if acc.length≠0/\isS x [41]=true then .ok (acc,nxT x)
  else if (hdT x).k=2/\16<=acc.length then .error ((hdT x).i,4)
  else zY (nameQ x) fun n y=>zY (takeQ [58] y) fun _ z=>zY (zAQ z) fun v u=>zDO f (acc++[argD n v]) u
def zBe (x:PS):PR (List D):=if isS x [40]=true then zDO x.ts.length [] (nxT x) else .ok ([],x)
def dirsF:Nat->List D->PS->PR (List D)
 |0,_,x => .error ((hdT x).i,0)
 |f+1,acc,x =>
  if isS x [64]=true then
   (if 16<=acc.length then .error ((hdT x).i,4) else zY (nameQ (nxT x)) fun n y=>zY (zBe y) fun aa z=>dirsF f (acc++[dirD n aa]) z)
  else .ok (acc,x)
def zAS (x:PS):PR (List D):=dirsF (x.ts.length+1) [] x
def onT:List UInt8:=[111,110]
def selQ (sels:PS->PR (List D)) (x:PS):PR D:=
 if isS x [46,46,46]=true then
  let y:=nxT x
  if (hdT y).k=2/\(hdT y).s≠onT then zY (zAS (nxT y)) fun ds z => .ok (selD 2 [] (hdT y).s [] [] ds [],z)
  else
   zY (if (hdT y).k=2 then nameQ (nxT y) else .ok ([],y)) fun on z =>
    zY (zAS z) fun ds u=>zY (sels u) fun ss v => .ok (selD 3 [] [] on [] ds ss,v)
 else
  zY (nameQ x) fun n y =>
   zY (if isS y [58]=true then zY (nameQ (nxT y)) fun m z => .ok ((n,m),z) else .ok (([],n),y)) fun an z =>
    zY (zBe z) fun aa u=>zY (zAS u) fun ds v =>
     zY (if isS v [123]=true then sels v else .ok ([],v)) fun ss o => .ok (selD 1 an.1 an.2 [] aa ds ss,o)
def setF (sel:PS->PR D):Nat->List D->PS->PR (List D)
 |0,_,x => .error ((hdT x).i,0)
 |f+1,acc,x =>
  if acc.length≠0/\isS x [125]=true then .ok (acc,nxT x)
  else if ((hdT x).k=2\/isS x [46,46,46]=true)/\64<=acc.length then .error ((hdT x).i,4)
  else zY (sel x) fun s y=>setF sel f (acc++[s]) y
def selsQ:Nat->Nat->PS->PR (List D)
 |0,_,x => .error ((hdT x).i,0)
 |f+1,lv,x =>
  if isS x [123]=true/\24<lv then .error ((hdT x).i,5)
  else zY (takeQ [123] x) fun _ y=>setF (selQ (selsQ f (lv+1))) (y.ts.length+1) [] y
def setQ (x:PS):PR (List D):=selsQ 25 1 x
def varsF:Nat->List D->PS->PR (List D)
 |0,_,x => .error ((hdT x).i,0)
 |f+1,acc,x =>
  if acc.length≠0/\isS x [41]=true then .ok (acc,nxT x)
  else if isS x [36]=true/\16<=acc.length then .error ((hdT x).i,4)
  else zY (takeQ [36] x) fun _ y=>zY (nameQ y) fun n z=>zY (takeQ [58] z) fun _ u=>zY (typQ u) fun t v =>
   zY (if isS v [61]=true then zY (zAQ { nxT v with vr:=false }) fun d o => .ok ((true,d),{ o with vr:=true }) else .ok ((false,zA5),v)) fun d o =>
    varsF f (acc++[varD n t d.1 d.2]) o
def opQ (k:Int) (x:PS):PR D:=
 zY (if (hdT x).k=2 then .ok ((hdT x).s,nxT x) else .ok ([],x)) fun n y =>
  zY (if isS y [40]=true then varsF y.ts.length [] (nxT y) else .ok ([],y)) fun vs z =>
   zY (setQ z) fun ss u => .ok (opD k n vs ss,u)
end
section
open Go.RowKit
attribute [local irreducible] wpList Calls Code.wp AW AWo OpOk seqK zq zu loopK endK endKB AC ACB ACX zf absLexG Yld YldG Sub
def outP {ε α S:Type} (tR:TypeId) (cl:S->List V) (toV:α->V) (toP:ε->Value):Except ε (α × S)->Out
 |.ok (a,x) => .ret (toV a) [.box tR (cl x)]
 |.error e => .die (toP e)
abbrev cxE (e:Ge) (P:Program) (pas:Nat->Prop) (s:Sg) (w:World) (he:e.E w) (hp : ∀ k,k<e.G -> ¬ pas k) (out:Out):Cx:=⟨P,pas,s,w,e,he,hp,fun pv _ _=>out = .die pv,[]⟩
section
variable {X:Cx} {nn:Nat} {st:Vst nn} {o:Oper} {ops:Array Oper} {l:List Oper} {d:Option Tmp} {KK:Vst nn->Prop} {Q:Vst nn->Prop} {rd wr:Nat->List Nat} {k:Nat}
theorem zGo {tR:TypeId} {cs:List V} {ns:List Nat} (h : ∀ φ,renL φ cs=cs):([Res.box tR cs].map (renR (φout ns)))=[Res.box tR cs]:=by simp [renR,h]
theorem opOk_m {tR:TypeId} {f:FuncId} {m:Nat} {vs az cs cs':List V} {r:V} {K:Vst nn->Prop} (h:act1 X.P st.rs (ev st) o.op = .call f vs) (hv:vs = .bx m 0::az) (hr:st.rs m=some (.box tR cs))
 (hc:ACB X.e X.P f (.bx (pn 0) 0::az) [.box tR cs] r [.box tR cs']) (hcs : ∀ φ,renL φ cs=cs) (hcs' : ∀ φ,renL φ cs'=cs') (haz : ∀ φ,renL φ az=az) (hrr : ∀ φ,renV φ r=r)
 (hK:K ((st.res m (.box tR cs')).put o.dst r)):OpOk X o st K:=by
 subst hv
 refine zAq [m] h hc (by simp) (by simp only [renL,renV,φin_one,haz]) (by simp [hr,renR,hcs]) ?_
 rw [zGo hcs',zBm,hrr]
 exact hK
theorem s_m {S:Type} {tR:TypeId} {f:FuncId} {m:Nat} {vs az cs:List V} {x x':S} {r:V} (cl:S->List V) (hren : ∀ φ x,renL φ (cl x)=cl x) (hg:o.guard=none) (hd:o.dst=d) (h:act1 X.P st.rs (ev st) o.op = .call f vs) (hv:vs = .bx m 0::az) (hr:st.rs m=some (.box tR cs)) (hx:cs=cl x)
 (hc:ACB X.e X.P f (.bx (pn 0) 0::az) [.box tR (cl x)] r [.box tR (cl x')]) (haz : ∀ φ,renL φ az=az) (hrr : ∀ φ,renV φ r=r) (hK:AWo X ops l ((st.res m (.box tR (cl x'))).put d r) KK):AWo X ops (o::l) st KK:=by
 subst hx
 exact zAB hg (opOk_m h hv hr hc (fun φ=>hren φ x) (fun φ=>hren φ x') haz hrr (by rw [hd];exact hK))
theorem zl {S:Type} {tR:TypeId} {f:FuncId} {m j:Nat} {want b:Bool} {vs az cs:List V} {x x':S} {r:V} (cl:S->List V) (hren : ∀ φ x,renL φ (cl x)=cl x) (hg:o.guard=some (j,want)) (hd:o.dst=d) (hb:gval ops st j=some b) (hne:(b==want)=true) (h:act1 X.P st.rs (ev st) o.op = .call f vs) (hv:vs = .bx m 0::az) (hr:st.rs m=some (.box tR cs)) (hx:cs=cl x)
 (hc:ACB X.e X.P f (.bx (pn 0) 0::az) [.box tR (cl x)] r [.box tR (cl x')]) (haz : ∀ φ,renL φ az=az) (hrr : ∀ φ,renV φ r=r) (hK:AWo X ops l ((st.res m (.box tR (cl x'))).put d r) KK):AWo X ops (o::l) st KK:=by
 subst hx
 exact zBc hg hb (fun _=>opOk_m h hv hr hc (fun φ=>hren φ x) (fun φ=>hren φ x') haz hrr (by rw [hd];exact hK)) fun e=>(e (by simpa using hne)).elim
theorem opOk_pr {ε α S:Type} {tR:TypeId} {f:FuncId} {m:Nat} {vs az cs:List V} {x:S} {spec:Except ε (α × S)} {cl:S->List V} {toV:α->V} {toP:ε->Value} {K:Vst nn->Prop} (hren : ∀ φ x,renL φ (cl x)=cl x) (h:act1 X.P st.rs (ev st) o.op = .call f vs) (hv:vs = .bx m 0::az) (hr:st.rs m=some (.box tR cs)) (hx:cs=cl x)
 (hc:ACE X.e X.P f (.bx (pn 0) 0::az) [.box tR (cl x)] (outP tR cl toV toP spec)) (haz : ∀ φ,renL φ az=az) (hrr : ∀ φ a,renV φ (toV a)=toV a)
 (hE : ∀ e,spec = .error e->X.pk (toP e) st.tm (forgetN st.rs [m])) (hK : ∀ a x',spec = .ok (a,x')->K ((st.res m (.box tR (cl x'))).put o.dst (toV a))):OpOk X o st K:=by
 subst hv
 subst hx
 refine zF3 [m] h hc (by simp) (by simp only [renL,renV,φin_one,haz]) (by simp [hr,renR,hren]) (fun r bs' e => ?_) fun pv e => ?_
 . cases hs:spec with
   |error q=>rw [hs] at e;simp [outP] at e
   |ok q =>
    obtain ⟨a,x'⟩:=q
    rw [hs] at e
    simp only [outP,Out.ret.injEq] at e
    obtain ⟨rfl,rfl⟩:=e
    rw [zGo (fun φ=>hren φ x'),zBm,hrr]
    exact hK a x' hs
 . cases hs:spec with
   |error q=>rw [hs] at e;simp only [outP,Out.die.injEq] at e;subst e;exact hE q hs
   |ok q=>rw [hs] at e;simp [outP] at e
theorem s_pr {ε α S:Type} {tR:TypeId} {f:FuncId} {m:Nat} {vs az cs:List V} {x:S} {spec:Except ε (α × S)} {toV:α->V} {toP:ε->Value} (cl:S->List V) (hren : ∀ φ x,renL φ (cl x)=cl x) (hg:o.guard=none) (hd:o.dst=d) (h:act1 X.P st.rs (ev st) o.op = .call f vs) (hv:vs = .bx m 0::az) (hr:st.rs m=some (.box tR cs)) (hx:cs=cl x)
 (hc:ACE X.e X.P f (.bx (pn 0) 0::az) [.box tR (cl x)] (outP tR cl toV toP spec)) (haz : ∀ φ,renL φ az=az) (hrr : ∀ φ a,renV φ (toV a)=toV a)
 (hE : ∀ e,spec = .error e->X.pk (toP e) st.tm (forgetN st.rs [m])) (hK : ∀ a x',spec = .ok (a,x')->AWo X ops l ((st.res m (.box tR (cl x'))).put d (toV a)) KK):AWo X ops (o::l) st KK:=
 zAB hg (opOk_pr hren h hv hr hx hc haz hrr hE fun a x' e=>by rw [hd];exact hK a x' e)
theorem g_pr {ε α S:Type} {tR:TypeId} {f:FuncId} {m:Nat} {vs az cs:List V} {x:S} {spec:Except ε (α × S)} {toV:α->V} {toP:ε->Value} (cl:S->List V) (hren : ∀ φ x,renL φ (cl x)=cl x) (dv:α) (hg:o.guard=none) (hd:o.dst=d) (h:act1 X.P st.rs (ev st) o.op = .call f vs) (hv:vs = .bx m 0::az) (hr:st.rs m=some (.box tR cs)) (hx:cs=cl x)
 (hc:ACE X.e X.P f (.bx (pn 0) 0::az) [.box tR (cl x)] (outP tR cl toV toP spec)) (haz : ∀ φ,renL φ az=az) (hrr : ∀ φ a,renV φ (toV a)=toV a) (hl:[m].all (fun n=>(wr k).contains n)=true)
 (hE : ∀ e,spec = .error e -> ∀ tm rs,X.pk (toP e) tm rs) (hK : ∀ a x',spec = .ok (a,x')->absLexG X ops rd wr Q (k+1) l ((st.res m (.box tR (cl x'))).put d (toV a)))
 (hD : ∀ e,spec = .error e->absLexG X ops rd wr Q (k+1) l ((st.res m (.box tR [.c (.tuple #[])])).put d (toV dv))):absLexG X ops rd wr Q k (o::l) st:=by
 subst hv
 subst hx
 cases hs:spec with
 |error e =>
  rw [hs] at hc
  refine zJP [m] (toV dv) [.box tR [.c (.tuple #[])]] hg hd h hc (by simp) (by simp only [renL,renV,φin_one,haz]) (by simp [hr,renR,hren]) rfl hl (hE e hs) ?_
  rw [zBm]
  exact hD e hs
 |ok q =>
  obtain ⟨a,x'⟩:=q
  rw [hs] at hc
  refine g_callB [m] hg hd h hc (by simp) (by simp only [renL,renV,φin_one,haz]) (by simp [hr,renR,hren]) rfl hl ?_
  rw [zGo (fun φ=>hren φ x'),zBm,hrr]
  exact hK a x' hs
theorem zAT {P:Program} {rs:Array ResultVar} {x:ResultVar} {out:Out} {v:V} {ρ:Res} (hx:rs.toList=[x]) (h:res1 P st x = .val True v) (hr:st.rs (pn 0)=some ρ) (ho:out = .ret v.out [ρ]):zFK P rs out .normal st:=
 zKT ho (by rw [hx];exact ⟨v,h,rfl⟩) ⟨hr,trivial⟩
theorem zKS {P:Program} {rs:Array ResultVar} {out:Out} {ρ:Res} (hx:rs.toList=[]) (hr:st.rs (pn 0)=some ρ) (ho:out = .ret (.tup []) [ρ]):zFK P rs out .normal st:=
 zKT ho (by rw [hx];rfl) ⟨hr,trivial⟩
end
theorem zFy {φ:Nat->Option Nat} {g:TypeId->D->List V} (hg : ∀ t d,renL φ (g t d)=g t d) : ∀ (fs:List Field) (j:Nat) (d:D),renL φ (zAm g fs j d)=zAm g fs j d
 |[],_,_=>by simp [zAm,renL]
 |f::fs,j,d=>by
  have app : ∀ (a b:List V),renL φ (a++b)=renL φ a++renL φ b:=fun a b=>by
   induction a with
   |nil=>rfl
   |cons x r ih=>simp only [List.cons_append,renL,ih]
  rw [zAm,app,hg,zFy hg fs (j+1) d]
theorem ren_cells {P:Program} {φ:Nat->Option Nat} : ∀ (n:Nat) (t:TypeId) (d:D),renL φ (cellsV P n t d)=cellsV P n t d
 |0,_,_=>rfl
 |n+1,t,d=>by
  have anys : ∀ k,renL φ (List.replicate k V.any)=List.replicate k V.any:=fun k=>by
   induction k with
   |zero=>rfl
   |succ k ih=>rw [List.replicate_succ,renL,ih];rfl
  unfold cellsV
  split
  all_goals first
   |rfl
   |exact zFy (fun t d=>ren_cells n t d) _ _ _
   |exact anys _
end
section
open Go.RowKit
attribute [local irreducible] wpList Calls Code.wp
def EN5:Ge where
 G:=max (3+1) (max (2+1) (1+1))
 E:=fun w=>Env w/\max (3+1) (max (2+1) (1+1))<=w.heap.size
 stays w w' h hs:=by
  obtain ⟨⟨h1,⟨tp,p,h2⟩,⟨tp',p',h3⟩⟩,h4⟩:=h
  refine ⟨⟨zEj (g:=3) (by kernel_rfl) (by omega) h1 hs,⟨tp,p,zEj (g:=2) (by kernel_rfl) (by omega) h2 hs⟩,⟨tp',p',zEj (g:=1) (by kernel_rfl) (by omega) h3 hs⟩⟩,?_⟩
  generalize hg:max (3+1) (max (2+1) (1+1))=g at hs h4 |-
  have hg0:0<g:=by omega
  have h5:=hs (g-1) (by omega)
  have h6:w.heap[g-1]? = some w.heap[g-1]:=Array.getElem?_eq_getElem (by omega)
  have h7:=(Array.getElem?_eq_some_iff.1 (h5.trans h6)).1
  omega
 le w h:=h.2
theorem zDm {f:FuncId} {args:List V} {r:V} {u:Value} (h : ∀ s w us,relL Tryz.prog s w args us.toList->Env w->(∀ s' w',rel Tryz.prog s' w' r u)/\Calls Tryz.prog f us w fun e w'=>e = .returned u/\Below w.heap.size w w'):AC EN5 Tryz.prog f args r:=by
 intro s w us hus hfx he
 obtain ⟨hr,hc⟩:=h s w us hus he.1
 refine hc.mono ?_
 rintro e w' ⟨rfl,hb⟩
 have hc : ∀ b o,s.F b o->w'.cell? ⟨b,o,none⟩=w.cell? ⟨b,o,none⟩:=fun b o hF=>by
  obtain ⟨x,hx⟩:=Option.isSome_iff_exists.1 (hfx b o hF)
  exact hb.cell (p:=⟨b,o,none⟩) (block_lt_of_cell hx)
 exact ⟨u,s.F,rfl,Frm.of_below hb,fun b o hF=>⟨hc b o hF,hF⟩,fun b o hF=>by rw [hc b o hF];exact hfx b o hF,fun _ _ _ h=>h,hr _ _⟩
theorem zJ9 {P:Program} {s:Sg} {w:World} {v v2:V} {u u2:Value} (h:rel P s w v u) (h2:rel P s w v2 u2):rel P s w (.tup [v,v2]) (.tuple #[u,u2]):=by
 rw [rel];exact ⟨_,rfl,by simp only [relL];exact ⟨h,h2,trivial⟩⟩
theorem zGp {P:Program} {s:Sg} {w:World} {n:Int} (h : -9223372036854775808<=n/\n<=9223372036854775807):rel P s w (.c (.int .i64 n)) (.int .i64 n):=by rw [rel];exact ⟨rfl,zDB.2 h⟩
theorem rel_str {P:Program} {s:Sg} {w:World} {x:ByteArray} (h:x.size<=maxLen):rel P s w (.c (.string x)) (.string x):=by rw [rel];exact ⟨rfl,h⟩
theorem zEq {P:Program} {s:Sg} {w:World} {x:ByteArray} {us:Array Value} (h:relL P s w [.c (.string x)] us.toList):us = #[.string x]/\x.size<=maxLen:=by
 obtain ⟨u,rfl,h1⟩:=rel_one h
 rw [rel] at h1
 exact ⟨by rw [h1.1],h1.2⟩
theorem numQ_range {l:List UInt8} : -9223372036854775808<=numQ l/\numQ l<=9223372036854775807:=by
 unfold numQ
 cases h:numU l with
 |ok n=>exact (itoa_num h).2
 |range=>decide
 |_=>decide
theorem nerU_cases (r:Lib.NumEnd Int):nerU r=0\/nerU r=3\/nerU r=4:=by cases r<;>simp [nerU]
theorem numT_Q (l:List UInt8):numT (numU l) = .tuple #[.int .i64 (numQ l),.int .i64 (nerU (numU l))]:=by
 unfold numQ
 cases numU l<;>rfl
def zJH (l:List UInt8):V:=.tup [.c (.int .i64 (numQ l)),.c (.int .i64 (nerU (numU l)))]
theorem num_rel {P:Program} {s:Sg} {w:World} (l:List UInt8):rel P s w (zJH l) (numT (numU l)):=by
 rw [numT_Q]
 exact zJ9 (zGp numQ_range) (zGp (by rcases nerU_cases (numU l) with h | h | h<;>rw [h]<;>decide))
theorem zF7 (s:ByteArray) (hs:s.size<=281474976710656):AC EN5 Tryz.prog 113 [.c (.string s)] (zJH (tx s)):=by
 refine zDm (u:=numT (numU (tx s))) fun σ w us hus he => ?_
 obtain ⟨rfl,-⟩:=zEq hus
 exact ⟨fun s' w'=>num_rel _,numberP s w he hs⟩
theorem zDs (s:ByteArray) (hs:s.size<=281474976710656):AC EN5 Tryz.prog 82 [.c (.string s)] (zJH (tx s)):=by
 refine zDm (u:=numT (numU (tx s))) fun σ w us hus he => ?_
 obtain ⟨rfl,-⟩:=zEq hus
 exact ⟨fun s' w'=>num_rel _,numberR s w hs⟩
def uqE:Option (List UInt8)->Int
 |some _=>0
 |none=>3
def uqVV (l:List UInt8):V:=.tup [.c (.string (bs ((unquoteU l).getD []))),.c (.int .i64 (uqE (unquoteU l)))]
theorem uqV_E (r:Option (List UInt8)):uqV r = .tuple #[.string (bs (r.getD [])),.int .i64 (uqE r)]:=by
 cases r<;>rfl
theorem unq_len (l:List UInt8):((unquoteU l).getD []).length<=l.length:=by
 have key : ∀ (k:Nat) (l:List UInt8),((unqF k l).getD []).length<=l.length:=by
  intro k
  induction k with
  |zero=>intro l;cases l<;>simp [unqF]
  |succ k ih =>
   intro l
   cases l with
   |nil=>simp [unqF]
   |cons c r =>
    show ((stpU (unqF k) c r).getD []).length<=_
    have hm : ∀ (q:List UInt8) (x:UInt8),q.length<=r.length->(((unqF k q).map (x :: ·)).getD []).length<=(c::r).length:=fun q x hq=>by
     have:=ih q
     cases hx:unqF k q with
     |none=>simp
     |some u=>rw [hx] at this;simp at this |-;omega
    unfold stpU
    by_cases h1:c.toNat<32\/126<c.toNat\/c=34
    . rw [if_pos h1];simp
    rw [if_neg h1]
    by_cases h2:c≠92
    . rw [if_pos h2];exact hm r c (Nat.le_refl _)
    rw [if_neg h2]
    cases r with
    |nil=>simp
    |cons d q =>
     dsimp only
     cases simU d with
     |some x=>exact hm q x (by simp)
     |none =>
      dsimp only
      by_cases h3:d≠117\/q.length<4
      . rw [if_pos h3];simp
      rw [if_neg h3]
      cases codeFrom 0 (q.take 4) with
      |none=>simp
      |some n =>
       dsimp only
       by_cases h4:n<=255
       . rw [if_pos h4];exact hm (q.drop 4) _ (by simp;omega)
       . rw [if_neg h4];simp
 unfold unquoteU
 split
 . have:=key ((l.drop 1).take (l.length-2)).length ((l.drop 1).take (l.length-2))
   have h2:((l.drop 1).take (l.length-2)).length<=l.length:=by rw [List.length_take,List.length_drop];omega
   exact Nat.le_trans this h2
 . simp
theorem unq_ok {s:ByteArray} (hs:s.size<=100000) {P:Program} {σ:Sg} {w:World}:rel P σ w (uqVV (tx s)) (uqV (unquoteU (tx s))):=by
 rw [uqV_E]
 refine zJ9 (rel_str ?_) (zGp ?_)
 . have h1:=unq_len (tx s)
   have h2:=tx_len s
   rw [zk];unfold maxLen;omega
 . cases unquoteU (tx s) with
   |none=>exact ⟨by decide,by decide⟩
   |some _=>exact (⟨by decide,by decide⟩:(-9223372036854775808:Int)<=0/\(0:Int)<=9223372036854775807)
theorem zIx (s:ByteArray) (hs:s.size<=100000):AC EN5 Tryz.prog 115 [.c (.string s)] (uqVV (tx s)):=by
 refine zDm (u:=uqV (unquoteU (tx s))) fun σ w us hus he => ?_
 obtain ⟨rfl,-⟩:=zEq hus
 exact ⟨fun s' w'=>unq_ok hs,unquoteP s w hs⟩
theorem zIw (s:ByteArray) (hs:s.size<=100000):AC EN5 Tryz.prog 84 [.c (.string s)] (uqVV (tx s)):=by
 refine zDm (u:=uqV (unquoteU (tx s))) fun σ w us hus he => ?_
 obtain ⟨rfl,-⟩:=zEq hus
 exact ⟨fun s' w'=>unq_ok hs,unquoteR s w hs⟩
end
section
open Go.RowKit
attribute [local irreducible] wpList Calls Code.wp AW AWo OpOk seqK zq zu loopK endK AC zf Yld Sub
attribute [local irreducible] ACB ACX ACE absLexG YldG
def tokD (t:Tok):D:=.obj [.int t.k,.str (bs t.s),.int (t.i:Int)]
def tokC (t:Tok):List V:=[.c (.int .i64 t.k),.c (.string (bs t.s)),.c (.int .i64 (t.i:Int))]
end
section
inductive Lex:List UInt8->List (Int × List UInt8)->Prop where
 |done {l:List UInt8} (h:l.drop (skipM false l)=[]):Lex l []
 |tok {l:List UInt8} {c:UInt8} {r:List UInt8} {k:Int} {s:List UInt8} {n:Nat} {ks:List (Int × List UInt8)} (h:l.drop (skipM false l)=c::r) (ht:readU (c::r) = .ok (k,s,n)) (hr:Lex ((c::r).drop n) ks):Lex l ((k,s)::ks)
def bare (t:Tok):Int × List UInt8:=(t.k,t.s)
def endK5:Int × List UInt8:=(5,[])
theorem readT_any {l:List UInt8} {k:Int} {s:List UInt8} {n:Nat} (h:readU l = .ok (k,s,n)) (j:Nat):zDA l j = .ok (⟨k,s,j⟩,n):=by
 unfold zDA
 rw [h]
theorem Lex.scan {l:List UInt8} {ks:List (Int × List UInt8)} (h:Lex l ks) : ∀ (f i:Nat),l.length<f -> ∃ ts,scanF f l i = .ok ts/\ts.map bare=ks++[endK5]:=by
 induction h with
 |done h =>
  intro f i hf
  cases f with
  |zero=>omega
  |succ f =>
   exact ⟨[⟨5,[],i+_⟩],by unfold scanF;rw [h],rfl⟩
 |tok h ht hr ih =>
  rename_i l c r k s n ks
  intro f i hf
  cases f with
  |zero=>omega
  |succ f =>
   have hn:=zCF ht
   have hlen:(c::r).length<=l.length:=by rw [<- h,List.length_drop];omega
   obtain ⟨ts,h1,h2⟩:=ih f (i+skipM false l+n) (by rw [List.length_drop];omega)
   refine ⟨⟨k,s,i+skipM false l⟩::ts,?_,?_⟩
   . unfold scanF
     rw [h]
     dsimp only
     rw [readT_any ht]
     dsimp only
     rw [h1]
   . rw [List.map_cons,h2];rfl
def bnd (l:List UInt8):Prop:=∀ c,l.head? = some c->wrdU c=false
def Ps (t:List UInt8) (ks:List (Int × List UInt8)):Prop:=∀ r kr,Lex r kr->Lex (t++r) (ks++kr)
def Pw (t:List UInt8) (ks:List (Int × List UInt8)):Prop:=∀ r kr,bnd r->Lex r kr->Lex (t++r) (ks++kr)
theorem Ps.w {t:List UInt8} {ks:List (Int × List UInt8)} (h:Ps t ks):Pw t ks:=fun r kr _ hr=>h r kr hr
theorem Ps.nil:Ps [] []:=fun _ _ h=>h
theorem Ps.app {a b:List UInt8} {ka kb:List (Int × List UInt8)} (h:Ps a ka) (k:Ps b kb):Ps (a++b) (ka++kb):=fun r kr hr=>by
 rw [List.append_assoc,List.append_assoc];exact h _ _ (k r kr hr)
theorem Pw.app {a b:List UInt8} {ka kb:List (Int × List UInt8)} (h:Pw a ka) (k:Ps b kb) (hb:b≠[]/\bnd b):Ps (a++b) (ka++kb):=fun r kr hr=>by
 rw [List.append_assoc,List.append_assoc]
 refine h _ _ (fun c hc=>hb.2 c ?_) (k r kr hr)
 cases b with
 |nil=>exact (hb.1 rfl).elim
 |cons x y=>exact hc
theorem sign_plain (c:UInt8):signB c=true->sepB c=false/\(c==35)=false/\wrdU c=false:=
 zGP (p:=fun c=>signB c=true->sepB c=false/\(c==35)=false/\wrdU c=false) (by decide +kernel) c
theorem zEu {c:UInt8} {r:List UInt8} (h:sepB c=false) (h2:(c==35)=false):skipM false (c::r)=0:=by
 rw [skipM,if_neg (by rw [h];decide),if_neg (by rw [h2];decide)]
theorem Ps.sign {c:UInt8} (hc:signB c=true):Ps [c] [(1,[c])]:=fun r kr h=>by
 obtain ⟨h1,h2,-⟩:=sign_plain c hc
 refine .tok (l:=c::r) (c:=c) (r:=r) (n:=1) (by rw [zEu h1 h2];rfl) ?_ h
 unfold readU
 simp only [hc,if_true]
def nameU (l:List UInt8):Bool:=match l with | []=>false | c::r=>letU c&&r.all wrdU&&decide (r.length<64)
theorem let_plain (c:UInt8):letU c=true->sepB c=false/\(c==35)=false/\signB c=false/\(c==46)=false/\(c==45||digU c)=false/\wrdU c=true:=
 zGP (p:=fun c=>letU c=true->sepB c=false/\(c==35)=false/\signB c=false/\(c==46)=false/\(c==45||digU c)=false/\wrdU c=true) (by decide +kernel) c
theorem zGd {p:UInt8->Bool} : ∀ (l r:List UInt8),l.all p=true->(∀ c,r.head? = some c->p c=false)->spanN p (l++r)=l.length
 |[],[],_,_=>rfl
 |[],c::r,_,h=>by
  show spanN p (c::r)=0
  rw [spanN,if_neg (by rw [h c rfl];decide)]
 |c::l,r,ha,h=>by
  rw [List.all_cons,Bool.and_eq_true] at ha
  rw [List.cons_append,spanN,if_pos ha.1,zGd l r ha.2 h,List.length_cons]
theorem Pw.name {l:List UInt8} (h:nameU l=true):Pw l [(2,l)]:=fun r kr hb hr=>by
 cases l with
 |nil=>cases h
 |cons c q =>
  simp only [nameU,Bool.and_eq_true,decide_eq_true_eq] at h
  obtain ⟨⟨h1,h2⟩,h3⟩:=h
  obtain ⟨p1,p2,p3,p4,p5,p6⟩:=let_plain c h1
  have hs:=zGd q r h2 hb
  refine .tok (l:=c::(q++r)) (c:=c) (r:=q++r) (n:=q.length+1) (by rw [zEu p1 p2];rfl) ?_ (by rw [List.drop_succ_cons,List.drop_left];exact hr)
  unfold readU
  simp only [p3,p4,p5,h1,hs,Bool.false_eq_true,if_false,if_true,List.take_left]
  rw [if_neg (by omega)]
theorem zK0 : ∀ {l:List UInt8},l.all digU=true->l.all wrdU=true:=fun {l} h=>by
 rw [List.all_eq_true] at h |-
 intro x hx
 unfold wrdU
 rw [h x hx,Bool.or_true]
theorem num_plain (c:UInt8):(c==45||digU c)=true->sepB c=false/\(c==35)=false/\signB c=false/\(c==46)=false:=
 zGP (p:=fun c=>(c==45||digU c)=true->sepB c=false/\(c==35)=false/\signB c=false/\(c==46)=false) (by decide +kernel) c
theorem Pw.num {l:List UInt8} {n:Int} (h:numU l = .ok n) (h1 : ∃ c q,l=c::q/\(c==45||digU c)=true/\q.all wrdU=true):Pw l [(3,l)]:=fun r kr hb hr=>by
 obtain ⟨c,q,rfl,h2,h3⟩:=h1
 obtain ⟨p1,p2,p3,p4⟩:=num_plain c h2
 have hs:=zGd q r h3 hb
 refine .tok (l:=c::(q++r)) (c:=c) (r:=q++r) (n:=q.length+1) (by rw [zEu p1 p2];rfl) ?_ (by rw [List.drop_succ_cons,List.drop_left];exact hr)
 unfold readU
 simp only [p3,p4,h2,hs,Bool.false_eq_true,if_false,if_true,List.take_left,h,nerU]
theorem itoa_shape (n:Int) : ∃ c q,Lib.itoa n=c::q/\(c==45||digU c)=true/\q.all wrdU=true:=by
 unfold Lib.itoa
 split
 . exact ⟨45,_,rfl,rfl,zK0 (zFP _)⟩
 . have h:=zFP n.toNat
   cases hd:Lib.decDigits n.toNat with
   |nil=>exact (zK3 _ hd).elim
   |cons c q =>
    rw [hd,List.all_cons,Bool.and_eq_true] at h
    exact ⟨c,q,rfl,by rw [h.1,Bool.or_true],zK0 h.2⟩
theorem Pw.int (n:Int) (h0 : -9223372036854775808<=n) (h1:n<=9223372036854775807):Pw (Lib.itoa n) [(3,Lib.itoa n)]:=Pw.num (num_itoa n h0 h1) (itoa_shape n)
inductive All2 (T:Tok->Tok->Prop):List Tok->List Tok->Prop where
 |nil:All2 T [] []
 |cons {a b:Tok} {l m:List Tok} (h:T a b) (t:All2 T l m):All2 T (a::l) (b::m)
structure TR (T:Tok->Tok->Prop) (I:Nat->Nat->Prop):Prop where
 k : ∀ {t t'},T t t'->t.k=t'.k
 s : ∀ {t t'},T t t'->t.s=t'.s
 i : ∀ {t t'},T t t'->I t.i t'.i
 z:I 0 0
structure XR (T:Tok->Tok->Prop) (x x':PS):Prop where
 ts:All2 T x.ts x'.ts
 vr:x.vr=x'.vr
 nd:x.nd=x'.nd
def RR (T:Tok->Tok->Prop) (I:Nat->Nat->Prop) {α:Type}:PR α->PR α->Prop
 |.ok (a,x),.ok (a',x')=>a=a'/\XR T x x'
 |.error e,.error e'=>I e.1 e'.1/\e.2=e'.2
 |_,_=>False
section
variable {T:Tok->Tok->Prop} {I:Nat->Nat->Prop} {α β:Type}
theorem zDQ {a b:List Tok} (h:All2 T a b):a.length=b.length:=by induction h with | nil=>rfl | cons _ _ ih=>simp [ih]
theorem zIr {a b:List Tok} (h:All2 T a b) : ∀ n,All2 T (a.drop n) (b.drop n):=by
 induction h with
 |nil=>intro n;simp;exact .nil
 |cons h1 h2 ih =>
  intro n
  cases n with
  |zero=>exact .cons h1 h2
  |succ n=>simpa using ih n
theorem XR.hd (hT:TR T I) {x x':PS} (h:XR T x x'):(hdT x').k=(hdT x).k/\(hdT x').s=(hdT x).s/\I (hdT x).i (hdT x').i:=by
 obtain ⟨h1,-,-⟩:=h
 unfold hdT
 generalize x.ts=a at h1
 generalize x'.ts=b at h1
 cases h1 with
 |nil=>exact ⟨rfl,rfl,hT.z⟩
 |cons h2 h3=>exact ⟨(hT.k h2).symm,(hT.s h2).symm,hT.i h2⟩
theorem XR.isS (hT:TR T I) {x x':PS} (h:XR T x x') (s:List UInt8):isS x' s=isS x s:=by
 obtain ⟨h1,h2,-⟩:=h.hd hT
 unfold Go.Proofs.YthppafnlnnpciaaGreatDoor.isS
 rw [h1,h2]
theorem XR.nx (hT:TR T I) {x x':PS} (h:XR T x x'):XR T (nxT x) (nxT x'):=by
 obtain ⟨h1,-,-⟩:=h.hd hT
 unfold nxT
 rw [h1]
 split
 . exact h
 . exact ⟨zIr h.ts 1,h.vr,h.nd⟩
theorem XR.len {x x':PS} (h:XR T x x'):x'.ts.length=x.ts.length:=(zDQ h.ts).symm
theorem RR.err (hT:TR T I) {x x':PS} (h:XR T x x') (e:Int):RR T I (α:=α) (.error ((hdT x).i,e)) (.error ((hdT x').i,e)):=⟨(h.hd hT).2.2,rfl⟩
theorem RR.okk {x x':PS} (h:XR T x x') (a:α):RR T I (.ok (a,x)) (.ok (a,x')):=⟨rfl,h⟩
theorem RR.ite {c:Prop} [Decidable c] {a b a' b':PR α} (h1:c->RR T I a a') (h2 : ¬ c->RR T I b b'):RR T I (if c then a else b) (if c then a' else b'):=by
 split
 . rename_i h;exact h1 h
 . rename_i h;exact h2 h
theorem RR.then {r r':PR α} {f f':α->PS->PR β} (h:RR T I r r') (hf : ∀ a x x',XR T x x'->RR T I (f a x) (f' a x')):RR T I (zY r f) (zY r' f'):=by
 unfold zY
 cases r with
 |error e=>cases r' with | error e'=>exact h | ok a'=>exact h.elim
 |ok a =>
  cases r' with
  |error e'=>exact h.elim
  |ok a' =>
   obtain ⟨a,x⟩:=a
   obtain ⟨a',x'⟩:=a'
   obtain ⟨rfl,hx⟩:=h
   exact hf _ _ _ hx
variable (hT:TR T I)
include hT
theorem zDH {x x':PS} (h:XR T x x') (s:List UInt8):RR T I (takeQ s x) (takeQ s x'):=by
 unfold takeQ
 rw [h.isS hT]
 exact .ite (fun _ => .okk (h.nx hT) _) fun _ => .err hT h _
theorem zBs {x x':PS} (h:XR T x x'):RR T I (nameQ x) (nameQ x'):=by
 unfold nameQ
 rw [(h.hd hT).1,(h.hd hT).2.1]
 exact .ite (fun _ => .okk (h.nx hT) _) fun _ => .err hT h _
theorem open_rr : ∀ (f:Nat) {x x':PS},XR T x x'->(openQ f x').1=(openQ f x).1/\XR T (openQ f x).2 (openQ f x').2
 |0,_,_,h=>⟨rfl,h⟩
 |f+1,x,x',h=>by
  unfold openQ
  rw [h.isS hT]
  split
  . obtain ⟨h1,h2⟩:=open_rr f (h.nx hT)
    exact ⟨by simp [h1],h2⟩
  . exact ⟨rfl,h⟩
theorem zK8 : ∀ (n:Nat) (w:List Int) {x x':PS},XR T x x'->RR T I (closeQ n w x) (closeQ n w x')
 |0,w,x,x',h=>by
  unfold closeQ
  rw [h.isS hT]
  split
  . exact .okk (h.nx hT) _
  . exact .okk h _
 |n+1,w,x,x',h=>by
  unfold closeQ
  rw [h.isS hT]
  refine .then (zDH hT ?_ _) fun _ y y' hy=>zK8 n _ hy
  split
  . exact h.nx hT
  . exact h
theorem inner_rr {x x':PS} (h:XR T x x'):RR T I (zAX x) (zAX x'):=by
 unfold zAX
 rw [h.len]
 obtain ⟨h1,h2⟩:=open_rr hT x.ts.length h
 rw [h1]
 exact .then (zBs hT h2) fun _ _ _ hy => .then (zK8 hT _ _ hy) fun _ _ _ hz => .okk hz _
theorem typ_rr {x x':PS} (h:XR T x x'):RR T I (typQ x) (typQ x'):=
 .then (inner_rr hT h) fun _ _ _ hy => .ite (fun _ => .err hT h _) fun _ => .okk hy _
theorem zKW {v:PS->PR D} (hv : ∀ {x x':PS},XR T x x'->RR T I (v x) (v x')) : ∀ (f:Nat) (acc:List D) {x x':PS},XR T x x'->RR T I (itemsQ v f acc x) (itemsQ v f acc x')
 |0,_,_,_,h => .err hT h _
 |f+1,acc,x,x',h=>by
  unfold itemsQ
  rw [h.isS hT]
  exact .ite (fun _ => .okk (h.nx hT) _) fun _ => .then (hv h) fun _ _ _ hy=>zKW hv f _ hy
theorem zIP {v:PS->PR D} (hv : ∀ {x x':PS},XR T x x'->RR T I (v x) (v x')) : ∀ (f:Nat) (ks:List (List UInt8)) (acc:List D) {x x':PS},XR T x x'->RR T I (z7 v f ks acc x) (z7 v f ks acc x')
 |0,_,_,_,_,h => .err hT h _
 |f+1,ks,acc,x,x',h=>by
  unfold z7
  rw [h.isS hT]
  exact .ite (fun _ => .okk (h.nx hT) _) fun _ => .then (zBs hT h) fun k _ _ hy => .ite (fun _ => .err hT h _) fun _ => .then (zDH hT hy _) fun _ _ _ hz => .then (hv hz) fun _ _ _ hu=>zIP hv f _ _ hu
theorem noVal_rr {x x':PS} (h:XR T x x'):zBQ x'=zBQ x:=by
 unfold zBQ
 rw [(h.hd hT).1,h.isS hT,h.isS hT,h.isS hT,h.vr]
theorem zGS : ∀ (f lv:Nat) {x x':PS},XR T x x'->RR T I (valueQ f lv x) (valueQ f lv x')
 |0,_,_,_,h => .err hT h _
 |f+1,lv,x,x',h=>by
  have hy:XR T { nxT x with nd:=x.nd+1 } { nxT x' with nd:=x'.nd+1 }:=⟨(h.nx hT).ts,(h.nx hT).vr,by show x.nd+1=x'.nd+1;rw [h.nd]⟩
  unfold valueQ
  rw [noVal_rr hT h,<- h.nd,(h.hd hT).1,(h.hd hT).2.1]
  rw [<- h.nd] at hy
  refine .ite (fun _ => .err hT h _) fun _ => .ite (fun _ => .err hT h _) fun _ => .ite (fun _ => .err hT h _) fun _ => ?_
  dsimp only
  refine .ite (fun _ => .okk hy _) fun _ => .ite (fun _ => .okk hy _) fun _ => .ite (fun _ => .okk hy _) fun _ => .ite (fun _ => .then (zBs hT hy) fun _ _ _ hz => .okk hz _) fun _ => .ite (fun _ => ?_) fun _ => ?_
  . have e:(nxT x').ts.length=(nxT x).ts.length:=(h.nx hT).len
    rw [e]
    exact .then (zKW hT (fun h=>zGS f (lv+1) h) _ _ hy) fun _ _ _ hz => .okk hz _
  . have e:(nxT x').ts.length=(nxT x).ts.length:=(h.nx hT).len
    rw [e]
    exact .then (zIP hT (fun h=>zGS f (lv+1) h) _ _ _ hy) fun _ _ _ hz => .okk hz _
theorem zJj {x x':PS} (h:XR T x x'):RR T I (zAQ x) (zAQ x'):=zGS hT _ _ ⟨h.ts,h.vr,rfl⟩
theorem zLJ : ∀ (f:Nat) (acc:List D) {x x':PS},XR T x x'->RR T I (zDO f acc x) (zDO f acc x')
 |0,_,_,_,h => .err hT h _
 |f+1,acc,x,x',h=>by
  unfold zDO
  rw [h.isS hT,(h.hd hT).1]
  exact .ite (fun _ => .okk (h.nx hT) _) fun _ => .ite (fun _ => .err hT h _) fun _ => .then (zBs hT h) fun _ _ _ hy => .then (zDH hT hy _) fun _ _ _ hz => .then (zJj hT hz) fun _ _ _ hu=>zLJ f _ hu
theorem args_rr {x x':PS} (h:XR T x x'):RR T I (zBe x) (zBe x'):=by
 unfold zBe
 rw [h.isS hT,h.len]
 exact .ite (fun _=>zLJ hT _ _ (h.nx hT)) fun _ => .okk h _
theorem zKw : ∀ (f:Nat) (acc:List D) {x x':PS},XR T x x'->RR T I (dirsF f acc x) (dirsF f acc x')
 |0,_,_,_,h => .err hT h _
 |f+1,acc,x,x',h=>by
  unfold dirsF
  rw [h.isS hT]
  exact .ite (fun _ => .ite (fun _ => .err hT h _) fun _ => .then (zBs hT (h.nx hT)) fun _ _ _ hy => .then (args_rr hT hy) fun _ _ _ hz=>zKw f _ hz) fun _ => .okk h _
theorem zHJ {x x':PS} (h:XR T x x'):RR T I (zAS x) (zAS x'):=by
 unfold zAS
 rw [h.len]
 exact zKw hT _ _ h
end
end
section
structure J (e:Tok) (r:List Tok) (a:List Tok) (x x':PS):Prop where
 l:x.ts=a++[e]
 r:x'.ts=a++r
 vr:x'.vr=x.vr
 nd:x'.nd=x.nd
def LO (e:Tok) (r:List Tok) {α:Type} (a:List Tok) (p p':PR α):Prop:=
 ∀ v y,p = .ok (v,y) -> ∃ b,(∃ d,a=d++b)/\y.ts=b++[e]/\(b≠[] -> ∃ y',p' = .ok (v,y')/\J e r b y y')
def LS (e:Tok) (r:List Tok) {α:Type} (a:List Tok) (p p':PR α):Prop:=
 ∀ v y,p = .ok (v,y) -> ∃ b y',(∃ t d,a=t::d++b)/\p' = .ok (v,y')/\J e r b y y'
structure Ends (e:Tok) (r:List Tok):Prop where
 k:e.k=5
 r:r≠[]
section
variable {e:Tok} {r:List Tok} {α β:Type}
theorem LS.lo {a:List Tok} {p p':PR α} (h:LS e r a p p'):LO e r a p p':=fun v y hp=>by
 obtain ⟨b,y',⟨t,d,hd⟩,h1,h2⟩:=h v y hp
 exact ⟨b,⟨t::d,hd⟩,h2.l,fun _=>⟨y',h1,h2⟩⟩
theorem LO.zero {p p' p'':PR α} (h:LO e r [] p p'):LO e r [] p p'':=fun v y hp=>by
 obtain ⟨b,⟨d,hd⟩,h1,h2⟩:=h v y hp
 have:b=[]:=(List.append_eq_nil_iff.1 hd.symm).2
 subst this
 exact ⟨[],⟨[],rfl⟩,h1,fun h=>(h rfl).elim⟩
theorem LS.zero {p p' p'':PR α} (h:LS e r [] p p'):LS e r [] p p'':=fun v y hp=>by
 obtain ⟨b,y',⟨t,d,hd⟩,-⟩:=h v y hp
 cases hd
theorem LO.err {a:List Tok} {q:Nat × Int} {p':PR α}:LO e r a (.error q) p':=fun _ _ h=>by cases h
theorem LS.err {a:List Tok} {q:Nat × Int} {p':PR α}:LS e r a (.error q) p':=fun _ _ h=>by cases h
theorem LO.okk {a:List Tok} {x x':PS} (h:J e r a x x') (v:α):LO e r a (.ok (v,x)) (.ok (v,x')):=fun w y hp=>by
 cases hp
 exact ⟨a,⟨[],rfl⟩,h.l,fun _=>⟨x',rfl,h⟩⟩
theorem LO.mono {a b:List Tok} {p p':PR α} (h:LO e r b p p') (hab : ∃ d,a=d++b):LO e r a p p':=fun v y hp=>by
 obtain ⟨c,⟨d,hd⟩,h1⟩:=h v y hp
 obtain ⟨d2,hd2⟩:=hab
 exact ⟨c,⟨d2++d,by rw [hd2,hd,List.append_assoc]⟩,h1⟩
theorem LS.mono {a b:List Tok} {p p':PR α} (h:LS e r b p p') (hab : ∃ d,a=d++b):LS e r a p p':=fun v y hp=>by
 obtain ⟨c,y',⟨t,d,hd⟩,h1⟩:=h v y hp
 obtain ⟨d2,hd2⟩:=hab
 cases d2 with
 |nil=>exact ⟨c,y',⟨t,d,by rw [hd2,hd];rfl⟩,h1⟩
 |cons t2 d2=>exact ⟨c,y',⟨t2,d2++t::d,by rw [hd2,hd];simp⟩,h1⟩
theorem LS.okn {t:Tok} {a:List Tok} {x x':PS} (h:J e r a x x') (v:α):LS e r (t::a) (.ok (v,x)) (.ok (v,x')):=fun w y hp=>by
 cases hp
 exact ⟨a,x',⟨t,[],rfl⟩,rfl,h⟩
theorem LO.ite {a:List Tok} {c c':Prop} [Decidable c] [Decidable c'] {A A' B B':PR α} (hc:a≠[]->(c ↔ c')) (h1:c->LO e r a A A') (h2 : ¬ c->LO e r a B B'):LO e r a (if c then A else B) (if c' then A' else B'):=by
 by_cases ha:a=[]
 . subst ha
   by_cases h:c
   . rw [if_pos h];exact (h1 h).zero
   . rw [if_neg h];exact (h2 h).zero
 . by_cases h:c
   . rw [if_pos h,if_pos ((hc ha).1 h)];exact h1 h
   . rw [if_neg h,if_neg fun h'=>h ((hc ha).2 h')];exact h2 h
theorem LS.ite {a:List Tok} {c c':Prop} [Decidable c] [Decidable c'] {A A' B B':PR α} (hc:a≠[]->(c ↔ c')) (h1:c->LS e r a A A') (h2 : ¬ c->LS e r a B B'):LS e r a (if c then A else B) (if c' then A' else B'):=by
 by_cases ha:a=[]
 . subst ha
   by_cases h:c
   . rw [if_pos h];exact (h1 h).zero
   . rw [if_neg h];exact (h2 h).zero
 . by_cases h:c
   . rw [if_pos h,if_pos ((hc ha).1 h)];exact h1 h
   . rw [if_neg h,if_neg fun h'=>h ((hc ha).2 h')];exact h2 h
theorem LO.then {a:List Tok} {p p':PR α} {f f':α->PS->PR β} (h:LO e r a p p') (hf : ∀ v b y y',J e r b y y'->LO e r b (f v y) (f' v y')):LO e r a (zY p f) (zY p' f'):=fun w z hp=>by
 cases hpp:p with
 |error q=>rw [hpp] at hp;cases hp
 |ok q =>
  obtain ⟨v,y⟩:=q
  obtain ⟨b,hab,h1,h2⟩:=h v y hpp
  rw [hpp] at hp
  have hp:f v y = .ok (w,z):=hp
  by_cases hb:b=[]
  . subst hb
    obtain ⟨c,⟨d,hd⟩,h3,-⟩:=hf v [] y ⟨r,y.vr,y.nd⟩ ⟨h1,rfl,rfl,rfl⟩ w z hp
    have:c=[]:=(List.append_eq_nil_iff.1 hd.symm).2
    subst this
    exact ⟨[],hab,h3,fun h=>(h rfl).elim⟩
  . obtain ⟨y',h3,h4⟩:=h2 hb
    rw [h3]
    exact ((hf v b y y' h4).mono hab) w z hp
theorem LS.then {a:List Tok} {p p':PR α} {f f':α->PS->PR β} (h:LO e r a p p') (hf : ∀ v b y y',J e r b y y'->LS e r b (f v y) (f' v y')):LS e r a (zY p f) (zY p' f'):=fun w z hp=>by
 cases hpp:p with
 |error q=>rw [hpp] at hp;cases hp
 |ok q =>
  obtain ⟨v,y⟩:=q
  obtain ⟨b,hab,h1,h2⟩:=h v y hpp
  rw [hpp] at hp
  have hp:f v y = .ok (w,z):=hp
  by_cases hb:b=[]
  . subst hb
    obtain ⟨c,y',⟨t,d,hd⟩,-⟩:=hf v [] y ⟨r,y.vr,y.nd⟩ ⟨h1,rfl,rfl,rfl⟩ w z hp
    cases hd
  . obtain ⟨y',h3,h4⟩:=h2 hb
    rw [h3]
    exact ((hf v b y y' h4).mono hab) w z hp
theorem LS.pure {a:List Tok} {p p':PR α} {f f':α->PS->PR β} (h:LS e r a p p') (hf : ∀ v b y y',J e r b y y' -> ∃ w z z',f v y = .ok (w,z)/\f' v y' = .ok (w,z')/\J e r b z z'):LS e r a (zY p f) (zY p' f'):=fun w z hp=>by
 cases hpp:p with
 |error q=>rw [hpp] at hp;cases hp
 |ok q =>
  obtain ⟨v,y⟩:=q
  obtain ⟨b,y',hab,h1,h2⟩:=h v y hpp
  rw [hpp] at hp
  have hp:f v y = .ok (w,z):=hp
  obtain ⟨w2,z2,z',h3,h4,h5⟩:=hf v b y y' h2
  rw [hp] at h3
  cases h3
  rw [h1]
  exact ⟨b,z',hab,h4,h5⟩
variable (hE:Ends e r)
theorem J.hd {a:List Tok} {x x':PS} (h:J e r a x x') (ha:a≠[]):hdT x'=hdT x:=by
 cases a with
 |nil=>exact (ha rfl).elim
 |cons t a=>unfold hdT;rw [h.l,h.r];rfl
theorem J.sg {a:List Tok} {x x':PS} (h:J e r a x x') (s:List UInt8) (ha:a≠[]):isS x s=true ↔ isS x' s=true:=by
 unfold isS;rw [h.hd ha]
include hE
theorem J.k5 {x x':PS} (h:J e r [] x x'):(hdT x).k=5:=by unfold hdT;rw [h.l];exact hE.k
theorem J.ne_of_k {a:List Tok} {x x':PS} (h:J e r a x x') (hk:(hdT x).k≠5) : ∃ t a',a=t::a'/\J e r a' (nxT x) (nxT x'):=by
 cases a with
 |nil=>exact (hk (h.k5 hE)).elim
 |cons t a =>
  have h1:=h.hd (by simp)
  refine ⟨t,a,rfl,?_⟩
  unfold nxT
  rw [h1,if_neg hk,if_neg hk]
  exact ⟨by show x.ts.drop 1=_;rw [h.l];rfl,by show x'.ts.drop 1=_;rw [h.r];rfl,h.vr,h.nd⟩
theorem J.ne_of_isS {a:List Tok} {x x':PS} (h:J e r a x x') {s:List UInt8} (hs:isS x s=true) : ∃ t a',a=t::a'/\J e r a' (nxT x) (nxT x'):=by
 refine h.ne_of_k hE ?_
 unfold isS at hs
 simp only [Bool.and_eq_true,beq_iff_eq] at hs
 rw [hs.1];decide
theorem J.len {a:List Tok} {x x':PS} (h:J e r a x x'):x.ts.length<=x'.ts.length:=by
 rw [h.l,h.r,List.length_append,List.length_append]
 have:0<r.length:=List.length_pos_iff.2 hE.r
 simp;omega
theorem zAw {a:List Tok} {x x':PS} (h:J e r a x x') (s:List UInt8):LS e r a (takeQ s x) (takeQ s x'):=by
 unfold takeQ
 refine .ite (h.sg s) (fun hs => ?_) fun _ => .err
 obtain ⟨t,a',rfl,h'⟩:=h.ne_of_isS hE hs
 exact .okn h' _
theorem zAd {a:List Tok} {x x':PS} (h:J e r a x x'):LS e r a (nameQ x) (nameQ x'):=by
 unfold nameQ
 refine .ite (fun ha=>by rw [h.hd ha]) (fun hk => ?_) fun _ => .err
 obtain ⟨t,a',rfl,h'⟩:=h.ne_of_k hE (by rw [hk];decide)
 rw [h.hd (by simp)]
 exact .okn h' _
theorem open_j : ∀ (f g:Nat) {a:List Tok} {x x':PS},J e r a x x'->x.ts.length<=f->x'.ts.length<=g -> ∃ b,(∃ d,a=d++b)/\(openQ f x).2.ts=b++[e]/\(b≠[]->(openQ g x').1=(openQ f x).1/\J e r b (openQ f x).2 (openQ g x').2)
 |0,g,a,x,x',h,hf,_=>by rw [h.l] at hf;simp at hf
 |f+1,0,a,x,x',h,_,hg=>by have:=h.len hE;rw [h.l] at this;simp at this;omega
 |f+1,g+1,a,x,x',h,hf,hg=>by
  by_cases hs:isS x [91]=true
  . obtain ⟨t,a',rfl,h'⟩:=h.ne_of_isS hE hs
    have hs':=(h.sg [91] (by simp)).1 hs
    have e1:openQ (f+1) x=((openQ f (nxT x)).1+1,(openQ f (nxT x)).2):=by rw [openQ,if_pos hs]
    have e2:openQ (g+1) x'=((openQ g (nxT x')).1+1,(openQ g (nxT x')).2):=by rw [openQ,if_pos hs']
    rw [e1,e2]
    obtain ⟨b,⟨d,hd⟩,h1,h2⟩:=open_j f g h' (by rw [h'.l];rw [h.l] at hf;simpa using hf) (by rw [h'.r];rw [h.r] at hg;simpa using hg)
    exact ⟨b,⟨t::d,by rw [hd];rfl⟩,h1,fun hb=>⟨by rw [(h2 hb).1],(h2 hb).2⟩⟩
  . have e1:openQ (f+1) x=(0,x):=by rw [openQ,if_neg hs]
    rw [e1]
    refine ⟨a,⟨[],rfl⟩,h.l,fun ha => ?_⟩
    have e2:openQ (g+1) x'=(0,x'):=by rw [openQ,if_neg fun hq=>hs ((h.sg [91] ha).2 hq)]
    rw [e2]
    exact ⟨rfl,h⟩
theorem zHR : ∀ (n:Nat) (w:List Int) {a:List Tok} {x x':PS},J e r a x x'->LO e r a (closeQ n w x) (closeQ n w x')
 |0,w,a,x,x',h=>by
  have e1 : ∀ x,closeQ 0 w x=if isS x [33]=true then .ok (1::w,nxT x) else .ok (w,x):=fun x=>by unfold closeQ;split<;>rfl
  rw [e1,e1]
  refine .ite (h.sg _) (fun hs => ?_) fun _ => .okk h _
  obtain ⟨t,a',rfl,h'⟩:=h.ne_of_isS hE hs
  exact (LS.okn h' _).lo
 |n+1,w,a,x,x',h=>by
  have e1 : ∀ x,closeQ (n+1) w x=if isS x [33]=true then zY (takeQ [93] (nxT x)) fun _ y=>closeQ n (2::1::w) y else zY (takeQ [93] x) fun _ y=>closeQ n (2::w) y:=fun x=>by
   rw [closeQ];split<;>rfl
  rw [e1,e1]
  refine .ite (h.sg _) (fun hs => ?_) fun _ => .then (zAw hE h _).lo fun _ _ _ _ hy=>zHR n _ hy
  obtain ⟨t,a',rfl,h'⟩:=h.ne_of_isS hE hs
  exact (LO.then (zAw hE h' _).lo fun _ _ _ _ hy=>zHR n _ hy).mono ⟨[t],rfl⟩
theorem inner_lo {a:List Tok} {x x':PS} (h:J e r a x x'):LO e r a (zAX x) (zAX x'):=by
 obtain ⟨b,hab,h1,h2⟩:=open_j hE x.ts.length x'.ts.length h (Nat.le_refl _) (Nat.le_refl _)
 unfold zAX
 by_cases hb:b=[]
 . subst hb
   intro v y hp
   have hk:nameQ (openQ x.ts.length x).2 = .error ((hdT (openQ x.ts.length x).2).i,3):=by
    unfold nameQ
    rw [if_neg]
    unfold hdT
    rw [h1]
    show ¬ e.k=2
    rw [hE.k];decide
   rw [hk] at hp
   cases hp
 . obtain ⟨h3,h4⟩:=h2 hb
   rw [h3]
   refine LO.mono (b:=b) ?_ hab
   exact .then (zAd hE h4).lo fun _ _ _ _ hy => .then (zHR hE _ _ hy) fun _ _ _ _ hz => .okk hz _
theorem zFr {a:List Tok} {x x':PS} (h:J e r a x x'):LO e r a (typQ x) (typQ x'):=
 .then (inner_lo hE h) fun _ _ _ _ hy => .ite (fun _=>Iff.rfl) (fun _ => .err) fun _ => .okk hy _
theorem zG7 {v v':PS->PR D} (hv : ∀ {a:List Tok} {x x':PS},J e r a x x'->LO e r a (v x) (v' x')) : ∀ (f g:Nat) (acc:List D) {a:List Tok} {x x':PS},f<=g->J e r a x x'->LS e r a (itemsQ v f acc x) (itemsQ v' g acc x')
 |0,_,_,_,_,_,_,_ => .err
 |f+1,0,_,_,_,_,hfg,_=>by omega
 |f+1,g+1,acc,a,x,x',hfg,h=>by
  unfold itemsQ
  refine .ite (h.sg _) (fun hs => ?_) fun _ => .then (hv h) fun _ _ _ _ hy=>zG7 hv f g _ (by omega) hy
  obtain ⟨t,a',rfl,h'⟩:=h.ne_of_isS hE hs
  exact .okn h' _
theorem zFF {v v':PS->PR D} (hv : ∀ {a:List Tok} {x x':PS},J e r a x x'->LO e r a (v x) (v' x')) : ∀ (f g:Nat) (ks:List (List UInt8)) (acc:List D) {a:List Tok} {x x':PS},f<=g->J e r a x x'->LS e r a (z7 v f ks acc x) (z7 v' g ks acc x')
 |0,_,_,_,_,_,_,_,_ => .err
 |f+1,0,_,_,_,_,_,hfg,_=>by omega
 |f+1,g+1,ks,acc,a,x,x',hfg,h=>by
  unfold z7
  refine .ite (h.sg _) (fun hs => ?_) fun _ => .then (zAd hE h).lo fun k _ _ _ hy => .ite (fun _=>Iff.rfl) (fun _ => .err) fun _ => .then (zAw hE hy _).lo fun _ _ _ _ hz => .then (hv hz) fun _ _ _ _ hu=>zFF hv f g _ _ (by omega) hu
  obtain ⟨t,a',rfl,h'⟩:=h.ne_of_isS hE hs
  exact .okn h' _
theorem zB7 : ∀ (f lv:Nat) {a:List Tok} {x x':PS},J e r a x x'->LO e r a (valueQ f lv x) (valueQ f lv x')
 |0,_,_,_,_,_ => .err
 |f+1,lv,a,x,x',h=>by
  by_cases ha:a=[]
  . intro v y hp
    subst ha
    have hk:=h.k5 hE
    unfold valueQ at hp
    rw [if_pos (by unfold zBQ;rw [hk];rfl)] at hp
    cases hp
  . have hh:=h.hd ha
    have hn:zBQ x'=zBQ x:=by unfold zBQ isS;rw [hh,h.vr]
    unfold valueQ
    rw [hn,hh,h.nd]
    refine .ite (fun _=>Iff.rfl) (fun _ => .err) fun hno => ?_
    obtain ⟨t,a',rfl,h'⟩:=h.ne_of_k hE (fun hk=>hno (by unfold zBQ;rw [hk];rfl))
    have hy:J e r a' { nxT x with nd:=x.nd+1 } { nxT x' with nd:=x.nd+1 }:=⟨h'.l,h'.r,h'.vr,rfl⟩
    have hlen:(nxT x).ts.length<=(nxT x').ts.length:=h'.len hE
    refine .ite (fun _=>Iff.rfl) (fun _ => .err) fun _ => .ite (fun _=>Iff.rfl) (fun _ => .err) fun _ => ?_
    dsimp only
    refine LO.mono (b:=a') ?_ ⟨[t],rfl⟩
    refine .ite (fun _=>Iff.rfl) (fun _ => .okk hy _) fun _ => .ite (fun _=>Iff.rfl) (fun _ => .okk hy _) fun _ => .ite (fun _=>Iff.rfl) (fun _ => .okk hy _) fun _ => .ite (fun _=>Iff.rfl) (fun _ => .then (zAd hE hy).lo fun _ _ _ _ hz => .okk hz _) fun _ => .ite (fun _=>Iff.rfl) (fun _ => ?_) fun _ => ?_
    . exact .then (zG7 hE (fun h=>zB7 f (lv+1) h) _ _ _ (by omega) hy).lo fun _ _ _ _ hz => .okk hz _
    . exact .then (zFF hE (fun h=>zB7 f (lv+1) h) _ _ _ _ (by omega) hy).lo fun _ _ _ _ hz => .okk hz _
theorem zCt {a:List Tok} {x x':PS} (h:J e r a x x'):LO e r a (zAQ x) (zAQ x'):=zB7 hE _ _ ⟨h.l,h.r,h.vr,rfl⟩
theorem zLM : ∀ (f g:Nat) (acc:List D) {a:List Tok} {x x':PS},f<=g->J e r a x x'->LS e r a (zDO f acc x) (zDO g acc x')
 |0,_,_,_,_,_,_,_ => .err
 |f+1,0,_,_,_,_,hfg,_=>by omega
 |f+1,g+1,acc,a,x,x',hfg,h=>by
  unfold zDO
  refine .ite (fun ha=>by rw [h.sg _ ha]) (fun hs => ?_) fun _ => .ite (fun ha=>by rw [h.hd ha]) (fun _ => .err) fun _ => .then (zAd hE h).lo fun _ _ _ _ hy => .then (zAw hE hy _).lo fun _ _ _ _ hz => .then (zCt hE hz) fun _ _ _ _ hu=>zLM f g _ (by omega) hu
  obtain ⟨t,a',rfl,h'⟩:=h.ne_of_isS hE hs.2
  exact .okn h' _
theorem zHV {a:List Tok} {x x':PS} (h:J e r a x x'):LO e r a (zBe x) (zBe x'):=by
 unfold zBe
 refine .ite (h.sg _) (fun hs => ?_) fun _ => .okk h _
 obtain ⟨t,a',rfl,h'⟩:=h.ne_of_isS hE hs
 exact (zLM hE _ _ _ (h.len hE) h').lo.mono ⟨[t],rfl⟩
theorem zKz : ∀ (f g:Nat) (acc:List D) {a:List Tok} {x x':PS},f<=g->J e r a x x'->LO e r a (dirsF f acc x) (dirsF g acc x')
 |0,_,_,_,_,_,_,_ => .err
 |f+1,0,_,_,_,_,hfg,_=>by omega
 |f+1,g+1,acc,a,x,x',hfg,h=>by
  unfold dirsF
  refine .ite (h.sg _) (fun hs => ?_) fun _ => .okk h _
  obtain ⟨t,a',rfl,h'⟩:=h.ne_of_isS hE hs
  exact LO.mono (b:=a') (.ite (fun _=>Iff.rfl) (fun _ => .err) fun _ => .then (zAd hE h').lo fun _ _ _ _ hy => .then (zHV hE hy) fun _ _ _ _ hz=>zKz f g _ (by omega) hz) ⟨[t],rfl⟩
theorem zBx {a:List Tok} {x x':PS} (h:J e r a x x'):LO e r a (zAS x) (zAS x'):=zKz hE _ _ _ (by have:=h.len hE;omega) h
theorem sel_lo {v v':PS->PR (List D)} (hv : ∀ {a:List Tok} {x x':PS},J e r a x x'->LO e r a (v x) (v' x')) {a:List Tok} {x x':PS} (h:J e r a x x'):LO e r a (selQ v x) (selQ v' x'):=by
 unfold selQ
 refine .ite (h.sg _) (fun hs => ?_) fun _ => ?_
 . obtain ⟨t,a',rfl,h'⟩:=h.ne_of_isS hE hs
   refine LO.mono (b:=a') ?_ ⟨[t],rfl⟩
   dsimp only
   refine .ite (fun ha=>by rw [h'.hd ha]) (fun hk => ?_) fun _ => ?_
   . obtain ⟨t2,a2,rfl,h2⟩:=h'.ne_of_k hE (by rw [hk.1];decide)
     rw [h'.hd (by simp)]
     exact LO.mono (b:=a2) (.then (zBx hE h2) fun _ _ _ _ hz => .okk hz _) ⟨[t2],rfl⟩
   . refine .then (.ite (fun ha=>by rw [h'.hd ha]) (fun hk => ?_) fun _ => .okk h' _) fun _ _ _ _ hz => .then (zBx hE hz) fun _ _ _ _ hu => .then (hv hu) fun _ _ _ _ ho => .okk ho _
     obtain ⟨t2,a2,rfl,h2⟩:=h'.ne_of_k hE (by rw [hk];decide)
     exact (zAd hE h2).lo.mono ⟨[t2],rfl⟩
 . refine .then (zAd hE h).lo fun n _ y y' hy => .then (.ite (hy.sg _) (fun hs => ?_) fun _ => .okk hy _) fun _ _ _ _ hz => .then (zHV hE hz) fun _ _ _ _ hu => .then (zBx hE hu) fun _ _ _ _ hw => .then (.ite (hw.sg _) (fun _=>hv hw) fun _ => .okk hw _) fun _ _ _ _ ho => .okk ho _
   obtain ⟨t2,a2,rfl,h2⟩:=hy.ne_of_isS hE hs
   exact LO.mono (b:=a2) (.then (zAd hE h2).lo fun _ _ _ _ hz => .okk hz _) ⟨[t2],rfl⟩
theorem setF_ls {v v':PS->PR D} (hv : ∀ {a:List Tok} {x x':PS},J e r a x x'->LO e r a (v x) (v' x')) : ∀ (f g:Nat) (acc:List D) {a:List Tok} {x x':PS},f<=g->J e r a x x'->LS e r a (setF v f acc x) (setF v' g acc x')
 |0,_,_,_,_,_,_,_ => .err
 |f+1,0,_,_,_,_,hfg,_=>by omega
 |f+1,g+1,acc,a,x,x',hfg,h=>by
  unfold setF
  refine .ite (fun ha=>by rw [h.sg _ ha]) (fun hs => ?_) fun _ => .ite (fun ha=>by rw [h.hd ha,h.sg _ ha]) (fun _ => .err) fun _ => .then (hv h) fun _ _ _ _ hy=>setF_ls hv f g _ (by omega) hy
  obtain ⟨t,a',rfl,h'⟩:=h.ne_of_isS hE hs.2
  exact .okn h' _
theorem sels_ls : ∀ (f lv:Nat) {a:List Tok} {x x':PS},J e r a x x'->LS e r a (selsQ f lv x) (selsQ f lv x')
 |0,_,_,_,_,_ => .err
 |f+1,lv,a,x,x',h=>by
  unfold selsQ
  refine .ite (fun ha=>by rw [h.sg _ ha]) (fun _ => .err) fun _ => .then (zAw hE h _).lo fun _ _ y y' hy => ?_
  exact setF_ls hE (fun h=>sel_lo hE (fun h=>(sels_ls f (lv+1) h).lo) h) _ _ _ (by have:=hy.len hE;omega) hy
theorem set_ls {a:List Tok} {x x':PS} (h:J e r a x x'):LS e r a (setQ x) (setQ x'):=sels_ls hE _ _ h
theorem zJm : ∀ (f g:Nat) (acc:List D) {a:List Tok} {x x':PS},f<=g->J e r a x x'->LS e r a (varsF f acc x) (varsF g acc x')
 |0,_,_,_,_,_,_,_ => .err
 |f+1,0,_,_,_,_,hfg,_=>by omega
 |f+1,g+1,acc,a,x,x',hfg,h=>by
  unfold varsF
  refine .ite (fun ha=>by rw [h.sg _ ha]) (fun hs => ?_) fun _ => .ite (fun ha=>by rw [h.sg _ ha]) (fun _ => .err) fun _ => .then (zAw hE h _).lo fun _ _ _ _ hy => .then (zAd hE hy).lo fun _ _ _ _ hz => .then (zAw hE hz _).lo fun _ _ _ _ hu => .then (zFr hE hu) fun _ _ v v' hv => .then (.ite (hv.sg _) (fun hs => ?_) fun _ => .okk hv _) fun _ _ _ _ ho=>zJm f g _ (by omega) ho
  . obtain ⟨t,a',rfl,h'⟩:=h.ne_of_isS hE hs.2
    exact .okn h' _
  . obtain ⟨t,a',rfl,h'⟩:=hv.ne_of_isS hE hs
    exact LO.mono (b:=a') (.then (zCt hE (x:={ nxT v with vr:=false }) (x':={ nxT v' with vr:=false }) ⟨h'.l,h'.r,rfl,h'.nd⟩) fun _ _ o o' ho => .okk (x:={ o with vr:=true }) (x':={ o' with vr:=true }) ⟨ho.l,ho.r,rfl,ho.nd⟩ _) ⟨[t],rfl⟩
theorem op_ls (k:Int) {a:List Tok} {x x':PS} (h:J e r a x x'):LS e r a (opQ k x) (opQ k x'):=by
 unfold opQ
 refine .then (.ite (fun ha=>by rw [h.hd ha]) (fun hk => ?_) fun _ => .okk h _) fun _ _ y y' hy => .then (.ite (hy.sg _) (fun hs => ?_) fun _ => .okk hy _) fun _ _ _ _ hz => .pure (set_ls hE hz) fun _ _ u u' hu=>⟨_,u,u',rfl,rfl,hu⟩
 . obtain ⟨t,a',rfl,h'⟩:=h.ne_of_k hE (by rw [hk];decide)
   rw [h.hd (by simp)]
   exact (LS.okn h' _).lo
 . obtain ⟨t,a',rfl,h'⟩:=hy.ne_of_isS hE hs
   exact (zJm hE _ _ _ (hy.len hE) h').lo.mono ⟨[t],rfl⟩
end
end
section
def En (x:PS):Prop:=∃ a e,x.ts=a++[e]/\e.k=5 /\ ∀ t∈x.ts,t.s.length<=100000
theorem En.cons {x:PS} (h:En x) : ∃ t r,x.ts=t::r:=by
 obtain ⟨a,e,h1,-⟩:=h
 rw [h1]
 cases a with
 |nil=>exact ⟨e,[],rfl⟩
 |cons t a=>exact ⟨t,a++[e],rfl⟩
theorem En.lo {α:Type} {x y:PS} {v:α} (h:En x) {p:PS->PR α} (hp : ∀ {e:Tok} {a:List Tok} {x x':PS},Ends e [e]->J e [e] a x x'->LO e [e] a (p x) (p x')) (hq:p x = .ok (v,y)):En y/\y.ts.length<=x.ts.length:=by
 obtain ⟨a,e,h1,h2,h4⟩:=h
 obtain ⟨b,⟨d,hd⟩,h3,-⟩:=hp (e:=e) (a:=a) (x:=x) (x':=x) ⟨h2,by simp⟩ ⟨h1,h1,rfl,rfl⟩ v y hq
 exact ⟨⟨b,e,h3,h2,fun t ht=>h4 t (by rw [h1,hd];rw [h3] at ht;simp at ht |-;exact .inr ht)⟩,by rw [h3,h1,hd];simp⟩
theorem En.ls {α:Type} {x y:PS} {v:α} (h:En x) {p:PS->PR α} (hp : ∀ {e:Tok} {a:List Tok} {x x':PS},Ends e [e]->J e [e] a x x'->LS e [e] a (p x) (p x')) (hq:p x = .ok (v,y)):En y/\y.ts.length<x.ts.length:=by
 obtain ⟨a,e,h1,h2,h4⟩:=h
 obtain ⟨b,y',⟨t,d,hd⟩,-,h3⟩:=hp (e:=e) (a:=a) (x:=x) (x':=x) ⟨h2,by simp⟩ ⟨h1,h1,rfl,rfl⟩ v y hq
 exact ⟨⟨b,e,h3.l,h2,fun t ht=>h4 t (by rw [h1,hd];rw [h3.l] at ht;simp at ht |-;exact .inr (.inr ht))⟩,by rw [h3.l,h1,hd];simp;omega⟩
theorem En.name {x y:PS} {v:List UInt8} (h:En x) (hq:nameQ x = .ok (v,y)):En y/\y.ts.length<x.ts.length:=h.ls (p:=nameQ) (fun hE h=>zAd hE h) hq
theorem En.take {x y:PS} {s:List UInt8} (h:En x) (hq:takeQ s x = .ok ((),y)):En y/\y.ts.length<x.ts.length:=h.ls (p:=takeQ s) (fun hE h=>zAw hE h s) hq
theorem En.typ {x y:PS} {v:D} (h:En x) (hq:typQ x = .ok (v,y)):En y/\y.ts.length<=x.ts.length:=h.lo (p:=typQ) (fun hE h=>zFr hE h) hq
theorem En.value {f lv:Nat} {x y:PS} {v:D} (h:En x) (hq:valueQ f lv x = .ok (v,y)):En y/\y.ts.length<=x.ts.length:=h.lo (p:=valueQ f lv) (fun hE h=>zB7 hE f lv h) hq
theorem En.whole {x y:PS} {v:D} (h:En x) (hq:zAQ x = .ok (v,y)):En y/\y.ts.length<=x.ts.length:=h.lo (p:=zAQ) (fun hE h=>zCt hE h) hq
theorem En.args {x y:PS} {v:List D} (h:En x) (hq:zBe x = .ok (v,y)):En y/\y.ts.length<=x.ts.length:=h.lo (p:=zBe) (fun hE h=>zHV hE h) hq
theorem En.dirs {x y:PS} {v:List D} (h:En x) (hq:zAS x = .ok (v,y)):En y/\y.ts.length<=x.ts.length:=h.lo (p:=zAS) (fun hE h=>zBx hE h) hq
theorem En.op {k:Int} {x y:PS} {v:D} (h:En x) (hq:opQ k x = .ok (v,y)):En y/\y.ts.length<x.ts.length:=h.ls (p:=opQ k) (fun hE h=>op_ls hE k h) hq
theorem En.nx {x:PS} (h:En x) (hk:(hdT x).k≠5):En (nxT x)/\(nxT x).ts.length<x.ts.length:=by
 obtain ⟨a,e,h1,h2,h4⟩:=h
 have hJ:J e [e] a x x:=⟨h1,h1,rfl,rfl⟩
 obtain ⟨t,a',rfl,h3⟩:=hJ.ne_of_k (e:=e) (r:=[e]) ⟨h2,by simp⟩ hk
 exact ⟨⟨a',e,h3.l,h2,fun t ht=>h4 t (by rw [h1];rw [h3.l] at ht;simp at ht |-;exact .inr ht)⟩,by rw [h3.l,h1];simp⟩
theorem En.hd {x:PS} (h:En x):(hdT x).s.length<=100000:=by
 obtain ⟨t,r,ht⟩:=h.cons
 obtain ⟨a,e,-,-,h4⟩:=h
 have:hdT x=t:=by unfold hdT;rw [ht];rfl
 rw [this]
 exact h4 t (by rw [ht];simp)
theorem En.sg {x:PS} {s:List UInt8} (h:En x) (hk:isS x s=true):En (nxT x)/\(nxT x).ts.length<x.ts.length:=by
 refine h.nx ?_
 unfold isS at hk
 simp only [Bool.and_eq_true,beq_iff_eq] at hk
 rw [hk.1];decide
theorem En.nx0 {x:PS} (h:En x):En (nxT x):=by
 by_cases hk:(hdT x).k=5
 . have:nxT x=x:=by unfold nxT;rw [if_pos hk]
   rw [this];exact h
 . exact (h.nx hk).1
theorem En.valueL {f lv:Nat} {x y:PS} {v:D} (h:En x) (hq:valueQ f lv x = .ok (v,y)):En y/\y.ts.length<x.ts.length:=by
 refine ⟨(h.value hq).1,?_⟩
 cases f with
 |zero=>cases hq
 |succ f =>
  unfold valueQ at hq
  split at hq
  . cases hq
  . rename_i hno
    have hk:(hdT x).k≠5:=fun hk=>hno (by unfold zBQ;rw [hk];rfl)
    have h1:=h.nx hk
    have hy:En ({ nxT x with nd:=x.nd+1 }:PS):=h1.1
    split at hq
    . cases hq
    split at hq
    . cases hq
    dsimp only at hq
    split at hq
    . cases hq;exact h1.2
    split at hq
    . cases hq;exact h1.2
    split at hq
    . cases hq;exact h1.2
    split at hq
    . have:=(hy.lo (p:=fun x=>zY (nameQ x) fun n z => .ok (valD 7 0 n [] [],z)) (fun hE h => .then (zAd hE h).lo fun _ _ _ _ hz => .okk hz _) hq).2
      exact Nat.lt_of_le_of_lt this h1.2
    split at hq
    . have:=(hy.lo (p:=fun x=>zY (itemsQ (valueQ f (lv+1)) (x.ts.length+1) [] x) fun l z => .ok (valD 5 0 [] l [],z)) (fun hE h => .then (zG7 hE (fun h=>zB7 hE f (lv+1) h) _ _ _ (by have:=h.len hE;omega) h).lo fun _ _ _ _ hz => .okk hz _) hq).2
      exact Nat.lt_of_le_of_lt this h1.2
    . have:=(hy.lo (p:=fun x=>zY (z7 (valueQ f (lv+1)) (x.ts.length+1) [] [] x) fun l z => .ok (valD 6 0 [] l.2 l.1,z)) (fun hE h => .then (zFF hE (fun h=>zB7 hE f (lv+1) h) _ _ _ _ (by have:=h.len hE;omega) h).lo fun _ _ _ _ hz => .okk hz _) hq).2
      exact Nat.lt_of_le_of_lt this h1.2
end
section
open Go.RowKit
attribute [local irreducible] wpList Calls Code.wp AW AWo OpOk seqK zq zu loopK endK AC zf Yld Sub
attribute [local irreducible] ACB ACX ACE absLexG YldG
theorem zC5:z8 Tryz.prog 46=some (3,8):=by kernel_rfl
theorem zEG {s:List UInt8} {a:Array UInt8} (h:((bs s).toList==(⟨a⟩:ByteArray).toList)=true):s=a.toList:=by
 rw [Lib.toList_data,Lib.toList_data,zAH] at h
 simpa using h
theorem zBJ {s:List UInt8} {a:Array UInt8} (h:((bs s).toList==(⟨a⟩:ByteArray).toList)=false):s≠a.toList:=by
 rw [Lib.toList_data,Lib.toList_data,zAH] at h
 simpa using h
noncomputable def VV (d:D):V:=.agg (cellsV Tryz.prog 12 53 d)
theorem vInt_ac (n:Int):AC EN5 Tryz.prog 227 [.c (.int .i64 n)] (VV (valD 2 n [] [] [])):=by
 refine zP 5 Tryz.func227 rfl rfl rfl rfl ?_
 intro s w he
 repeat' (first
|apply zAD (VV (valD 2 n [] [] [])) rfl rfl
 . conv=>lhs;whnf;arg 2;whnf
 . repeat' (first | exact VLe.refl _ | exact VLe.nil _ | exact VLe.lit _ _ | exact VLe.own _ _ _ | apply VLe.agg | apply VLeL.cons | exact VLeL.nil)
|refine zA ?_
|refine zB ?_
|refine zF ?_
|apply aw_1
 conv=>whnf
 refine ⟨?_,trivial⟩
|apply s_1
 conv=>whnf;arg 1;arg 4;arg 3;whnf
 refine ⟨?_,?_⟩
|apply zI rfl rfl rfl
 . conv=>lhs;whnf
 . conv=>lhs;whnf;arg 1;whnf
 . conv=>lhs;whnf;arg 1;whnf
 . exact ⟨by kernel_rfl,by kernel_rfl⟩
 . rfl
|refine zE ?_
|refine ⟨_,by conv=>lhs;whnf;arg 2;whnf,?_⟩;conv=>rhs;whnf
|exact trivial)
 rfl
theorem vText_ac (t:List UInt8):AC EN5 Tryz.prog 228 [.c (.string (bs t))] (VV (valD 3 0 t [] [])):=by
 refine zP 5 Tryz.func228 rfl rfl rfl rfl ?_
 intro s w he
 repeat' (first
|apply zAD (VV (valD 3 0 t [] [])) rfl rfl
 . conv=>lhs;whnf;arg 2;whnf
 . repeat' (first | exact VLe.refl _ | exact VLe.nil _ | exact VLe.lit _ _ | exact VLe.own _ _ _ | apply VLe.agg | apply VLeL.cons | exact VLeL.nil)
|refine zA ?_
|refine zB ?_
|refine zF ?_
|apply aw_1
 conv=>whnf
 refine ⟨?_,trivial⟩
|apply s_1
 conv=>whnf;arg 1;arg 4;arg 3;whnf
 refine ⟨?_,?_⟩
|apply zI rfl rfl rfl
 . conv=>lhs;whnf
 . conv=>lhs;whnf;arg 1;whnf
 . conv=>lhs;whnf;arg 1;whnf
 . exact ⟨by kernel_rfl,by kernel_rfl⟩
 . rfl
|refine zE ?_
|refine ⟨_,by conv=>lhs;whnf;arg 2;whnf,?_⟩;conv=>rhs;whnf
|exact trivial)
 rfl
theorem vEnum_ac (t:List UInt8):AC EN5 Tryz.prog 248 [.c (.string (bs t))] (VV (valD 4 0 t [] [])):=by
 refine zP 5 Tryz.func248 rfl rfl rfl rfl ?_
 intro s w he
 repeat' (first
|apply zAD (VV (valD 4 0 t [] [])) rfl rfl
 . conv=>lhs;whnf;arg 2;whnf
 . repeat' (first | exact VLe.refl _ | exact VLe.nil _ | exact VLe.lit _ _ | exact VLe.own _ _ _ | apply VLe.agg | apply VLeL.cons | exact VLeL.nil)
|refine zA ?_
|refine zB ?_
|refine zF ?_
|apply aw_1
 conv=>whnf
 refine ⟨?_,trivial⟩
|apply s_1
 conv=>whnf;arg 1;arg 4;arg 3;whnf
 refine ⟨?_,?_⟩
|apply zI rfl rfl rfl
 . conv=>lhs;whnf
 . conv=>lhs;whnf;arg 1;whnf
 . conv=>lhs;whnf;arg 1;whnf
 . exact ⟨by kernel_rfl,by kernel_rfl⟩
 . rfl
|refine zE ?_
|refine ⟨_,by conv=>lhs;whnf;arg 2;whnf,?_⟩;conv=>rhs;whnf
|exact trivial)
 rfl
theorem vBool_ac (b:Bool):AC EN5 Tryz.prog 247 [.c (.bool b)] (VV (valD 1 (if b=true then 1 else 0) [] [] [])):=by
 refine zP 8 Tryz.func247 rfl rfl rfl rfl ?_
 intro s w he
 repeat' (first
|apply zAD (VV (valD 1 0 [] [] [])) rfl rfl
 . conv=>lhs;whnf;arg 2;whnf
 . repeat' (first | exact VLe.refl _ | exact VLe.nil _ | exact VLe.lit _ _ | exact VLe.own _ _ _ | apply VLe.agg | apply VLeL.cons | exact VLeL.nil)
|refine zA ?_
|refine zB ?_
|refine zF ?_
|apply aw_1
 conv=>whnf
 refine ⟨?_,trivial⟩
|apply s_1
 conv=>whnf;arg 1;arg 4;arg 3;whnf
 refine ⟨?_,?_⟩
|apply zI rfl rfl rfl
 . conv=>lhs;whnf
 . conv=>lhs;whnf;arg 1;whnf
 . conv=>lhs;whnf;arg 1;whnf
 . exact ⟨by kernel_rfl,by kernel_rfl⟩
 . rfl
|refine ze (by conv=>lhs;whnf) ?_ ?_<;>intro hb
|refine zE ?_
|refine ⟨_,by conv=>lhs;whnf;arg 2;whnf,?_⟩;conv=>rhs;whnf
|exact trivial)
 . rw [if_pos hb];rfl
 . rw [if_neg (by rw [hb];decide)];rfl
end
section
def sInD (n:List UInt8) (t:D) (h:Bool) (v:D) (ds:List D):D:=.obj [strD n,t,.bool h,v,.list ds]
def sFdD (n:List UInt8) (aa:List D) (t:D) (ds:List D):D:=.obj [strD n,.list aa,t,.list ds]
def sMbD (n:List UInt8) (ds:List D):D:=.obj [strD n,.list ds]
def sDfD (k:Int) (n:List UInt8) (im ds fs ms ins:List D):D:=.obj [.int k,strD n,.list im,.list ds,.list fs,.list ms,.list ins]
def zDL (l:List D):D:=.obj [.list l]
def manyF (el:PS->PR D) (e:List UInt8) (most:Nat):Nat->List D->PS->PR (List D)
 |0,_,x => .error ((hdT x).i,0)
 |f+1,acc,x =>
  if acc.length≠0/\isS x e=true then .ok (acc,nxT x)
  else if (hdT x).k=2/\most<=acc.length then .error ((hdT x).i,4)
  else zY (el x) fun a y=>manyF el e most f (acc++[a]) y
def argQ (x:PS):PR D:=zY (nameQ x) fun n y=>zY (takeQ [58] y) fun _ z=>zY (zAQ z) fun v u => .ok (argD n v,u)
theorem zDG {α β γ:Type} (r:PR α) (f:α->PS->PR β) (g:β->PS->PR γ):zY (zY r f) g=zY r fun a x=>zY (f a x) g:=by
 cases r<;>rfl
theorem zCN : ∀ (f:Nat) (acc:List D) (x:PS),zDO f acc x=manyF argQ [41] 16 f acc x
 |0,_,_=>rfl
 |f+1,acc,x=>by
  unfold zDO manyF argQ
  split
  . rfl
  split
  . rfl
  . simp only [zDG]
    congr 1;funext n y;congr 1;funext _ z;congr 1;funext v u
    exact zCN f _ _
def inQ (x:PS):PR D:=
 zY (nameQ x) fun n y=>zY (takeQ [58] y) fun _ z=>zY (typQ z) fun t u =>
  zY (if isS u [61]=true then zY (zAQ (nxT u)) fun d o => .ok ((true,d),o) else .ok ((false,zA5),u)) fun d v =>
   zY (zAS v) fun ds w => .ok (sInD n t d.1 d.2 ds,w)
def insQ (e:List UInt8) (x:PS):PR (List D):=manyF inQ e 16 (x.ts.length+1) [] x
def fdQ (x:PS):PR D:=
 zY (nameQ x) fun n y=>zY (if isS y [40]=true then insQ [41] (nxT y) else .ok ([],y)) fun aa z =>
  zY (takeQ [58] z) fun _ u=>zY (typQ u) fun t v=>zY (zAS v) fun ds w => .ok (sFdD n aa t ds,w)
def mbQ (x:PS):PR D:=zY (nameQ x) fun n y=>zY (zAS y) fun ds z => .ok (sMbD n ds,z)
def fdsQ (x:PS):PR (List D):=manyF fdQ [125] 64 (x.ts.length+1) [] x
def mbsQ (x:PS):PR (List D):=manyF mbQ [125] 64 (x.ts.length+1) [] x
def namesF (s:List UInt8):Nat->List D->PS->PR (List D)
 |0,_,x => .error ((hdT x).i,0)
 |f+1,acc,x =>
  if (hdT x).k=2/\64<=acc.length then .error ((hdT x).i,4)
  else zY (nameQ x) fun n y=>if isS y s=true then namesF s f (acc++[strD n]) (nxT y) else .ok (acc++[strD n],y)
def zA7 (s:List UInt8) (x:PS):PR (List D):=namesF s (x.ts.length+1) [] x
def zFj:List UInt8:=[105,109,112,108,101,109,101,110,116,115]
def zIy:List UInt8:=[116,121,112,101]
def zGE:List UInt8:=[105,110,116,101,114,102,97,99,101]
def zHh:List UInt8:=[117,110,105,111,110]
def enumT:List UInt8:=[101,110,117,109]
def inputT:List UInt8:=[105,110,112,117,116]
def kindS (s:List UInt8):Int:=if s=zIy then 1 else if s=zGE then 2 else if s=zHh then 3 else if s=enumT then 4 else if s=inputT then 5 else 0
def zAs (k:Int) (x:PS):PR (List D):=if k=1/\(hdT x).k=2/\(hdT x).s=zFj then zA7 [38] (nxT x) else .ok ([],x)
def mbOf (d:D):D:=.obj [d,.list []]
def zBb (k:Int) (x:PS):PR (List D × List D × List D):=
 if k=3 then zY (takeQ [61] x) fun _ y=>zY (zA7 [124] y) fun l z => .ok (([],l.map mbOf,[]),z)
 else zY (takeQ [123] x) fun _ y =>
  if k=5 then zY (insQ [125] y) fun l z => .ok (([],[],l),z)
  else if k=4 then zY (mbsQ y) fun l z => .ok (([],l,[]),z)
  else zY (fdsQ y) fun l z => .ok ((l,[],[]),z)
def zBf (k:Int) (x:PS):PR D:=
 zY (nameQ x) fun n y=>zY (zAs k y) fun im z=>zY (zAS z) fun ds u=>zY (zBb k u) fun b v =>
  .ok (sDfD k n im ds b.1 b.2.1 b.2.2,v)
def sdocF:Nat->List D->PS->PR (List D)
 |0,_,x => .error ((hdT x).i,0)
 |f+1,acc,x =>
  if acc.length≠0/\(hdT x).k=5 then .ok (acc,x)
  else if ¬ ((hdT x).k=2/\0<kindS (hdT x).s) then .error ((hdT x).i,3)
  else if 64<=acc.length then .error ((hdT x).i,4)
  else zY (zBf (kindS (hdT x).s) (nxT x)) fun d y=>sdocF f (acc++[d]) y
def zEv (ts:List Tok):PR (List D):=sdocF (ts.length+1) [] ⟨ts,false,0⟩
def parseD (l:List UInt8):Except (Nat × Int) D:=
 match zAp l with
 |.error e => .error e
 |.ok ts=>match zEv ts with
  |.error e => .error e
  |.ok (q,_) => .ok (zDL q)
theorem zEW (s:List UInt8):0<=kindS s/\kindS s<=5:=by
 unfold kindS
 repeat' split
 all_goals decide
section
variable {e:Tok} {r:List Tok} (hE:Ends e r)
include hE
theorem zG1 {el el':PS->PR D} (hv : ∀ {a:List Tok} {x x':PS},J e r a x x'->LO e r a (el x) (el' x')) (s:List UInt8) (most:Nat) : ∀ (f g:Nat) (acc:List D) {a:List Tok} {x x':PS},f<=g->J e r a x x'->LS e r a (manyF el s most f acc x) (manyF el' s most g acc x')
 |0,_,_,_,_,_,_,_ => .err
 |f+1,0,_,_,_,_,hfg,_=>by omega
 |f+1,g+1,acc,a,x,x',hfg,h=>by
  unfold manyF
  refine .ite (fun ha=>by rw [h.sg _ ha]) (fun hs => ?_) fun _ => .ite (fun ha=>by rw [h.hd ha]) (fun _ => .err) fun _ => .then (hv h) fun _ _ _ _ hy=>zG1 hv s most f g _ (by omega) hy
  obtain ⟨t,a',rfl,h'⟩:=h.ne_of_isS hE hs.2
  exact .okn h' _
theorem in_lo {a:List Tok} {x x':PS} (h:J e r a x x'):LO e r a (inQ x) (inQ x'):=by
 unfold inQ
 refine .then (zAd hE h).lo fun _ _ _ _ hy => .then (zAw hE hy _).lo fun _ _ _ _ hz => .then (zFr hE hz) fun _ _ u u' hu => .then (.ite (hu.sg _) (fun hs => ?_) fun _ => .okk hu _) fun _ _ _ _ hv => .then (zBx hE hv) fun _ _ _ _ hw => .okk hw _
 obtain ⟨t,a',rfl,h'⟩:=hu.ne_of_isS hE hs
 exact LO.mono (b:=a') (.then (zCt hE h') fun _ _ _ _ ho => .okk ho _) ⟨[t],rfl⟩
theorem ins_ls (s:List UInt8) {a:List Tok} {x x':PS} (h:J e r a x x'):LS e r a (insQ s x) (insQ s x'):=zG1 hE (in_lo hE) _ _ _ _ _ (by have:=h.len hE;omega) h
theorem fd_lo {a:List Tok} {x x':PS} (h:J e r a x x'):LO e r a (fdQ x) (fdQ x'):=by
 unfold fdQ
 refine .then (zAd hE h).lo fun _ _ y y' hy => .then (.ite (hy.sg _) (fun hs => ?_) fun _ => .okk hy _) fun _ _ _ _ hz => .then (zAw hE hz _).lo fun _ _ _ _ hu => .then (zFr hE hu) fun _ _ _ _ hv => .then (zBx hE hv) fun _ _ _ _ hw => .okk hw _
 obtain ⟨t,a',rfl,h'⟩:=hy.ne_of_isS hE hs
 exact LO.mono (b:=a') (ins_ls hE _ h').lo ⟨[t],rfl⟩
theorem mb_lo {a:List Tok} {x x':PS} (h:J e r a x x'):LO e r a (mbQ x) (mbQ x'):=.then (zAd hE h).lo fun _ _ _ _ hy => .then (zBx hE hy) fun _ _ _ _ hz => .okk hz _
theorem fds_ls {a:List Tok} {x x':PS} (h:J e r a x x'):LS e r a (fdsQ x) (fdsQ x'):=zG1 hE (fd_lo hE) _ _ _ _ _ (by have:=h.len hE;omega) h
theorem mbs_ls {a:List Tok} {x x':PS} (h:J e r a x x'):LS e r a (mbsQ x) (mbsQ x'):=zG1 hE (mb_lo hE) _ _ _ _ _ (by have:=h.len hE;omega) h
theorem zIE (s:List UInt8) : ∀ (f g:Nat) (acc:List D) {a:List Tok} {x x':PS},f<=g->J e r a x x'->LO e r a (namesF s f acc x) (namesF s g acc x')
 |0,_,_,_,_,_,_,_ => .err
 |f+1,0,_,_,_,_,hfg,_=>by omega
 |f+1,g+1,acc,a,x,x',hfg,h=>by
  unfold namesF
  refine .ite (fun ha=>by rw [h.hd ha]) (fun _ => .err) fun _ => .then (zAd hE h).lo fun _ _ y y' hy => .ite (hy.sg _) (fun hs => ?_) fun _ => .okk hy _
  obtain ⟨t,a',rfl,h'⟩:=hy.ne_of_isS hE hs
  exact (zIE s f g _ (by omega) h').mono ⟨[t],rfl⟩
theorem zGw (s:List UInt8) {a:List Tok} {x x':PS} (h:J e r a x x'):LO e r a (zA7 s x) (zA7 s x'):=zIE hE s _ _ _ (by have:=h.len hE;omega) h
theorem zKn (k:Int) {a:List Tok} {x x':PS} (h:J e r a x x'):LO e r a (zAs k x) (zAs k x'):=by
 unfold zAs
 refine .ite (fun ha=>by rw [h.hd ha]) (fun hk => ?_) fun _ => .okk h _
 obtain ⟨t,a',rfl,h'⟩:=h.ne_of_k hE (by rw [hk.2.1];decide)
 exact (zGw hE _ h').mono ⟨[t],rfl⟩
theorem body_lo (k:Int) {a:List Tok} {x x':PS} (h:J e r a x x'):LO e r a (zBb k x) (zBb k x'):=by
 unfold zBb
 refine .ite (fun _=>Iff.rfl) (fun _ => .then (zAw hE h _).lo fun _ _ _ _ hy => .then (zGw hE _ hy) fun _ _ _ _ hz => .okk hz _) fun _ => .then (zAw hE h _).lo fun _ _ _ _ hy => ?_
 exact .ite (fun _=>Iff.rfl) (fun _ => .then (ins_ls hE _ hy).lo fun _ _ _ _ hz => .okk hz _) fun _ => .ite (fun _=>Iff.rfl) (fun _ => .then (mbs_ls hE hy).lo fun _ _ _ _ hz => .okk hz _) fun _ => .then (fds_ls hE hy).lo fun _ _ _ _ hz => .okk hz _
theorem sdef_lo (k:Int) {a:List Tok} {x x':PS} (h:J e r a x x'):LO e r a (zBf k x) (zBf k x'):=
 .then (zAd hE h).lo fun _ _ _ _ hy => .then (zKn hE k hy) fun _ _ _ _ hz => .then (zBx hE hz) fun _ _ _ _ hu => .then (body_lo hE k hu) fun _ _ _ _ hv => .okk hv _
end
def VR {α:Type} (x:PS) (q:PR α):Prop:=∀ a y,q = .ok (a,y)->y.vr=x.vr
section
variable {α β:Type} {x y:PS}
theorem VR.err {e:Nat × Int}:VR (α:=α) x (.error e):=fun _ _ h=>by cases h
theorem VR.okk {a:α} (h:y.vr=x.vr):VR x (.ok (a,y)):=fun _ _ e=>by cases e;exact h
theorem VR.ite {c:Prop} [Decidable c] {p q:PR α} (h1:VR x p) (h2:VR x q):VR x (if c then p else q):=by split<;>assumption
theorem VR.then {q:PR α} {f:α->PS->PR β} (h:VR x q) (hf : ∀ a y,VR y (f a y)):VR x (zY q f):=fun a z e=>by
 cases hq:q with
 |error e'=>rw [hq] at e;cases e
 |ok p =>
  obtain ⟨b,y⟩:=p
  rw [hq] at e
  exact (hf b y a z e).trans (h b y hq)
theorem VR.of {q:PR α} (h:VR y q) (e:y.vr=x.vr):VR x q:=fun a z hq=>(h a z hq).trans e
theorem nx_vr1 (x:PS):(nxT x).vr=x.vr:=by unfold nxT;split<;>rfl
theorem zB9 (s:List UInt8) (x:PS):VR x (takeQ s x):=.ite (.okk (nx_vr1 x)) .err
theorem zBZ (x:PS):VR x (nameQ x):=.ite (.okk (nx_vr1 x)) .err
theorem open_vr : ∀ (f:Nat) (x:PS),(openQ f x).2.vr=x.vr
 |0,_=>rfl
 |f+1,x=>by
  unfold openQ
  split
  . exact (open_vr f (nxT x)).trans (nx_vr1 x)
  . rfl
theorem zK7 : ∀ (n:Nat) (w:List Int) (x:PS),VR x (closeQ n w x)
 |0,w,x=>fun a y h=>by
  unfold closeQ at h
  split at h
  . cases h;exact nx_vr1 x
  . cases h;rfl
 |n+1,w,x=>by
  unfold closeQ
  refine .then (.of (zB9 _ _) ?_) fun _ y=>zK7 n _ y
  split
  . exact nx_vr1 x
  . rfl
theorem inner_vr (x:PS):VR x (zAX x):=.then (.of (zBZ _) (open_vr _ x)) fun _ y => .then (zK7 _ _ y) fun _ _ => .okk rfl
theorem zJs (x:PS):VR x (typQ x):=.then (inner_vr x) fun _ _ => .ite .err (.okk rfl)
theorem zKU {v:PS->PR D} (hv : ∀ x,VR x (v x)) : ∀ (f:Nat) (acc:List D) (x:PS),VR x (itemsQ v f acc x)
 |0,_,_ => .err
 |f+1,acc,x => .ite (.okk (nx_vr1 x)) (.then (hv x) fun _ y=>zKU hv f _ y)
theorem zIN {v:PS->PR D} (hv : ∀ x,VR x (v x)) : ∀ (f:Nat) (ks:List (List UInt8)) (acc:List D) (x:PS),VR x (z7 v f ks acc x)
 |0,_,_,_ => .err
 |f+1,ks,acc,x => .ite (.okk (nx_vr1 x)) (.then (zBZ x) fun _ y => .ite .err (.then (zB9 _ y) fun _ z => .then (hv z) fun _ u=>zIN hv f _ _ u))
theorem zEN : ∀ (f lv:Nat) (x:PS),VR x (valueQ f lv x)
 |0,_,_ => .err
 |f+1,lv,x=>by
  have hy : ∀ n,({ nxT x with nd:=n }:PS).vr=x.vr:=fun _=>nx_vr1 x
  unfold valueQ
  refine .ite .err (.ite .err (.ite .err ?_))
  dsimp only
  exact .ite (.okk (hy _)) (.ite (.okk (hy _)) (.ite (.okk (hy _)) (.ite (.then (.of (zBZ _) (hy _)) fun _ _ => .okk rfl)
   (.ite (.then (.of (zKU (zEN f (lv+1)) _ _ _) (hy _)) fun _ _ => .okk rfl) (.then (.of (zIN (zEN f (lv+1)) _ _ _ _) (hy _)) fun _ _ => .okk rfl)))))
theorem zEM (x:PS):VR x (zAQ x):=fun a y h=>zEN 25 1 { x with nd:=0 } a y h
theorem zLI : ∀ (f:Nat) (acc:List D) (x:PS),VR x (zDO f acc x)
 |0,_,_ => .err
 |f+1,acc,x => .ite (.okk (nx_vr1 x)) (.ite .err (.then (zBZ x) fun _ y => .then (zB9 _ y) fun _ z => .then (zEM z) fun _ u=>zLI f _ u))
theorem args_vr (x:PS):VR x (zBe x):=.ite (.of (zLI _ _ _) (nx_vr1 x)) (.okk rfl)
theorem zKv : ∀ (f:Nat) (acc:List D) (x:PS),VR x (dirsF f acc x)
 |0,_,_ => .err
 |f+1,acc,x => .ite (.ite .err (.then (.of (zBZ _) (nx_vr1 x)) fun _ y => .then (args_vr y) fun _ z=>zKv f _ z)) (.okk rfl)
theorem zD1 (x:PS):VR x (zAS x):=zKv _ _ x
theorem zGx {el:PS->PR D} (hv : ∀ x,VR x (el x)) (s:List UInt8) (most:Nat) : ∀ (f:Nat) (acc:List D) (x:PS),VR x (manyF el s most f acc x)
 |0,_,_ => .err
 |f+1,acc,x => .ite (.okk (nx_vr1 x)) (.ite .err (.then (hv x) fun _ y=>zGx hv s most f _ y))
theorem in_vr (x:PS):VR x (inQ x):=.then (zBZ x) fun _ y => .then (zB9 _ y) fun _ z => .then (zJs z) fun _ u => .then (.ite (.then (.of (zEM _) (nx_vr1 u)) fun _ _ => .okk rfl) (.okk rfl)) fun _ v => .then (zD1 v) fun _ _ => .okk rfl
theorem ins_vr (s:List UInt8) (x:PS):VR x (insQ s x):=zGx in_vr _ _ _ _ _
theorem fd_vr (x:PS):VR x (fdQ x):=.then (zBZ x) fun _ y => .then (.ite (.of (ins_vr _ _) (nx_vr1 y)) (.okk rfl)) fun _ z => .then (zB9 _ z) fun _ u => .then (zJs u) fun _ v => .then (zD1 v) fun _ _ => .okk rfl
theorem mb_vr (x:PS):VR x (mbQ x):=.then (zBZ x) fun _ y => .then (zD1 y) fun _ _ => .okk rfl
theorem zDh (s:List UInt8) : ∀ (f:Nat) (acc:List D) (x:PS),VR x (namesF s f acc x)
 |0,_,_ => .err
 |f+1,acc,x => .ite .err (.then (zBZ x) fun _ y => .ite (.of (zDh s f _ _) (nx_vr1 y)) (.okk rfl))
theorem zKm (k:Int) (x:PS):VR x (zAs k x):=.ite (.of (zDh _ _ _ _) (nx_vr1 x)) (.okk rfl)
theorem body_vr (k:Int) (x:PS):VR x (zBb k x):=
 .ite (.then (zB9 _ x) fun _ y => .then (zDh _ _ _ y) fun _ _ => .okk rfl) (.then (zB9 _ x) fun _ y => .ite (.then (ins_vr _ y) fun _ _ => .okk rfl) (.ite (.then (zGx mb_vr _ _ _ _ y) fun _ _ => .okk rfl) (.then (zGx fd_vr _ _ _ _ y) fun _ _ => .okk rfl)))
theorem sdef_vr (k:Int) (x:PS):VR x (zBf k x):=.then (zBZ x) fun _ y => .then (zKm k y) fun _ z => .then (zD1 z) fun _ u => .then (body_vr k u) fun _ _ => .okk rfl
end
structure Sx (al:List Tok) (x:PS):Prop where
 en:En x
 vr:x.vr=false
 sf:x.ts <:+ al
theorem En.sf {α:Type} {x y:PS} {v:α} (h:En x) {p:PS->PR α} (hp : ∀ {e:Tok} {a:List Tok} {x x':PS},Ends e [e]->J e [e] a x x'->LO e [e] a (p x) (p x')) (hq:p x = .ok (v,y)):y.ts <:+ x.ts:=by
 obtain ⟨a,e,h1,h2,h4⟩:=h
 obtain ⟨b,⟨d,hd⟩,h3,-⟩:=hp (e:=e) (a:=a) (x:=x) (x':=x) ⟨h2,by simp⟩ ⟨h1,h1,rfl,rfl⟩ v y hq
 exact ⟨d,by rw [h3,h1,hd,List.append_assoc]⟩
section
variable {al:List Tok} {x y:PS} {α:Type} {v:α}
theorem Sx.lo (h:Sx al x) {p:PS->PR α} (hp : ∀ {e:Tok} {a:List Tok} {x x':PS},Ends e [e]->J e [e] a x x'->LO e [e] a (p x) (p x')) (hv:VR x (p x)) (hq:p x = .ok (v,y)):Sx al y/\y.ts.length<=x.ts.length:=
 ⟨⟨(h.en.lo hp hq).1,(hv v y hq).trans h.vr,(h.en.sf hp hq).trans h.sf⟩,(h.en.lo hp hq).2⟩
theorem Sx.ls (h:Sx al x) {p:PS->PR α} (hp : ∀ {e:Tok} {a:List Tok} {x x':PS},Ends e [e]->J e [e] a x x'->LS e [e] a (p x) (p x')) (hv:VR x (p x)) (hq:p x = .ok (v,y)):Sx al y/\y.ts.length<x.ts.length:=
 ⟨(h.lo (fun hE h=>(hp hE h).lo) hv hq).1,(h.en.ls hp hq).2⟩
theorem Sx.name {v:List UInt8} (h:Sx al x) (hq:nameQ x = .ok (v,y)):Sx al y/\y.ts.length<x.ts.length:=h.ls (fun hE h=>zAd hE h) (zBZ x) hq
theorem Sx.take {s:List UInt8} (h:Sx al x) (hq:takeQ s x = .ok ((),y)):Sx al y/\y.ts.length<x.ts.length:=h.ls (fun hE h=>zAw hE h s) (zB9 s x) hq
theorem Sx.typ {v:D} (h:Sx al x) (hq:typQ x = .ok (v,y)):Sx al y/\y.ts.length<=x.ts.length:=h.lo (fun hE h=>zFr hE h) (zJs x) hq
theorem Sx.value {f lv:Nat} {v:D} (h:Sx al x) (hq:valueQ f lv x = .ok (v,y)):Sx al y/\y.ts.length<x.ts.length:=⟨(h.lo (fun hE h=>zB7 hE f lv h) (zEN f lv x) hq).1,(h.en.valueL hq).2⟩
theorem Sx.whole {v:D} (h:Sx al x) (hq:zAQ x = .ok (v,y)):Sx al y/\y.ts.length<x.ts.length:=⟨(h.lo (fun hE h=>zCt hE h) (zEM x) hq).1,(En.valueL (x:={ x with nd:=0 }) h.en hq).2⟩
theorem Sx.args {v:List D} (h:Sx al x) (hq:zBe x = .ok (v,y)):Sx al y/\y.ts.length<=x.ts.length:=h.lo (fun hE h=>zHV hE h) (args_vr x) hq
theorem Sx.dirs {v:List D} (h:Sx al x) (hq:zAS x = .ok (v,y)):Sx al y/\y.ts.length<=x.ts.length:=h.lo (fun hE h=>zBx hE h) (zD1 x) hq
theorem Sx.ins {s:List UInt8} {v:List D} (h:Sx al x) (hq:insQ s x = .ok (v,y)):Sx al y/\y.ts.length<x.ts.length:=h.ls (fun hE h=>ins_ls hE s h) (ins_vr s x) hq
theorem Sx.names {s:List UInt8} {v:List D} (h:Sx al x) (hq:zA7 s x = .ok (v,y)):Sx al y/\y.ts.length<=x.ts.length:=h.lo (fun hE h=>zGw hE s h) (zDh s _ _ x) hq
theorem Sx.faces {k:Int} {v:List D} (h:Sx al x) (hq:zAs k x = .ok (v,y)):Sx al y/\y.ts.length<=x.ts.length:=h.lo (fun hE h=>zKn hE k h) (zKm k x) hq
theorem Sx.body {k:Int} {v:List D × List D × List D} (h:Sx al x) (hq:zBb k x = .ok (v,y)):Sx al y/\y.ts.length<=x.ts.length:=h.lo (fun hE h=>body_lo hE k h) (body_vr k x) hq
theorem Sx.sdef {k:Int} {v:D} (h:Sx al x) (hq:zBf k x = .ok (v,y)):Sx al y/\y.ts.length<=x.ts.length:=h.lo (fun hE h=>sdef_lo hE k h) (sdef_vr k x) hq
theorem zAh {α β:Type} {q:PR α} {f:α->PS->PR β} {b:β} {z:PS} (h:zY q f = .ok (b,z)) : ∃ a y,q = .ok (a,y)/\f a y = .ok (b,z):=by
 cases q with
 |error e=>cases h
 |ok p=>obtain ⟨a,y⟩:=p;exact ⟨a,y,rfl,h⟩
theorem Sx.arg {v:D} (h:Sx al x) (hq:argQ x = .ok (v,y)):Sx al y/\y.ts.length<x.ts.length:=by
 obtain ⟨n,z,h1,hq⟩:=zAh hq
 obtain ⟨u,z2,h2,hq⟩:=zAh hq
 obtain ⟨d,z3,h3,hq⟩:=zAh hq
 have a1:=h.name h1
 have a2:=a1.1.take h2
 have a3:=a2.1.whole h3
 cases hq
 exact ⟨a3.1,by omega⟩
theorem Sx.inp {v:D} (h:Sx al x) (hq:inQ x = .ok (v,y)):Sx al y/\y.ts.length<x.ts.length:=by
 refine ⟨(h.lo (fun hE h=>in_lo hE h) (in_vr x) hq).1,?_⟩
 obtain ⟨n,z,h1,h2⟩:=zAh hq
 have a1:=h.name h1
 have a2:=a1.1.lo (p:=fun y=>zY (takeQ [58] y) fun _ z=>zY (typQ z) fun t u=>zY (if isS u [61]=true then zY (zAQ (nxT u)) fun d o => .ok ((true,d),o) else .ok ((false,zA5),u)) fun d v=>zY (zAS v) fun ds w => .ok (sInD n t d.1 d.2 ds,w)) (fun hE h=>by
  refine .then (zAw hE h _).lo fun _ _ _ _ hz => .then (zFr hE hz) fun _ _ u u' hu => .then (.ite (hu.sg _) (fun hs => ?_) fun _ => .okk hu _) fun _ _ _ _ hv => .then (zBx hE hv) fun _ _ _ _ hw => .okk hw _
  obtain ⟨t,a',rfl,h'⟩:=hu.ne_of_isS hE hs
  exact LO.mono (b:=a') (.then (zCt hE h') fun _ _ _ _ ho => .okk ho _) ⟨[t],rfl⟩) (fun a y h=>(zB9 _ _).then (fun _ z => .then (zJs z) fun _ u => .then (.ite (.then (.of (zEM _) (nx_vr1 u)) fun _ _ => .okk rfl) (.okk rfl)) fun _ v => .then (zD1 v) fun _ _ => .okk rfl) a y h) h2
 omega
theorem Sx.fd {v:D} (h:Sx al x) (hq:fdQ x = .ok (v,y)):Sx al y/\y.ts.length<x.ts.length:=by
 refine ⟨(h.lo (fun hE h=>fd_lo hE h) (fd_vr x) hq).1,?_⟩
 obtain ⟨n,z,h1,h2⟩:=zAh hq
 have a1:=h.name h1
 obtain ⟨aa,z1,h3,h4⟩:=zAh h2
 obtain ⟨u,z2,h5,h6⟩:=zAh h4
 obtain ⟨t,z3,h7,h8⟩:=zAh h6
 obtain ⟨ds,z4,h9,hq⟩:=zAh h8
 have a2:Sx al z1/\z1.ts.length<=z.ts.length:=by
  by_cases hs:isS z [40]=true
  . rw [if_pos hs] at h3
    have b1:=a1.1.en.sg hs
    have b2:Sx al (nxT z):=⟨b1.1,(nx_vr1 z).trans a1.1.vr,by
     unfold nxT;split
     . exact a1.1.sf
     . exact (List.drop_suffix 1 z.ts).trans a1.1.sf⟩
    have b3:=b2.ins h3
    exact ⟨b3.1,by omega⟩
  . rw [if_neg hs] at h3;cases h3;exact ⟨a1.1,Nat.le_refl _⟩
 have a3:=a2.1.take h5
 have a4:=a3.1.typ h7
 have a5:=a4.1.dirs h9
 cases hq
 omega
theorem Sx.mb {v:D} (h:Sx al x) (hq:mbQ x = .ok (v,y)):Sx al y/\y.ts.length<x.ts.length:=by
 obtain ⟨n,z,h1,h2⟩:=zAh hq
 obtain ⟨d,z2,h3,hq⟩:=zAh h2
 have a1:=h.name h1
 have a2:=a1.1.dirs h3
 cases hq
 exact ⟨a2.1,by omega⟩
theorem Sx.nx (h:Sx al x) (hk:(hdT x).k≠5):Sx al (nxT x)/\(nxT x).ts.length+1=x.ts.length:=by
 have h1:=h.en.nx hk
 refine ⟨⟨h1.1,(nx_vr1 x).trans h.vr,?_⟩,?_⟩
 . unfold nxT;rw [if_neg hk];exact (List.drop_suffix 1 x.ts).trans h.sf
 . have h2:=h1.2
   revert h2
   unfold nxT
   rw [if_neg hk]
   show (x.ts.drop 1).length<_->(x.ts.drop 1).length+1=_
   rw [List.length_drop];omega
theorem Sx.sg {s:List UInt8} (h:Sx al x) (hs:isS x s=true):Sx al (nxT x)/\(nxT x).ts.length+1=x.ts.length:=by
 refine h.nx ?_
 unfold isS at hs
 simp only [Bool.and_eq_true,beq_iff_eq] at hs
 rw [hs.1];decide
theorem Sx.len (h:Sx al x):x.ts.length<=al.length:=h.sf.length_le
theorem Sx.pos (h:Sx al x):0<x.ts.length:=by obtain ⟨t,r,e⟩:=h.en.cons;rw [e];simp
theorem Sx.nd (h:Sx al x) (n:Nat):Sx al { x with nd:=n }:=⟨h.en,h.vr,h.sf⟩
theorem Sx.hd (h:Sx al x):al.getD (al.length-x.ts.length) ⟨5,[],0⟩=hdT x:=by
 obtain ⟨d,hd⟩:=h.sf
 have e:al.length-x.ts.length=d.length:=by rw [<- hd,List.length_append];omega
 unfold hdT
 rw [e,<- hd,List.getD_eq_getElem?_getD,List.getElem?_append_right (Nat.le_refl _),Nat.sub_self,List.headD_eq_head?_getD,List.head?_eq_getElem?]
end
end
section
structure RS where
 at':Nat
 ct:Nat
 fx:Bool
 er:Int
 wr:Nat
def tkZ (l:List Tok) (x:RS):Tok:=l.getD x.at' ⟨5,[],0⟩
def zBg (l:List Tok) (e:Int) (a:Nat) (x:RS):RS:=if x.er=0 then { x with er:=e,wr:=(l.getD a ⟨5,[],0⟩).i } else x
def zAG (l:List Tok) (e:Int) (x:RS):RS:=zBg l e x.at' x
def sgZ (l:List Tok) (s:List UInt8) (x:RS):Bool:=x.er==0&&(tkZ l x).k==1&&(tkZ l x).s==s
def nmZ (l:List Tok) (x:RS):Bool:=x.er==0&&(tkZ l x).k==2
def wdZ (l:List Tok) (s:List UInt8) (x:RS):Bool:=nmZ l x&&(tkZ l x).s==s
def upZ (x:RS):RS:={ x with at':=x.at'+1 }
def needZ (l:List Tok) (s:List UInt8) (x:RS):RS:=if sgZ l s x=true then upZ x else zAG l 3 x
def nameZ (l:List Tok) (x:RS):List UInt8 × RS:=if nmZ l x=true then ((tkZ l x).s,upZ x) else ([],zAG l 3 x)
def zCL (l:List Tok) (r:RS->(List UInt8 × List Int) × RS) (x:RS):(List UInt8 × List Int) × RS:=
 if sgZ l [91] x=true then (((r (upZ x)).1.1,2::(r (upZ x)).1.2),needZ l [93] (r (upZ x)).2) else (((nameZ l x).1,[]),(nameZ l x).2)
def zD5 (l:List Tok) (p:(List UInt8 × List Int) × RS):(List UInt8 × List Int) × RS:=
 if sgZ l [33] p.2=true then ((p.1.1,1::p.1.2),upZ p.2) else p
def refZ:List Tok->Nat->RS->(List UInt8 × List Int) × RS
 |_,0,x=>(([],[]),x)
 |l,f+1,x=>zD5 l (zCL l (refZ l f) x)
def typZ (l:List Tok) (x:RS):(List UInt8 × List Int) × RS:=
 ((refZ l (l.length+1-x.at') x).1,if (refZ l (l.length+1-x.at') x).1.2.length>24 then zBg l 5 x.at' (refZ l (l.length+1-x.at') x).2 else (refZ l (l.length+1-x.at') x).2)
def simpV (t:Tok):D:=if t.k=3 then valD 2 (numQ t.s) [] [] [] else if t.k=4 then valD 3 0 t.s [] [] else if t.k=2 then zB6 t.s else zA5
def simpB (t:Tok):Bool:=t.k==3||t.k==4||t.k==2
def keyZ (l:List Tok) (ob:Bool) (ks:List (List UInt8)) (x:RS):List (List UInt8) × RS:=
 if ob=true then
  (ks++[(nameZ l (if (nmZ l x&&ks.contains (tkZ l x).s)=true then zAG l 7 x else x)).1],needZ l [58] (nameZ l (if (nmZ l x&&ks.contains (tkZ l x).s)=true then zAG l 7 x else x)).2)
 else (ks,x)
def elemsZ (l:List Tok) (val:RS->D × RS) (ob:Bool) (e:List UInt8):Nat->List (List UInt8)->List D->RS->(List (List UInt8) × List D) × RS
 |0,ks,vs,x=>((ks,vs),x)
 |f+1,ks,vs,x =>
  if x.er=0/\sgZ l e x=false then elemsZ l val ob e f (keyZ l ob ks x).1 (vs++[(val (keyZ l ob ks x).2).1]) (val (keyZ l ob ks x).2).2
  else ((ks,vs),needZ l e x)
def chk1 (l:List Tok) (x:RS):RS:=if simpB (tkZ l x)=false/\sgZ l [91] x=false/\sgZ l [123] x=false/\(sgZ l [36] x && !x.fx)=false then zAG l 3 x else x
def chk2 (l:List Tok) (lv:Nat) (x:RS):RS:=if 24<lv then zAG l 5 x else x
def chk3 (l:List Tok) (x:RS):RS:=if 4096<x.ct then zAG l 4 x else x
def chkZ (l:List Tok) (lv:Nat) (x:RS):RS:=chk3 l { chk2 l lv (chk1 l x) with ct:=(chk2 l lv (chk1 l x)).ct+1 }
def valueZ:List Tok->Nat->Nat->RS->D × RS
 |_,0,_,x=>(zA5,x)
 |l,f+1,lv,x =>
  if x.er≠0 then (zA5,x)
  else if (chkZ l lv x).er≠0 then (zA5,chkZ l lv x)
  else if (sgZ l [36] x && !x.fx)=true then (valD 7 0 (nameZ l (upZ (chkZ l lv x))).1 [] [],(nameZ l (upZ (chkZ l lv x))).2)
  else if sgZ l [91] x=true then
   (valD 5 0 [] (elemsZ l (valueZ l f (lv+1)) false [93] (l.length+1-(upZ (chkZ l lv x)).at') [] [] (upZ (chkZ l lv x))).1.2 (elemsZ l (valueZ l f (lv+1)) false [93] (l.length+1-(upZ (chkZ l lv x)).at') [] [] (upZ (chkZ l lv x))).1.1,(elemsZ l (valueZ l f (lv+1)) false [93] (l.length+1-(upZ (chkZ l lv x)).at') [] [] (upZ (chkZ l lv x))).2)
  else if sgZ l [123] x=true then
   (valD 6 0 [] (elemsZ l (valueZ l f (lv+1)) true [125] (l.length+1-(upZ (chkZ l lv x)).at') [] [] (upZ (chkZ l lv x))).1.2 (elemsZ l (valueZ l f (lv+1)) true [125] (l.length+1-(upZ (chkZ l lv x)).at') [] [] (upZ (chkZ l lv x))).1.1,(elemsZ l (valueZ l f (lv+1)) true [125] (l.length+1-(upZ (chkZ l lv x)).at') [] [] (upZ (chkZ l lv x))).2)
  else (simpV (tkZ l x),upZ (chkZ l lv x))
def wholeZ (l:List Tok) (b:Bool) (x:RS):D × RS:=valueZ l 25 1 { x with ct:=0,fx:=b }
def manyZ (l:List Tok) (one:Nat->RS->D × RS) (s:List UInt8):Nat->List D->RS->List D × RS
 |0,acc,x=>(acc,x)
 |f+1,acc,x =>
  if x.er=0/\(acc.length=0\/sgZ l s x=false) then manyZ l one s f (acc++[(one acc.length x).1]) (one acc.length x).2
  else (acc,needZ l s x)
def zIf (l:List Tok) (x:RS):(Bool × D) × RS:=
 if sgZ l [61] x=true then ((true,(wholeZ l true (upZ x)).1),(wholeZ l true (upZ x)).2) else ((false,zA5),x)
end
section
set_option linter.unusedSectionVars false
def Ed (l:List Tok):Prop:=∀ i,i<l.length->(l.getD i ⟨5,[],0⟩).k≠5->i+1<l.length
def Ck (x:RS):Prop:=x.ct<=4097/\(x.er=0->x.ct<=4096)
structure Mw (l:List Tok) (x y:RS):Prop where
 lo:x.at'<=y.at'
 hi:y.at'<l.length
 er:x.er≠0->y.er=x.er/\y.wr=x.wr
 ct:Ck x->Ck y
structure Pg (l:List Tok) (x y:RS):Prop where
 mv:Mw l x y
 up:y.er=0->x.at'<y.at'
section
variable {l:List Tok} {x y z:RS}
theorem Mw.refl (h:x.at'<l.length):Mw l x x:=⟨Nat.le_refl _,h,fun _=>⟨rfl,rfl⟩,id⟩
theorem Mw.zero (h:Mw l x y) (h0:y.er=0):x.er=0:=by
 rcases Classical.em (x.er=0) with h1 | h1
 . exact h1
 . exact (h.er h1).1.symm.trans h0
theorem Mw.trans (h1:Mw l x y) (h2:Mw l y z):Mw l x z:=
 ⟨Nat.le_trans h1.lo h2.lo,h2.hi,fun h=>by
   have a:=h1.er h
   have b:=h2.er (by rw [a.1];exact h)
   exact ⟨b.1.trans a.1,b.2.trans a.2⟩,fun h=>h2.ct (h1.ct h)⟩
theorem Pg.mw (h1:Pg l x y) (h2:Mw l y z):Pg l x z:=⟨h1.mv.trans h2,fun h=>Nat.lt_of_lt_of_le (h1.up (h2.zero h)) h2.lo⟩
theorem Mw.pg (h1:Mw l x y) (h2:Pg l y z):Pg l x z:=⟨h1.trans h2.mv,fun h=>Nat.lt_of_le_of_lt h1.lo (h2.up h)⟩
theorem Mw.ite {c:Prop} [Decidable c] (h1:c->Mw l x y) (h2 : ¬ c->Mw l x z):Mw l x (if c then y else z):=by
 split
 . rename_i h;exact h1 h
 . rename_i h;exact h2 h
theorem Pg.ite {c:Prop} [Decidable c] (h1:c->Pg l x y) (h2 : ¬ c->Pg l x z):Pg l x (if c then y else z):=by
 split
 . rename_i h;exact h1 h
 . rename_i h;exact h2 h
theorem zEX (h:x.at'<l.length) {e:Int} (he:e≠0) (a:Nat):Mw l x (zBg l e a x):=by
 unfold zBg
 by_cases h0:x.er=0
 . rw [if_pos h0]
   exact ⟨Nat.le_refl _,h,fun h1=>(h1 h0).elim,fun hc=>⟨hc.1,fun h1=>(he h1).elim⟩⟩
 . rw [if_neg h0];exact .refl h
theorem failA_er {e:Int} (he:e≠0) (a:Nat):(zBg l e a x).er≠0:=by
 unfold zBg
 by_cases h0:x.er=0
 . rw [if_pos h0];exact he
 . rw [if_neg h0];exact h0
theorem zDj (h:x.at'<l.length) {e:Int} (he:e≠0):Mw l x (zAG l e x):=zEX h he _
theorem zKl (h:x.at'<l.length) {e:Int} (he:e≠0):Pg l x (zAG l e x):=⟨zEX h he _,fun h=>(failA_er he _ h).elim⟩
theorem zDy (e:Int) (a:Nat):(zBg l e a x).at'=x.at':=by unfold zBg;split<;>rfl
theorem sg_k {s:List UInt8} (h:sgZ l s x=true):(tkZ l x).k=1/\x.er=0/\(tkZ l x).s=s:=by
 unfold sgZ at h
 simp only [Bool.and_eq_true,beq_iff_eq] at h
 exact ⟨h.1.2,h.1.1,h.2⟩
theorem nm_k (h:nmZ l x=true):(tkZ l x).k=2/\x.er=0:=by
 unfold nmZ at h
 simp only [Bool.and_eq_true,beq_iff_eq] at h
 exact ⟨h.2,h.1⟩
theorem wd_k {s:List UInt8} (h:wdZ l s x=true):(tkZ l x).k=2/\x.er=0/\(tkZ l x).s=s:=by
 unfold wdZ at h
 simp only [Bool.and_eq_true,beq_iff_eq] at h
 exact ⟨(nm_k h.1).1,(nm_k h.1).2,h.2⟩
variable (hE:Ed l)
include hE
theorem up_pg (h:x.at'<l.length) (hk:(tkZ l x).k≠5):Pg l x (upZ x):=⟨⟨Nat.le_succ _,hE _ h hk,fun _=>⟨rfl,rfl⟩,id⟩,fun _=>Nat.lt_succ_self _⟩
theorem zAZ {s:List UInt8} (h:x.at'<l.length) (hk:sgZ l s x=true):Pg l x (upZ x):=up_pg hE h (by rw [(sg_k hk).1];decide)
theorem zCa (h:x.at'<l.length) (hk:nmZ l x=true):Pg l x (upZ x):=up_pg hE h (by rw [(nm_k hk).1];decide)
theorem wdup_pg {s:List UInt8} (h:x.at'<l.length) (hk:wdZ l s x=true):Pg l x (upZ x):=up_pg hE h (by rw [(wd_k hk).1];decide)
theorem zAA (s:List UInt8) (h:x.at'<l.length):Pg l x (needZ l s x):=.ite (fun hs=>zAZ hE h hs) fun _=>zKl h (by decide)
theorem zy (h:x.at'<l.length):Pg l x (nameZ l x).2:=by
 unfold nameZ
 by_cases hs:nmZ l x=true
 . rw [if_pos hs];exact zCa hE h hs
 . rw [if_neg hs];exact zKl h (by decide)
theorem lim_mw {c:Prop} [Decidable c] {e:Int} (he:e≠0) (h:x.at'<l.length):Mw l x (if c then zAG l e x else x):=.ite (fun _=>zDj h he) fun _ => .refl h
theorem zHT (p:(List UInt8 × List Int) × RS) (h:p.2.at'<l.length):Mw l p.2 (zD5 l p).2:=by
 unfold zD5
 by_cases hs:sgZ l [33] p.2=true
 . rw [if_pos hs];exact (zAZ hE h hs).mv
 . rw [if_neg hs];exact .refl h
theorem base_pg {r:RS->(List UInt8 × List Int) × RS} (hr : ∀ y,y.at'<l.length->Mw l y (r y).2) (h:x.at'<l.length):Pg l x (zCL l r x).2:=by
 unfold zCL
 by_cases hs:sgZ l [91] x=true
 . rw [if_pos hs]
   have h1:=zAZ hE h hs
   have h2:=hr _ h1.mv.hi
   exact (h1.mw h2).mw (zAA hE _ h2.hi).mv
 . rw [if_neg hs];exact zy hE h
theorem zFz : ∀ (f:Nat) (x:RS),x.at'<l.length->Mw l x (refZ l f x).2
 |0,_,h => .refl h
 |f+1,x,h=>by
  have h1:=base_pg hE (r:=refZ l f) (zFz f) h
  exact h1.mv.trans (zHT hE _ h1.mv.hi)
theorem ref_pg (f:Nat) (h:x.at'<l.length):Pg l x (refZ l (f+1) x).2:=by
 have h1:=base_pg hE (r:=refZ l f) (zFz hE f) h
 exact h1.mw (zHT hE _ h1.mv.hi)
theorem zEn (h:x.at'<l.length):Pg l x (typZ l x).2:=by
 unfold typZ
 obtain ⟨f,hf⟩ : ∃ f,l.length+1-x.at'=f+1:=⟨l.length-x.at',by omega⟩
 rw [hf]
 have h1:=ref_pg hE f h
 exact .ite (fun _=>h1.mw (zEX h1.mv.hi (by decide) _)) fun _=>h1
theorem key_mw (ob:Bool) (ks:List (List UInt8)) (h:x.at'<l.length):Mw l x (keyZ l ob ks x).2:=by
 unfold keyZ
 by_cases hs:ob=true
 . rw [if_pos hs]
   have h1:Mw l x (if (nmZ l x&&ks.contains (tkZ l x).s)=true then zAG l 7 x else x):=lim_mw hE (by decide) h
   have h2:=zy hE h1.hi
   exact (h1.trans h2.mv).trans (zAA hE _ h2.mv.hi).mv
 . rw [if_neg hs];exact .refl h
theorem zBo {val:RS->D × RS} (hv : ∀ y,y.at'<l.length->Mw l y (val y).2) (ob:Bool) (e:List UInt8) : ∀ (f:Nat) (ks:List (List UInt8)) (vs:List D) (x:RS),x.at'<l.length->Mw l x (elemsZ l val ob e f ks vs x).2
 |0,_,_,_,h => .refl h
 |f+1,ks,vs,x,h=>by
  unfold elemsZ
  split
  . have h1:=key_mw hE ob ks h
    have h2:=hv _ h1.hi
    exact (h1.trans h2).trans (zBo hv ob e f _ _ _ h2.hi)
  . exact (zAA hE _ h).mv
omit hE in
theorem chk1_at:(chk1 l x).at'=x.at':=by unfold chk1;split<;>first | exact zDy _ _ | rfl
omit hE in
theorem chk2_at (lv:Nat):(chk2 l lv x).at'=x.at':=by unfold chk2;split<;>first | exact zDy _ _ | rfl
omit hE in
theorem chk3_at:(chk3 l x).at'=x.at':=by unfold chk3;split<;>first | exact zDy _ _ | rfl
omit hE in
theorem chk_at (lv:Nat):(chkZ l lv x).at'=x.at':=by
 unfold chkZ
 rw [chk3_at]
 show (chk2 l lv (chk1 l x)).at'=_
 rw [chk2_at,chk1_at]
omit hE in
theorem chk1_ct:(chk1 l x).ct=x.ct:=by unfold chk1 zAG zBg;split<;>first | rfl | (split<;>rfl)
omit hE in
theorem chk2_ct (lv:Nat):(chk2 l lv x).ct=x.ct:=by unfold chk2 zAG zBg;split<;>first | rfl | (split<;>rfl)
omit hE in
theorem zFS (lv:Nat) (h0:x.er=0):chkZ l lv x =
 if simpB (tkZ l x)=false/\sgZ l [91] x=false/\sgZ l [123] x=false/\(sgZ l [36] x && !x.fx)=false then { x with ct:=x.ct+1,er:=3,wr:=(tkZ l x).i }
 else if 24<lv then { x with ct:=x.ct+1,er:=5,wr:=(tkZ l x).i }
 else if 4096<x.ct+1 then { x with ct:=x.ct+1,er:=4,wr:=(tkZ l x).i }
 else { x with ct:=x.ct+1 }:=by
 obtain ⟨a,c,b,e,w⟩:=x
 have h0:e=0:=h0
 subst h0
 by_cases h1:simpB (tkZ l ⟨a,c,b,0,w⟩)=false/\sgZ l [91] ⟨a,c,b,0,w⟩=false/\sgZ l [123] ⟨a,c,b,0,w⟩=false/\(sgZ l [36] ⟨a,c,b,0,w⟩ && !b)=false
 . have e1:chk1 l ⟨a,c,b,0,w⟩=⟨a,c,b,3,(tkZ l ⟨a,c,b,0,w⟩).i⟩:=by unfold chk1;rw [if_pos h1];rfl
   rw [if_pos h1]
   unfold chkZ
   rw [e1]
   have e2:chk2 l lv ⟨a,c,b,3,(tkZ l ⟨a,c,b,0,w⟩).i⟩=⟨a,c,b,3,(tkZ l ⟨a,c,b,0,w⟩).i⟩:=by unfold chk2;split<;>rfl
   rw [e2]
   unfold chk3;split<;>rfl
 . have e1:chk1 l ⟨a,c,b,0,w⟩=⟨a,c,b,0,w⟩:=by unfold chk1;rw [if_neg h1]
   rw [if_neg h1]
   unfold chkZ
   rw [e1]
   by_cases h2:24<lv
   . have e2:chk2 l lv ⟨a,c,b,0,w⟩=⟨a,c,b,5,(tkZ l ⟨a,c,b,0,w⟩).i⟩:=by unfold chk2;rw [if_pos h2];rfl
     rw [e2,if_pos h2]
     unfold chk3;split<;>rfl
   . have e2:chk2 l lv ⟨a,c,b,0,w⟩=⟨a,c,b,0,w⟩:=by unfold chk2;rw [if_neg h2]
     rw [e2,if_neg h2]
     unfold chk3
     by_cases h3:4096<c+1
     . rw [if_pos h3,if_pos h3];rfl
     . rw [if_neg h3,if_neg h3]
omit hE in
theorem chk_mw (lv:Nat) (h:x.at'<l.length) (h0:x.er=0):Mw l x (chkZ l lv x):=by
 refine ⟨Nat.le_of_eq (chk_at lv).symm,by rw [chk_at];exact h,fun he=>(he h0).elim,fun hc => ?_⟩
 have:=hc.2 h0
 rw [zFS lv h0]
 split
 . exact ⟨by show x.ct+1<=_;omega,fun h=>absurd (show (3:Int)=0 from h) (by decide)⟩
 split
 . exact ⟨by show x.ct+1<=_;omega,fun h=>absurd (show (5:Int)=0 from h) (by decide)⟩
 split
 . exact ⟨by show x.ct+1<=_;omega,fun h=>absurd (show (4:Int)=0 from h) (by decide)⟩
 . exact ⟨by show x.ct+1<=_;omega,fun h=>by show x.ct+1<=_;omega⟩
omit hE in
theorem chk_ok {lv:Nat} (h0:x.er=0) (h:(chkZ l lv x).er=0) : ¬ (simpB (tkZ l x)=false/\sgZ l [91] x=false/\sgZ l [123] x=false/\(sgZ l [36] x && !x.fx)=false)/\lv<=24/\x.ct+1<=4096/\chkZ l lv x = { x with ct:=x.ct+1 }:=by
 rw [zFS lv h0] at h |-
 split at h
 . exact absurd (show (3:Int)=0 from h) (by decide)
 split at h
 . exact absurd (show (5:Int)=0 from h) (by decide)
 split at h
 . exact absurd (show (4:Int)=0 from h) (by decide)
 rename_i h1 h2 h3
 rw [if_neg h1,if_neg h2,if_neg h3]
 exact ⟨h1,by omega,by omega,rfl⟩
omit hE in
theorem chk_k {lv:Nat} (h0:x.er=0) (h:(chkZ l lv x).er=0):(tkZ l (chkZ l lv x)).k≠5:=by
 have h1:=(chk_ok h0 h).1
 unfold tkZ
 rw [chk_at]
 intro h5
 apply h1
 have h5:(tkZ l x).k=5:=h5
 refine ⟨by unfold simpB;rw [h5];rfl,?_,?_,?_⟩
 . unfold sgZ;rw [h5];simp
 . unfold sgZ;rw [h5];simp
 . unfold sgZ;rw [h5];simp
theorem zBl : ∀ (f lv:Nat) (x:RS),x.at'<l.length->Mw l x (valueZ l f lv x).2/\(0<f->(valueZ l f lv x).2.er=0->x.at'<(valueZ l f lv x).2.at')
 |0,_,_,h=>⟨.refl h,fun h=>absurd h (by decide)⟩
 |f+1,lv,x,h=>by
  have key:Pg l x (valueZ l (f+1) lv x).2:=by
   unfold valueZ
   by_cases h0:x.er=0
   . rw [if_neg (fun h=>h h0)]
     have hc:=chk_mw lv h h0
     by_cases h1:(chkZ l lv x).er=0
     . rw [if_neg (fun h=>h h1)]
       have hu:=up_pg hE hc.hi (chk_k h0 h1)
       have hu:=hc.pg hu
       by_cases h2:(sgZ l [36] x && !x.fx)=true
       . rw [if_pos h2];exact hu.mw (zy hE hu.mv.hi).mv
       rw [if_neg h2]
       by_cases h3:sgZ l [91] x=true
       . rw [if_pos h3];exact hu.mw (zBo hE (fun y hy=>(zBl f (lv+1) y hy).1) _ _ _ _ _ _ hu.mv.hi)
       rw [if_neg h3]
       by_cases h4:sgZ l [123] x=true
       . rw [if_pos h4];exact hu.mw (zBo hE (fun y hy=>(zBl f (lv+1) y hy).1) _ _ _ _ _ _ hu.mv.hi)
       rw [if_neg h4];exact hu
     . rw [if_pos h1];exact ⟨hc,fun h=>(h1 h).elim⟩
   . rw [if_pos h0];exact ⟨.refl h,fun h=>(h0 h).elim⟩
  exact ⟨key.mv,fun _ h=>key.up h⟩
theorem value_pg (f lv:Nat) (h:x.at'<l.length):Pg l x (valueZ l (f+1) lv x).2:=⟨(zBl hE _ _ _ h).1,fun h1=>(zBl hE _ _ _ h).2 (Nat.succ_pos _) h1⟩
theorem zDV (b:Bool) (h:x.at'<l.length):Pg l x (wholeZ l b x).2:=by
 have h1:=value_pg hE (x:={ x with ct:=0,fx:=b }) 24 1 h
 exact ⟨⟨h1.mv.lo,h1.mv.hi,h1.mv.er,fun _=>h1.mv.ct ⟨Nat.zero_le _,fun _=>Nat.zero_le _⟩⟩,h1.up⟩
theorem zDv {one:Nat->RS->D × RS} (h1 : ∀ n x,x.at'<l.length->Mw l x (one n x).2) (s:List UInt8) : ∀ (f:Nat) (acc:List D) (x:RS),x.at'<l.length->Mw l x (manyZ l one s f acc x).2
 |0,_,_,h => .refl h
 |f+1,acc,x,h=>by
  unfold manyZ
  split
  . have h2:=h1 acc.length x h
    exact h2.trans (zDv h1 s f _ _ h2.hi)
  . exact (zAA hE _ h).mv
theorem defl_mw (h:x.at'<l.length):Mw l x (zIf l x).2:=by
 unfold zIf
 by_cases hs:sgZ l [61] x=true
 . rw [if_pos hs]
   have h1:=(zAZ hE h hs).mv
   exact h1.trans (zDV hE true h1.hi).mv
 . rw [if_neg hs];exact .refl h
end
end
section
set_option linter.unusedSectionVars false
structure Rl (l:List Tok) (c:RS->PS->Prop) (x:RS) (y:PS):Prop where
 er:x.er=0
 lt:x.at'<l.length
 ts:l.drop x.at'=y.ts
 c:c x y
def cV (b:Bool) (x:RS) (y:PS):Prop:=x.ct=y.nd/\x.fx=b/\y.vr = !b
def Rf {α β:Type} (l:List Tok) (c:RS->PS->Prop) (φ:α->β->Prop) (p:α × RS):PR β->Prop
 |.ok (b,y)=>φ p.1 b/\Rl l c p.2 y
 |.error e=>e.2≠0->p.2.er=e.2/\p.2.wr=e.1
def CC (c:RS->PS->Prop):Prop:=∀ x y,c x y->c (upZ x) (nxT y)
theorem zKH (y:PS):(nxT y).vr=y.vr/\(nxT y).nd=y.nd:=by unfold nxT;split<;>exact ⟨rfl,rfl⟩
theorem cc_V (b:Bool):CC (cV b):=fun x y h=>⟨by rw [(zKH y).2];exact h.1,h.2.1,by rw [(zKH y).1];exact h.2.2⟩
theorem headD_drop (l:List Tok) (n:Nat) (e:Tok):(l.drop n).headD e=l.getD n e:=by
 rw [List.headD_eq_head?_getD,List.head?_drop,List.getD_eq_getElem?_getD]
section
variable {l:List Tok} {c:RS->PS->Prop} {x:RS} {y:PS} {α β γ δ:Type}
theorem Rl.hd (h:Rl l c x y):tkZ l x=hdT y:=by
 unfold tkZ hdT
 rw [<- h.ts,headD_drop]
theorem Rl.er' (h:Rl l c x y):(x.er==0)=true:=by rw [h.er];rfl
theorem Rl.sg (h:Rl l c x y) (s:List UInt8):sgZ l s x=isS y s:=by
 unfold sgZ isS
 rw [h.hd,h.er',Bool.true_and]
theorem Rl.nm (h:Rl l c x y):nmZ l x=((hdT y).k==2):=by
 unfold nmZ
 rw [h.hd,h.er',Bool.true_and]
theorem Rl.nmT (h:Rl l c x y) (hk:(hdT y).k=2):nmZ l x=true:=by rw [h.nm,hk];rfl
theorem Rl.nmF (h:Rl l c x y) (hk : ¬ (hdT y).k=2):nmZ l x=false:=by rw [h.nm];simpa using hk
theorem Rl.wd (h:Rl l c x y) (s:List UInt8):wdZ l s x=((hdT y).k==2&&(hdT y).s==s):=by
 unfold wdZ
 rw [h.nm,h.hd]
theorem Rl.len (h:Rl l c x y):y.ts.length=l.length-x.at':=by rw [<- h.ts,List.length_drop]
theorem Rf.okk {φ:α->β->Prop} {p:α × RS} {b:β} (h1:φ p.1 b) (h:Rl l c p.2 y):Rf l c φ p (.ok (b,y)):=⟨h1,h⟩
theorem Rf.err {φ:α->β->Prop} {r:α × RS} {e:Int} (h:Rl l c x y) (hm:Mw l (zAG l e x) r.2) {c':RS->PS->Prop}:Rf l c' φ r (.error ((hdT y).i,e)):=by
 intro he
 have e1:zAG l e x = { x with er:=e,wr:=(tkZ l x).i }:=by unfold zAG zBg;rw [if_pos h.er];rfl
 have h2:=hm.er (by rw [e1];exact he)
 rw [e1] at h2
 exact ⟨h2.1,by rw [h2.2];show (tkZ l x).i=_;rw [h.hd]⟩
theorem Rf.then {φ:α->β->Prop} {ψ:γ->δ->Prop} {c':RS->PS->Prop} {p:α × RS} {q:PR β} {r:γ × RS} {G:β->PS->PR δ} (h:Rf l c φ p q) (hm:Mw l p.2 r.2) (hf : ∀ b y,q = .ok (b,y)->φ p.1 b->Rl l c p.2 y->Rf l c' ψ r (G b y)):Rf l c' ψ r (zY q G):=by
 unfold zY
 cases q with
 |error e =>
  intro he
  have h1:=h he
  have h2:=hm.er (by rw [h1.1];exact he)
  exact ⟨h2.1.trans h1.1,h2.2.trans h1.2⟩
 |ok a =>
  obtain ⟨b,y⟩:=a
  exact hf b y rfl h.1 h.2
theorem Rf.mono {φ ψ:α->β->Prop} {c':RS->PS->Prop} {p:α × RS} {q:PR β} (h:Rf l c φ p q) (hφ : ∀ b,φ p.1 b->ψ p.1 b) (hc : ∀ x y,c x y->c' x y):Rf l c' ψ p q:=by
 cases q with
 |error e=>exact h
 |ok a=>obtain ⟨b,y⟩:=a;exact ⟨hφ _ h.1,⟨h.2.er,h.2.lt,h.2.ts,hc _ _ h.2.c⟩⟩
theorem zBy (r:PR α) (f:α->PS->PR β) (g:β->PS->PR γ):zY (zY r f) g=zY r fun a x=>zY (f a x) g:=by
 cases r with
 |error e=>rfl
 |ok a=>rfl
variable (hE:Ed l) (hC:CC c)
include hE
theorem Rl.upk (hC:CC c) (h:Rl l c x y) (hk:(hdT y).k≠5):Rl l c (upZ x) (nxT y):=by
 refine ⟨h.er,(up_pg hE h.lt (by rw [h.hd];exact hk)).mv.hi,?_,hC _ _ h.c⟩
 unfold nxT
 rw [if_neg hk]
 show l.drop (x.at'+1)=y.ts.drop 1
 rw [<- h.ts,List.drop_drop]
omit hE in
theorem isS_k {s:List UInt8} (h:isS y s=true):(hdT y).k=1/\(hdT y).s=s:=by
 unfold isS at h
 simp only [Bool.and_eq_true,beq_iff_eq] at h
 exact h
theorem Rl.ups (hC:CC c) (h:Rl l c x y) {s:List UInt8} (hs:isS y s=true):Rl l c (upZ x) (nxT y):=h.upk hE hC (by rw [(isS_k hs).1];decide)
theorem Rl.upn (hC:CC c) (h:Rl l c x y) (hs:(hdT y).k=2):Rl l c (upZ x) (nxT y):=h.upk hE hC (by rw [hs];decide)
include hC
theorem zCA (h:Rl l c x y) (s:List UInt8):Rf l c (fun _ _=>True) ((),needZ l s x) (takeQ s y):=by
 unfold takeQ needZ
 rw [h.sg]
 by_cases hs:isS y s=true
 . rw [if_pos hs,if_pos hs];exact .okk trivial (h.ups hE hC hs)
 . rw [if_neg hs,if_neg hs];exact .err h (.refl (by show (zBg _ _ _ _).at'<_;rw [zDy];exact h.lt))
theorem zBt (h:Rl l c x y):Rf l c Eq (nameZ l x) (nameQ y):=by
 unfold nameQ nameZ
 by_cases hs:(hdT y).k=2
 . rw [if_pos hs,if_pos (h.nmT hs)];exact .okk (congrArg Tok.s h.hd) (h.upn hE hC hs)
 . rw [if_neg hs,if_neg (by rw [h.nmF hs];decide)];exact .err h (.refl (by show (zBg _ _ _ _).at'<_;rw [zDy];exact h.lt))
omit hE hC in
theorem zFI (h:Rl l c x y) (e:Int):(zAG l e x).at'<l.length:=by show (zBg _ _ _ _).at'<_;rw [zDy];exact h.lt
def bangQ (t:List UInt8 × List Int) (u:PS):(List UInt8 × List Int) × PS:=if isS u [33]=true then ((t.1,1::t.2),nxT u) else (t,u)
omit hE hC in
theorem close0 (w:List Int) (y:PS):closeQ 0 w y = .ok (if isS y [33]=true then (1::w,nxT y) else (w,y)):=rfl
omit hE hC in
theorem zGM : ∀ (n:Nat) (w:List Int) (y:PS),closeQ (n+1) w y=zY (closeQ n w y) fun w1 z=>zY (takeQ [93] z) fun _ u => .ok (if isS u [33]=true then (1::2::w1,nxT u) else (2::w1,u))
 |0,w,y=>by
  rw [close0]
  by_cases h:isS y [33]=true
  . rw [if_pos h]
    show closeQ 1 w y=zY (takeQ [93] (nxT y)) _
    unfold closeQ
    rw [if_pos h,if_pos h]
    rfl
  . rw [if_neg h]
    show closeQ 1 w y=zY (takeQ [93] y) _
    unfold closeQ
    rw [if_neg h,if_neg h]
    rfl
 |n+1,w,y=>by
  conv=>lhs;unfold closeQ
  conv=>rhs;unfold closeQ
  rw [zBy]
  congr 1
  funext a z
  exact zGM n _ z
omit hE hC in
theorem nx_len1 {s:List UInt8} (h:isS y s=true):y.ts.length=(nxT y).ts.length+1:=by
 have hk : ¬ (hdT y).k=5:=by rw [(isS_k h).1];decide
 unfold nxT
 rw [if_neg hk]
 show y.ts.length=(y.ts.drop 1).length+1
 have hne:y.ts≠[]:=fun e=>by
  apply hk
  unfold hdT
  rw [e];rfl
 have:=List.length_pos_iff.2 hne
 rw [List.length_drop]
 omega
omit hE hC in
theorem inner_open (h:isS y [91]=true):zAX y=zY (zAX (nxT y)) fun t z=>zY (takeQ [93] z) fun _ u => .ok (bangQ (t.1,2::t.2) u):=by
 have e:openQ ((nxT y).ts.length+1) y=((openQ (nxT y).ts.length (nxT y)).1+1,(openQ (nxT y).ts.length (nxT y)).2):=by
  conv=>lhs;unfold openQ
  rw [if_pos h]
 unfold zAX
 rw [nx_len1 h,e,zBy]
 congr 1
 funext nm u
 dsimp only
 rw [zGM,zBy,zBy]
 congr 1
 funext w z
 show zY (zY (takeQ [93] z) _) _=zY (takeQ [93] z) _
 rw [zBy]
 congr 1
 funext _ v
 unfold bangQ
 by_cases hb:isS v [33]=true
 . rw [if_pos hb,if_pos hb];rfl
 . rw [if_neg hb,if_neg hb];rfl
omit hE hC in
theorem inner_base (h : ¬ isS y [91]=true):zAX y=zY (nameQ y) fun n z => .ok (bangQ (n,[]) z):=by
 have e:openQ y.ts.length y=(0,y):=by
  cases y.ts.length with
  |zero=>rfl
  |succ n=>unfold openQ;rw [if_neg h]
 unfold zAX
 rw [e]
 congr 1
 funext n z
 dsimp only
 rw [close0]
 unfold bangQ
 by_cases hb:isS z [33]=true
 . rw [if_pos hb,if_pos hb];rfl
 . rw [if_neg hb,if_neg hb];rfl
theorem bang_rf {p:(List UInt8 × List Int) × RS} {t:List UInt8 × List Int} (ht:p.1=t) (h:Rl l c p.2 y):Rf l c Eq (zD5 l p) (.ok (bangQ t y)):=by
 unfold zD5 bangQ
 rw [h.sg]
 by_cases hs:isS y [33]=true
 . rw [if_pos hs,if_pos hs];exact .okk (by rw [ht]) (h.ups hE hC hs)
 . rw [if_neg hs,if_neg hs];exact .okk ht h
theorem ref_rf : ∀ (f:Nat) (x:RS) (y:PS),Rl l c x y->l.length-x.at'<f->Rf l c Eq (refZ l f x) (zAX y)
 |0,_,_,_,h=>by omega
 |f+1,x,y,h,hf=>by
  show Rf l c Eq (zD5 l (zCL l (refZ l f) x)) _
  by_cases hs:isS y [91]=true
  . rw [inner_open hs]
    have e:zCL l (refZ l f) x=(((refZ l f (upZ x)).1.1,2::(refZ l f (upZ x)).1.2),needZ l [93] (refZ l f (upZ x)).2):=by unfold zCL;rw [if_pos (by rw [h.sg];exact hs)]
    rw [e]
    have h1:=h.ups hE hC hs
    have hlt:=h.lt
    have h2:=ref_rf f (upZ x) (nxT y) h1 (by show l.length-(x.at'+1)<f;omega)
    have m1:=zFz hE f (upZ x) h1.lt
    have m2:=(zAA hE [93] m1.hi).mv
    have m3:=zHT hE (((refZ l f (upZ x)).1.1,2::(refZ l f (upZ x)).1.2),needZ l [93] (refZ l f (upZ x)).2) m2.hi
    refine h2.then (m2.trans m3) fun t z _ ht hz => ?_
    refine (zCA hE hC hz [93]).then m3 fun _ u _ _ hu => ?_
    exact bang_rf hE hC (by rw [ht]) hu
  . rw [inner_base hs]
    have e:zCL l (refZ l f) x=(((nameZ l x).1,[]),(nameZ l x).2):=by unfold zCL;rw [if_neg (by rw [h.sg];exact hs)]
    rw [e]
    have m1:=(zy hE h.lt).mv
    exact (zBt hE hC h).then (zHT hE (((nameZ l x).1,[]),(nameZ l x).2) m1.hi) fun n z _ hn hz=>bang_rf hE hC (by rw [hn]) hz
theorem typ_rf (h:Rl l c x y):Rf l c (fun t d=>refD t.1 t.2=d) (typZ l x) (typQ y):=by
 have hlt:=h.lt
 have h1:=ref_rf hE hC (l.length+1-x.at') x y h (by omega)
 have m1:=zFz hE (l.length+1-x.at') x h.lt
 unfold typQ typZ
 refine h1.then ?_ fun t z _ ht hz => ?_
 . exact .ite (fun _=>zEX m1.hi (by decide) _) fun _ => .refl m1.hi
 . rw [ht]
   by_cases hg:t.2.length>24
   . rw [if_pos hg,if_pos hg]
     intro _
     unfold zBg
     rw [if_pos hz.er]
     refine ⟨rfl,?_⟩
     show (tkZ l x).i=_
     rw [h.hd]
   . rw [if_neg hg,if_neg hg]
     exact .okk rfl hz
end
end
section
open Go.RowKit
attribute [local irreducible] wpList Calls Code.wp AW AWo OpOk seqK zq zu loopK endK AC zf Yld Sub
attribute [local irreducible] ACB ACX ACE absLexG YldG
def zVal:List V:=[.c (.int .i64 0),.c (.int .i64 0),.c (.string ⟨#[]⟩),.c (.slice none 0 0),.c (.slice none 0 0)]
theorem nx_nd (x:PS) (n:Nat):({ nxT x with nd:=n }:PS)=nxT ⟨x.ts,x.vr,n⟩:=by
 unfold nxT hdT
 split<;>rfl
theorem En.nd {x:PS} (h:En x) (n:Nat) (v:Bool):En ⟨x.ts,v,n⟩:=h
theorem zCk:z8 Tryz.prog 51=some (53,80):=by kernel_rfl
theorem value_bad {f lv:Nat} {x:PS} (h:zBQ x=true):valueQ (f+1) lv x = .error ((hdT x).i,3):=by rw [valueQ,if_pos h]
theorem value_deep {f lv:Nat} {x:PS} (h:zBQ x=false) (h2:24<lv):valueQ (f+1) lv x = .error ((hdT x).i,5):=by rw [valueQ,if_neg (by rw [h];decide),if_pos h2]
theorem value_big {f lv:Nat} {x:PS} (h:zBQ x=false) (h2 : ¬ 24<lv) (h3:4096<=x.nd):valueQ (f+1) lv x = .error ((hdT x).i,4):=by rw [valueQ,if_neg (by rw [h];decide),if_neg h2,if_pos h3]
def zBV (f lv:Nat) (t:Tok) (y:PS):PR D:=
 if t.k=3 then .ok (valD 2 (numQ t.s) [] [] [],y)
 else if t.k=4 then .ok (valD 3 0 t.s [] [],y)
 else if t.k=2 then .ok (zB6 t.s,y)
 else if t.s=[36] then zY (nameQ y) fun n z => .ok (valD 7 0 n [] [],z)
 else if t.s=[91] then zY (itemsQ (valueQ f (lv+1)) (y.ts.length+1) [] y) fun l z => .ok (valD 5 0 [] l [],z)
 else zY (z7 (valueQ f (lv+1)) (y.ts.length+1) [] [] y) fun l z => .ok (valD 6 0 [] l.2 l.1,z)
theorem value_go {f lv:Nat} {x:PS} (h:zBQ x=false) (h2 : ¬ 24<lv) (h3 : ¬ 4096<=x.nd):valueQ (f+1) lv x=zBV f lv (hdT x) (nxT ⟨x.ts,x.vr,x.nd+1⟩):=by
 have e:=(nx_nd x (x.nd+1)).symm
 rw [valueQ,if_neg (by rw [h];decide),if_neg h2,if_neg h3,e]
 rfl
section
variable {f lv:Nat} {t:Tok} {y:PS}
theorem vt_3 (h:(t.k==3)=true):zBV f lv t y = .ok (valD 2 (numQ t.s) [] [] [],y):=by rw [zBV,if_pos (by simpa using h)]
theorem vt_4 (h3:(t.k==3)=false) (h:(t.k==4)=true):zBV f lv t y = .ok (valD 3 0 t.s [] [],y):=by rw [zBV,if_neg (by simpa using h3),if_pos (by simpa using h)]
theorem vt_2 (h3:(t.k==3)=false) (h4:(t.k==4)=false) (h:(t.k==2)=true):zBV f lv t y = .ok (zB6 t.s,y):=by rw [zBV,if_neg (by simpa using h3),if_neg (by simpa using h4),if_pos (by simpa using h)]
theorem vt_l (h3:(t.k==3)=false) (h4:(t.k==4)=false) (h2:(t.k==2)=false) (h7:((bs t.s).toList==(⟨#[36]⟩:ByteArray).toList)=false) (h:((bs t.s).toList==(⟨#[91]⟩:ByteArray).toList)=true):zBV f lv t y=zY (itemsQ (valueQ f (lv+1)) (y.ts.length+1) [] y) fun l z => .ok (valD 5 0 [] l [],z):=by
 rw [zBV,if_neg (by simpa using h3),if_neg (by simpa using h4),if_neg (by simpa using h2),if_neg (zBJ h7),if_pos (zEG h)]
theorem vt_o (h3:(t.k==3)=false) (h4:(t.k==4)=false) (h2:(t.k==2)=false) (h7:((bs t.s).toList==(⟨#[36]⟩:ByteArray).toList)=false) (h:((bs t.s).toList==(⟨#[91]⟩:ByteArray).toList)=false):zBV f lv t y=zY (z7 (valueQ f (lv+1)) (y.ts.length+1) [] [] y) fun l z => .ok (valD 6 0 [] l.2 l.1,z):=by
 rw [zBV,if_neg (by simpa using h3),if_neg (by simpa using h4),if_neg (by simpa using h2),if_neg (zBJ h7),if_neg (zBJ h)]
end
section
variable {s:List UInt8}
theorem w_true (h:((bs s).toList==(⟨#[116,114,117,101]⟩:ByteArray).toList)=true):zB6 s=valD 1 (if ((bs s).toList==(⟨#[116,114,117,101]⟩:ByteArray).toList)=true then 1 else 0) [] [] []:=by
 rw [zB6,if_pos (zEG h),if_pos h]
theorem w_false (h0:((bs s).toList==(⟨#[116,114,117,101]⟩:ByteArray).toList)=false) (h:((bs s).toList==(⟨#[102,97,108,115,101]⟩:ByteArray).toList)=true):zB6 s=valD 1 (if ((bs s).toList==(⟨#[116,114,117,101]⟩:ByteArray).toList)=true then 1 else 0) [] [] []:=by
 rw [zB6,if_neg (zBJ h0),if_pos (zEG h),if_neg (by rw [h0];decide)]
theorem w_null (h0:((bs s).toList==(⟨#[116,114,117,101]⟩:ByteArray).toList)=false) (h1:((bs s).toList==(⟨#[102,97,108,115,101]⟩:ByteArray).toList)=false) (h:((bs s).toList==(⟨#[110,117,108,108]⟩:ByteArray).toList)=true):zB6 s=zA5:=by
 rw [zB6,if_neg (zBJ h0),if_neg (zBJ h1),if_pos (zEG h)]
theorem w_enum (h0:((bs s).toList==(⟨#[116,114,117,101]⟩:ByteArray).toList)=false) (h1:((bs s).toList==(⟨#[102,97,108,115,101]⟩:ByteArray).toList)=false) (h:((bs s).toList==(⟨#[110,117,108,108]⟩:ByteArray).toList)=false):zB6 s=valD 4 0 s [] []:=by
 rw [zB6,if_neg (zBJ h0),if_neg (zBJ h1),if_neg (zBJ h)]
theorem w_no {a:Bool} (h:a=true) (h2:a=false):False:=by rw [h] at h2;cases h2
end
theorem items_end {v:PS->PR D} {j:Nat} {acc:List D} {z:PS} (h:(!isS z [93])=false):itemsQ v (j+1) acc z = .ok (acc,nxT z):=by rw [itemsQ,if_pos (by simpa using h)]
theorem items_go {v:PS->PR D} {j:Nat} {acc:List D} {z:PS} (h:(!isS z [93])=true):itemsQ v (j+1) acc z=zY (v z) fun a y=>itemsQ v j (acc++[a]) y:=by rw [itemsQ,if_neg (by simpa using h)]
theorem za {α β:Type} {r:PR α} {f:α->PS->PR β} {a:α} {x:PS} (h:r = .ok (a,x)):zY r f=f a x:=by rw [h];rfl
theorem zt {α β:Type} {r:PR α} {f:α->PS->PR β} {e:Nat × Int} (h:r = .error e):zY r f = .error e:=by rw [h];rfl
theorem fields_end {v:PS->PR D} {j:Nat} {ks:List (List UInt8)} {acc:List D} {z:PS} (h:(!isS z [125])=false):z7 v (j+1) ks acc z = .ok ((ks,acc),nxT z):=by rw [z7,if_pos (by simpa using h)]
theorem zIT {v:PS->PR D} {j:Nat} {ks:List (List UInt8)} {acc:List D} {z:PS} (h:(!isS z [125])=true):z7 v (j+1) ks acc z=zY (nameQ z) fun k y=>if ks.contains k=true then .error ((hdT z).i,7) else zY (takeQ [58] y) fun _ z=>zY (v z) fun a u=>z7 v j (ks++[k]) (acc++[a]) u:=by rw [z7,if_neg (by simpa using h)]
section
variable {v:PS->PR D} {j:Nat} {ks:List (List UInt8)} {acc:List D} {z y z2 u2:PS} {k:List UInt8} {e:Nat × Int} {u:Unit} {a:D}
theorem fl_nm (h:(!isS z [125])=true) (h1:nameQ z = .error e):z7 v (j+1) ks acc z = .error e:=by rw [zIT h,zt h1]
end
end
section
open Go.RowKit
attribute [local irreducible] wpList Calls Code.wp AW AWo OpOk seqK zq zu loopK endK AC zf Yld Sub
attribute [local irreducible] ACB ACX ACE absLexG YldG
theorem zHI:z8 Tryz.prog 106=some (111,96):=by kernel_rfl
theorem zDz:z8 Tryz.prog 40=some (108,40):=by kernel_rfl
section
variable {j:Nat} {acc:List D} {z y z2 u2:PS} {k:List UInt8} {e:Nat × Int} {u:Unit} {a:List D}
theorem dl_end (h:isS z [64]=false):dirsF (j+1) acc z = .ok (acc,z):=by rw [dirsF,if_neg (by rw [h];decide)]
theorem dl_lim (h:isS z [64]=true) (hl:16<=acc.length):dirsF (j+1) acc z = .error ((hdT z).i,4):=by rw [dirsF,if_pos h,if_pos hl]
theorem dl_nm (h:isS z [64]=true) (hl:acc.length<16) (h1:nameQ (nxT z) = .error e):dirsF (j+1) acc z = .error e:=by rw [dirsF,if_pos h,if_neg (by omega),zt h1]
end
end
section
open Go.RowKit
theorem Sub.boxle {X:Cx} {nn:Nat} {st:Vst nn} {m:Nat} {t:TypeId} {vs vs':List V} (hr:st.rs m=some (.box t vs)) (h:VLeL vs vs'):Sub X st (st.res m (.box t vs')):=fun s w a hI=>by
 have hget : ∀ q ρ,(st.res m (.box t vs')).rs q=some ρ->(q=m/\ρ = .box t vs')\/(q≠m/\st.rs q=some ρ):=fun q ρ hq=>by
  simp only [Vst.res,updR] at hq
  split at hq
  . rename_i e;cases hq;exact .inl ⟨e,rfl⟩
  . rename_i e;exact .inr ⟨e,hq⟩
 have hbk : ∀ q ρ,(st.res m (.box t vs')).rs q=some ρ -> ∃ ρ',st.rs q=some ρ'/\s.bk q ρ'=s.bk q ρ:=fun q ρ hq=>by
  rcases hget q ρ hq with ⟨rfl,rfl⟩ | ⟨_,h1⟩
  . exact ⟨_,hr,rfl⟩
  . exact ⟨_,h1,rfl⟩
 refine ⟨s,hI.sz,hI.tm,hI.df,hI.fr,hI.kp,hI.nf,⟨hI.mem.fx,fun q ρ hq => ?_,fun q ρ b hq hb => ?_,fun q r ρ ρ' b hq hr' hqb hrb => ?_⟩,hI.pe⟩
 . rcases hget q ρ hq with ⟨rfl,rfl⟩ | ⟨_,h1⟩
   . obtain ⟨b,cs,h1,h2,h3,h4⟩:=hI.mem.ho q _ hr
     exact ⟨b,cs,h1,h2,zDp h h3,h4⟩
   . exact hI.mem.ho q ρ h1
 . obtain ⟨ρ',h1,h2⟩:=hbk q ρ hq
   exact hI.mem.bs q ρ' b h1 (by rw [h2];exact hb)
 . obtain ⟨ρ1,h1,h2⟩:=hbk q ρ hq
   obtain ⟨ρ2,h3,h4⟩:=hbk r ρ' hr'
   exact hI.mem.dj q r ρ1 ρ2 b h1 h3 (by rw [h2];exact hqb) (by rw [h4];exact hrb)
attribute [local irreducible] wpList Calls Code.wp AW AWo OpOk seqK zq zu loopK endK AC zf Yld Sub
attribute [local irreducible] ACB ACX ACE absLexG YldG
end
section
theorem zEt {p:UInt8->Bool} : ∀ (l:List UInt8),(l.take (spanN p l)).all p=true/\(l.take (spanN p l)).length=spanN p l
 |[]=>⟨rfl,rfl⟩
 |c::r=>by
  have ih:=zEt (p:=p) r
  rw [spanN]
  split
  . rename_i h
    rw [List.take_succ_cons,List.all_cons,h,ih.1]
    exact ⟨rfl,by rw [List.length_cons,ih.2]⟩
  . exact ⟨rfl,rfl⟩
theorem Lex.kinds {l:List UInt8} {ks:List (Int × List UInt8)} (h:Lex l ks) : ∀ p∈ks,p.1≠5:=by
 induction h with
 |done h=>intro p hp;cases hp
 |tok h ht hr ih =>
  intro p hp
  rcases List.mem_cons.1 hp with rfl | hp
  . have:=zCF ht
    show _≠_
    omega
  . exact ih p hp
def Nz {α:Type} (r:PR α):Prop:=∀ i,r ≠ .error (i,0)
section
variable {α β:Type}
theorem Nz.okk (p:α × PS):Nz (.ok p:PR α):=fun i h=>by cases h
theorem Nz.err {i:Nat} {e:Int} (h:e≠0):Nz (.error (i,e):PR α):=fun j hj=>by cases hj;exact h rfl
theorem Nz.ite {c:Prop} [Decidable c] {a b:PR α} (h1:c->Nz a) (h2 : ¬ c->Nz b):Nz (if c then a else b):=by
 split
 . exact h1 ‹_›
 . exact h2 ‹_›
theorem Nz.then {r:PR α} {f:α->PS->PR β} (h:Nz r) (hf : ∀ a x,r = .ok (a,x)->Nz (f a x)):Nz (zY r f):=by
 cases hr:r with
 |error e =>
  rw [zt (r:=.error e) rfl]
  intro i hi
  cases hi
  exact h i hr
 |ok p =>
  obtain ⟨a,x⟩:=p
  rw [za (r:=.ok (a,x)) rfl]
  exact hf a x hr
theorem zDI (s:List UInt8) (x:PS):Nz (takeQ s x):=by
 unfold takeQ
 exact .ite (fun _ => .okk _) fun _ => .err (by decide)
theorem zBu (x:PS):Nz (nameQ x):=by
 unfold nameQ
 exact .ite (fun _ => .okk _) fun _ => .err (by decide)
theorem zK9 : ∀ (n:Nat) (w:List Int) (x:PS),Nz (closeQ n w x)
 |0,w,x=>by unfold closeQ;exact .okk _
 |n+1,w,x=>by unfold closeQ;exact .then (zDI _ _) fun _ y _=>zK9 n _ y
theorem inner_nz (x:PS):Nz (zAX x):=.then (zBu _) fun _ y _ => .then (zK9 _ _ y) fun _ _ _ => .okk _
theorem typ_nz (x:PS):Nz (typQ x):=.then (inner_nz x) fun _ _ _ => .ite (fun _ => .err (by decide)) fun _ => .okk _
theorem zKX {v:PS->PR D} (hv : ∀ y,En y->Nz (v y)) (hl : ∀ {y z a},En y->v y = .ok (a,z)->En z/\z.ts.length<y.ts.length) : ∀ (f:Nat) (acc:List D) (x:PS),En x->x.ts.length<f->Nz (itemsQ v f acc x)
 |0,_,_,_,h=>by omega
 |f+1,acc,x,hx,h=>by
  unfold itemsQ
  exact .ite (fun _ => .okk _) fun _ => .then (hv x hx) fun _ y hq=>zKX hv hl f _ y (hl hx hq).1 (by have:=(hl hx hq).2;omega)
theorem zIR {v:PS->PR D} (hv : ∀ y,En y->Nz (v y)) (hl : ∀ {y z a},En y->v y = .ok (a,z)->En z/\z.ts.length<y.ts.length) : ∀ (f:Nat) (ks:List (List UInt8)) (acc:List D) (x:PS),En x->x.ts.length<f->Nz (z7 v f ks acc x)
 |0,_,_,_,_,h=>by omega
 |f+1,ks,acc,x,hx,h=>by
  unfold z7
  refine .ite (fun _ => .okk _) fun _ => .then (zBu x) fun k y hn => .ite (fun _ => .err (by decide)) fun _ => .then (zDI _ y) fun u z ht => .then (hv z ?_) fun _ w hw=>zIR hv hl f _ _ w ?_ ?_
  . exact ((hx.name hn).1.take ht).1
  . exact (hl ((hx.name hn).1.take ht).1 hw).1
  . have h1:=hx.name hn
    have h2:=h1.1.take ht
    have h3:=hl h2.1 hw
    omega
theorem zGU : ∀ (f lv:Nat) (x:PS),En x->lv<=25->26<=f+lv->Nz (valueQ f lv x)
 |0,lv,_,_,h1,h2=>by omega
 |f+1,lv,x,hx,h1,h2=>by
  have hy:En { nxT x with nd:=x.nd+1 }:=hx.nx0
  unfold valueQ
  refine .ite (fun _ => .err (by decide)) fun _ => .ite (fun _ => .err (by decide)) fun hlv => .ite (fun _ => .err (by decide)) fun _ => ?_
  dsimp only
  refine .ite (fun _ => .okk _) fun _ => .ite (fun _ => .okk _) fun _ => .ite (fun _ => .okk _) fun _ => .ite (fun _ => .then (zBu _) fun _ _ _ => .okk _) fun _ => .ite (fun _ => ?_) fun _ => ?_
  . exact .then (zKX (fun y hy=>zGU f (lv+1) y hy (by omega) (by omega)) (fun hy hq=>hy.valueL hq) _ _ _ hy (Nat.lt_succ_self _)) fun _ _ _ => .okk _
  . exact .then (zIR (fun y hy=>zGU f (lv+1) y hy (by omega) (by omega)) (fun hy hq=>hy.valueL hq) _ _ _ _ hy (Nat.lt_succ_self _)) fun _ _ _ => .okk _
theorem zJk (x:PS) (h:En x):Nz (zAQ x):=zGU 25 1 _ h (by omega) (by omega)
theorem zLK : ∀ (f:Nat) (acc:List D) (x:PS),En x->x.ts.length<=f->Nz (zDO f acc x)
 |0,_,x,hx,h=>by obtain ⟨t,r,ht⟩:=hx.cons;rw [ht] at h;simp at h
 |f+1,acc,x,hx,h=>by
  unfold zDO
  refine .ite (fun _ => .okk _) fun _ => .ite (fun _ => .err (by decide)) fun _ => .then (zBu x) fun n y hn => .then (zDI _ y) fun u z ht => .then (zJk z ?_) fun _ w hw=>zLK f _ w ?_ ?_
  . exact ((hx.name hn).1.take ht).1
  . exact (((hx.name hn).1.take ht).1.whole hw).1
  . have h1:=hx.name hn
    have h2:=h1.1.take ht
    have h3:=h2.1.whole hw
    omega
theorem args_nz (x:PS) (h:En x):Nz (zBe x):=.ite (fun hs=>zLK _ _ _ h.nx0 (by have:=(h.sg hs).2;omega)) fun _ => .okk _
theorem zKx : ∀ (f:Nat) (acc:List D) (x:PS),En x->x.ts.length<f->Nz (dirsF f acc x)
 |0,_,_,_,h=>by omega
 |f+1,acc,x,hx,h=>by
  unfold dirsF
  refine .ite (fun hs => .ite (fun _ => .err (by decide)) fun _ => .then (zBu _) fun n y hn => .then (args_nz y ?_) fun _ z hz=>zKx f _ z ?_ ?_) fun _ => .okk _
  . exact (hx.nx0.name hn).1
  . exact ((hx.nx0.name hn).1.args hz).1
  . have h1:=hx.sg hs
    have h2:=h1.1.name hn
    have h3:=h2.1.args hz
    omega
theorem zHK (x:PS) (h:En x):Nz (zAS x):=zKx _ _ _ h (Nat.lt_succ_self _)
end
end
section
theorem zEP : ∀ (k:Nat) (l t:List UInt8),unqF k l=some t->t.length<=l.length
 |k,[],t,h=>by
  have:unqF k []=some []:=by cases k<;>rfl
  rw [this] at h;cases h;exact Nat.le_refl _
 |0,c::r,t,h=>by cases h
 |k+1,c::r,t,h=>by
  have h:stpU (unqF k) c r=some t:=h
  unfold stpU at h
  split at h
  . cases h
  split at h
  . obtain ⟨q,hq,rfl⟩:=Option.map_eq_some_iff.1 h
    have:=zEP k _ _ hq
    simp;omega
  split at h
  . cases h
  . rename_i d r'
    split at h
    . obtain ⟨q,hq,rfl⟩:=Option.map_eq_some_iff.1 h
      have:=zEP k _ _ hq
      simp;omega
    . split at h
      . cases h
      . split at h
        . split at h
          . obtain ⟨q,hq,rfl⟩:=Option.map_eq_some_iff.1 h
            have:=zEP k _ _ hq
            simp at this |-;omega
          . cases h
        . cases h
theorem zIv {l t:List UInt8} (h:unquoteU l=some t):t.length<=l.length:=by
 unfold unquoteU at h
 split at h
 . have:=zEP _ _ _ h
   simp at this;omega
 . cases h
theorem readU_len {l:List UInt8} {k:Int} {s:List UInt8} {n:Nat} (h:readU l = .ok (k,s,n)):s.length<=l.length:=by
 unfold readU at h
 split at h
 . cases h
 . rename_i c r
   have hs:=(zEt (p:=wrdU) r).2
   have hl:=zAx wrdU r
   split at h
   . cases h;simp
   split at h
   . split at h
     . rename_i h3
       cases h
       have:(r.take 2).length=2:=by rw [h3];rfl
       rw [List.length_take] at this
       simp;omega
     . cases h
   split at h
   . split at h
     . cases h;rw [List.length_cons,List.length_cons,hs];omega
     . cases h
   split at h
   . split at h
     . cases h
     . cases h;rw [List.length_cons,List.length_cons,hs];omega
   split at h
   . split at h
     . cases h
     . split at h
       . cases h
       . rename_i ht
         cases h
         have:=zIv ht
         simp at this |-;omega
   . cases h
theorem readU_nz {l:List UInt8} {e:Int} (h:readU l = .error e):e≠0:=by
 unfold readU at h
 split at h
 . cases h;decide
 . split at h
   . cases h
   split at h
   . split at h
     . cases h
     . cases h;decide
   split at h
   . split at h
     . cases h
     . rename_i hn;cases h;exact hn
   split at h
   . split at h
     . cases h;decide
     . cases h
   split at h
   . split at h
     . cases h;decide
     . split at h
       . cases h;decide
       . cases h
   . cases h;decide
theorem zJ6 : ∀ (f:Nat) (l:List UInt8) (i:Nat) (ts:List Tok),scanF f l i = .ok ts->(∃ a e,ts=a++[e]/\e.k=5) /\ ∀ t∈ts,t.i<=i+l.length/\t.s.length<=l.length
 |0,_,_,_,h=>by cases h
 |f+1,l,i,ts,h=>by
  unfold scanF at h
  split at h
  . cases h
    exact ⟨⟨[],_,rfl,rfl⟩,fun t ht=>by rw [List.mem_singleton] at ht;subst ht;exact ⟨Nat.le_refl _,Nat.zero_le _⟩⟩
  . rename_i c r hl
    have hlen:(c::r).length=l.length-skipM false l:=by rw [<- hl,List.length_drop]
    have hsk:=zAo false l
    split at h
    . cases h
    . rename_i t n ht
      have hn:=zGq ht
      have hu:=zER ht
      have hs:=readU_len hu.1
      split at h
      . cases h
      . rename_i ts' hts
        cases h
        obtain ⟨⟨a,e,rfl,he⟩,hm⟩:=zJ6 f _ _ _ hts
        refine ⟨⟨t::a,e,rfl,he⟩,fun u hu' => ?_⟩
        rcases List.mem_cons.1 hu' with rfl | hu'
        . exact ⟨by rw [hu.2];omega,by omega⟩
        . have:=hm u hu'
          rw [List.length_drop] at this
          exact ⟨by omega,by omega⟩
theorem zHq : ∀ (f:Nat) (l:List UInt8) (i:Nat) (p:Nat × Int),l.length<f->scanF f l i = .error p->p.1<=i+l.length/\p.2≠0
 |0,_,_,_,h,_=>by omega
 |f+1,l,i,p,hf,h=>by
  unfold scanF at h
  split at h
  . cases h
  . rename_i c r hl
    have hlen:(c::r).length=l.length-skipM false l:=by rw [<- hl,List.length_drop]
    have hsk:=zAo false l
    split at h
    . rename_i e he
      cases h
      refine ⟨by show i+_<=_;omega,?_⟩
      unfold zDA at he
      split at he
      . rename_i e' he'
        cases he
        exact readU_nz he'
      . cases he
    . rename_i t n ht
      have hn:=zGq ht
      split at h
      . rename_i e he
        cases h
        have:=zHq f _ _ p (by rw [List.length_drop];omega) he
        rw [List.length_drop] at this
        exact ⟨by omega,this.2⟩
      . cases h
theorem zGh {l:List UInt8} {ts:List Tok} (h:zAp l = .ok ts):En ⟨ts,true,0⟩ /\ ∀ t∈ts,t.i<=l.length:=by
 unfold zAp at h
 split at h
 . cases h
 . obtain ⟨⟨a,e,h1,h2⟩,h3⟩:=zJ6 _ _ _ _ h
   exact ⟨⟨a,e,h1,h2,fun t ht=>by have:=(h3 t ht).2;omega⟩,fun t ht=>by have:=(h3 t ht).1;omega⟩
def inT (N:Nat) (t t':Tok):Prop:=t=t'/\t.i<=N
theorem inT_tr (N:Nat):TR (inT N) fun i i'=>i=i'/\i<=N:=⟨fun h=>by rw [h.1],fun h=>by rw [h.1],fun h=>⟨by rw [h.1],h.2⟩,⟨rfl,Nat.zero_le _⟩⟩
theorem all2_in {N:Nat} : ∀ {ts:List Tok},(∀ t∈ts,t.i<=N)->All2 (inT N) ts ts
 |[],_ => .nil
 |t::ts,h => .cons ⟨rfl,h t (List.mem_cons_self ..)⟩ (all2_in fun u hu=>h u (List.mem_cons_of_mem _ hu))
theorem zJ3 {l:List UInt8} {i:Nat} {e:Int} (h:zAp l = .error (i,e)):e≠0:=by
 unfold zAp at h
 split at h
 . cases h;decide
 . exact (zHq _ _ _ _ (Nat.lt_succ_self _) h).2
end
section
set_option linter.unusedSectionVars false
def Kd (l:List Tok):Prop:=∀ i,i<l.length->1<=(l.getD i ⟨5,[],0⟩).k/\(l.getD i ⟨5,[],0⟩).k<=5
section
variable {l:List Tok} {c:RS->PS->Prop} {x:RS} {y:PS} (hE:Ed l)
include hE
theorem zKs (hC:CC c) {val:RS->D × RS} {vq:PS->PR D} (hm : ∀ y,y.at'<l.length->Mw l y (val y).2) (hv : ∀ x y,Rl l c x y->Rf l c Eq (val x) (vq y)) : ∀ (f:Nat) (ks:List (List UInt8)) (vs:List D) (x:RS) (y:PS),Rl l c x y->Rf l c (fun a b=>a=(ks,b)) (elemsZ l val false [93] f ks vs x) (itemsQ vq f vs y)
 |0,_,_,_,_,_=>fun h=>absurd rfl h
 |f+1,ks,vs,x,y,h=>by
  unfold elemsZ itemsQ
  by_cases hs:isS y [93]=true
  . rw [if_pos hs,if_neg (fun hh=>by rw [h.sg,hs] at hh;exact absurd hh.2 (by decide))]
    refine .okk rfl ?_
    show Rl l c (needZ l [93] x) _
    unfold needZ
    rw [if_pos (by rw [h.sg];exact hs)]
    exact h.ups hE hC hs
  . have hs2:isS y [93]=false:=by simpa using hs
    rw [if_neg hs,if_pos ⟨h.er,by rw [h.sg];exact hs2⟩]
    have e:keyZ l false ks x=(ks,x):=rfl
    rw [e]
    have m1:=hm x h.lt
    refine (hv x y h).then (zBo hE hm _ _ _ _ _ _ m1.hi) fun v z _ hvv hz => ?_
    rw [hvv]
    exact zKs hC hm hv f ks _ _ z hz
theorem zIQ (hC:CC c) {val:RS->D × RS} {vq:PS->PR D} (hm : ∀ y,y.at'<l.length->Mw l y (val y).2) (hv : ∀ x y,Rl l c x y->Rf l c Eq (val x) (vq y)) : ∀ (f:Nat) (ks:List (List UInt8)) (vs:List D) (x:RS) (y:PS),Rl l c x y->Rf l c Eq (elemsZ l val true [125] f ks vs x) (z7 vq f ks vs y)
 |0,_,_,_,_,_=>fun h=>absurd rfl h
 |f+1,ks,vs,x,y,h=>by
  unfold elemsZ z7
  by_cases hs:isS y [125]=true
  . rw [if_pos hs,if_neg (fun hh=>by rw [h.sg,hs] at hh;exact absurd hh.2 (by decide))]
    refine .okk rfl ?_
    show Rl l c (needZ l [125] x) _
    unfold needZ
    rw [if_pos (by rw [h.sg];exact hs)]
    exact h.ups hE hC hs
  . have hs2:isS y [125]=false:=by simpa using hs
    rw [if_neg hs,if_pos ⟨h.er,by rw [h.sg];exact hs2⟩]
    by_cases hd:(hdT y).k=2/\ks.contains (hdT y).s=true
    . have e0:(nmZ l x&&ks.contains (tkZ l x).s)=true:=by rw [h.nmT hd.1,h.hd,hd.2];rfl
      have e:keyZ l true ks x=(ks++[(nameZ l (zAG l 7 x)).1],needZ l [58] (nameZ l (zAG l 7 x)).2):=by
       unfold keyZ;rw [if_pos rfl,if_pos e0]
      rw [e]
      have hn:nameQ y = .ok ((hdT y).s,nxT y):=by unfold nameQ;rw [if_pos hd.1]
      rw [hn]
      show Rf l c Eq _ (if ks.contains (hdT y).s=true then _ else _)
      rw [if_pos hd.2]
      have m0:=zFI h 7
      have m1:=(zy hE m0).mv
      have m2:=(zAA hE [58] m1.hi).mv
      have m3:=hm _ m2.hi
      exact .err h (((m1.trans m2).trans m3).trans (zBo hE hm _ _ _ _ _ _ m3.hi))
    . have e0:(nmZ l x&&ks.contains (tkZ l x).s)=false:=by
       cases hq:(nmZ l x&&ks.contains (tkZ l x).s) with
       |false=>rfl
       |true =>
        rw [Bool.and_eq_true,h.nm,h.hd,beq_iff_eq] at hq
        exact (hd hq).elim
      have e:keyZ l true ks x=(ks++[(nameZ l x).1],needZ l [58] (nameZ l x).2):=by
       unfold keyZ;rw [if_pos rfl,if_neg (by rw [e0];decide)]
      rw [e]
      have m1:=(zy hE h.lt).mv
      have m2:=(zAA hE [58] m1.hi).mv
      have m3:=hm _ m2.hi
      have m4:=zBo hE hm true [125] f (ks++[(nameZ l x).1]) (vs++[(val (needZ l [58] (nameZ l x).2)).1]) _ m3.hi
      refine (zBt hE hC h).then ((m2.trans m3).trans m4) fun k z hk hkk hz => ?_
      have hnc : ¬ ks.contains k=true:=fun hcc=>by
       unfold nameQ at hk
       by_cases h2:(hdT y).k=2
       . rw [if_pos h2] at hk;cases hk;exact hd ⟨h2,hcc⟩
       . rw [if_neg h2] at hk;cases hk
      rw [if_neg hnc]
      refine (zCA hE hC hz [58]).then (m3.trans m4) fun _ u _ _ hu => ?_
      refine (hv _ _ hu).then m4 fun v o _ hvv ho => ?_
      rw [hvv,hkk]
      exact zIQ hC hm hv f _ _ _ o ho
theorem zGT (hK:Kd l) (b:Bool) : ∀ (f lv:Nat) (x:RS) (y:PS),Rl l (cV b) x y->Rf l (cV b) Eq (valueZ l f lv x) (valueQ f lv y)
 |0,_,_,_,_=>fun h=>absurd rfl h
 |f+1,lv,x,y,h=>by
  have hC:=cc_V b
  have hk:=hK _ h.lt
  have hk:1<=(hdT y).k/\(hdT y).k<=5:=by rw [<- h.hd];exact hk
  have hch:=zFS (l:=l) lv h.er
  rw [h.sg,h.sg,h.sg,h.hd] at hch
  have hfx:x.fx=b:=h.c.2.1
  have hvr:y.vr = !b:=h.c.2.2
  have hct:x.ct=y.nd:=h.c.1
  rw [hfx,<- hvr,hct] at hch
  have hnv:zBQ y=true ↔ (simpB (hdT y)=false/\isS y [91]=false/\isS y [123]=false/\(isS y [36]&&y.vr)=false):=by
   unfold zBQ simpB
   have hi : ∀ s,isS y s=((hdT y).k==1&&(hdT y).s==s):=fun _=>rfl
   rw [hi,hi,hi]
   have:(hdT y).k=1\/(hdT y).k=2\/(hdT y).k=3\/(hdT y).k=4\/(hdT y).k=5:=by omega
   generalize ((hdT y).s==[91])=p
   generalize ((hdT y).s==[123])=q
   generalize ((hdT y).s==[36])=r
   generalize y.vr=v
   rcases this with e | e | e | e | e<;>rw [e]<;>cases p<;>cases q<;>cases r<;>cases v<;>simp
  have mm:=chk_mw (l:=l) lv h.lt h.er
  have bad : ∀ (e:Int),e≠0->(chkZ l lv x).er=e->(chkZ l lv x).wr=(hdT y).i->Rf l (cV b) Eq (valueZ l (f+1) lv x) (.error ((hdT y).i,e):PR D):=by
   intro e he h1 h2 _
   have e1:valueZ l (f+1) lv x=(zA5,chkZ l lv x):=by
    conv=>lhs;unfold valueZ
    rw [if_neg (fun hh=>hh h.er),if_pos (by rw [h1];exact he)]
   rw [e1]
   exact ⟨h1,h2⟩
  unfold valueQ
  by_cases h1:zBQ y=true
  . rw [if_pos h1]
    rw [if_pos (hnv.1 h1)] at hch
    exact bad 3 (by decide) (by rw [hch]) (by rw [hch])
  rw [if_neg h1]
  rw [if_neg (fun hh=>h1 (hnv.2 hh))] at hch
  by_cases h2:24<lv
  . rw [if_pos h2]
    rw [if_pos h2] at hch
    exact bad 5 (by decide) (by rw [hch]) (by rw [hch])
  rw [if_neg h2]
  rw [if_neg h2] at hch
  by_cases h3:4096<=y.nd
  . rw [if_pos h3]
    rw [if_pos (show 4096<y.nd+1 by omega)] at hch
    exact bad 4 (by decide) (by rw [hch]) (by rw [hch])
  rw [if_neg h3]
  rw [if_neg (show ¬ 4096<y.nd+1 by omega)] at hch
  have hk5:(hdT y).k≠5:=fun e=>h1 (by unfold zBQ;rw [e];rfl)
  have hup:Rl l (cV b) (upZ (chkZ l lv x)) { nxT y with nd:=y.nd+1 }:=by
   have h0:=h.upk hE hC hk5
   rw [hch]
   exact ⟨h.er,h0.lt,h0.ts,⟨rfl,rfl,by rw [<- hvr];exact (zKH y).1⟩⟩
  have her : ¬ (chkZ l lv x).er≠0:=fun hh=>hh (by rw [hch];exact h.er)
  have elen:l.length+1-(upZ (chkZ l lv x)).at'=(nxT y).ts.length+1:=by
   have h5:=hup.len
   have h6:=hup.lt
   have h7:({ nxT y with nd:=y.nd+1 }:PS).ts.length=(nxT y).ts.length:=rfl
   omega
  have hval : ∀ (r:D × RS) (q:PR D),valueZ l (f+1) lv x=r->Rf l (cV b) Eq r q->Rf l (cV b) Eq (valueZ l (f+1) lv x) q:=fun r q e h=>by rw [e];exact h
  dsimp only
  by_cases k3:(hdT y).k=3
  . rw [if_pos k3]
    have g : ∀ s,isS y s=false:=fun s=>by unfold isS;rw [k3];rfl
    refine hval (simpV (tkZ l x),upZ (chkZ l lv x)) _ ?_ (.okk ?_ hup)
    . conv=>lhs;unfold valueZ
      rw [if_neg (fun hh=>hh h.er),if_neg her,h.sg,h.sg,h.sg,g,g,g];rfl
    . rw [h.hd];unfold simpV;rw [if_pos k3]
  rw [if_neg k3]
  by_cases k4:(hdT y).k=4
  . rw [if_pos k4]
    have g : ∀ s,isS y s=false:=fun s=>by unfold isS;rw [k4];rfl
    refine hval (simpV (tkZ l x),upZ (chkZ l lv x)) _ ?_ (.okk ?_ hup)
    . conv=>lhs;unfold valueZ
      rw [if_neg (fun hh=>hh h.er),if_neg her,h.sg,h.sg,h.sg,g,g,g];rfl
    . rw [h.hd];unfold simpV;rw [if_neg k3,if_pos k4]
  rw [if_neg k4]
  by_cases k2:(hdT y).k=2
  . rw [if_pos k2]
    have g : ∀ s,isS y s=false:=fun s=>by unfold isS;rw [k2];rfl
    refine hval (simpV (tkZ l x),upZ (chkZ l lv x)) _ ?_ (.okk ?_ hup)
    . conv=>lhs;unfold valueZ
      rw [if_neg (fun hh=>hh h.er),if_neg her,h.sg,h.sg,h.sg,g,g,g];rfl
    . rw [h.hd];unfold simpV;rw [if_neg k3,if_neg k4,if_pos k2]
  rw [if_neg k2]
  have k1:(hdT y).k=1:=by omega
  have gi : ∀ s,isS y s=((hdT y).s==s):=fun s=>by unfold isS;rw [k1];rfl
  have hn0:(simpB (hdT y))=false:=by unfold simpB;rw [k1];rfl
  have hvv:y.vr = !x.fx:=by rw [hvr,hfx]
  by_cases s36:(hdT y).s=[36]
  . rw [if_pos s36]
    have g36:isS y [36]=true:=by rw [gi,s36];rfl
    have hv1:y.vr=true:=by
     cases hv0:y.vr with
     |true=>rfl
     |false =>
      exfalso
      apply h1
      apply hnv.2
      refine ⟨hn0,by rw [gi,s36];rfl,by rw [gi,s36];rfl,by rw [hv0,Bool.and_false]⟩
    have e1:valueZ l (f+1) lv x=(valD 7 0 (nameZ l (upZ (chkZ l lv x))).1 [] [],(nameZ l (upZ (chkZ l lv x))).2):=by
     conv=>lhs;unfold valueZ
     rw [if_neg (fun hh=>hh h.er),if_neg her,h.sg,g36,<- hvv,hv1];rfl
    rw [e1]
    exact (zBt hE hC hup).then (.refl (zy hE hup.lt).mv.hi) fun n z _ hn hz => .okk (by rw [hn]) hz
  rw [if_neg s36]
  have g36:isS y [36]=false:=by rw [gi];simpa using s36
  by_cases s91:(hdT y).s=[91]
  . rw [if_pos s91]
    have g91:isS y [91]=true:=by rw [gi,s91];rfl
    have e1:valueZ l (f+1) lv x=(valD 5 0 [] (elemsZ l (valueZ l f (lv+1)) false [93] ((nxT y).ts.length+1) [] [] (upZ (chkZ l lv x))).1.2 (elemsZ l (valueZ l f (lv+1)) false [93] ((nxT y).ts.length+1) [] [] (upZ (chkZ l lv x))).1.1,(elemsZ l (valueZ l f (lv+1)) false [93] ((nxT y).ts.length+1) [] [] (upZ (chkZ l lv x))).2):=by
     conv=>lhs;unfold valueZ
     rw [if_neg (fun hh=>hh h.er),if_neg her,h.sg,h.sg,g36,g91,elen];rfl
    rw [e1]
    have hmw : ∀ y,y.at'<l.length->Mw l y (valueZ l f (lv+1) y).2:=fun y hy=>(zBl hE f (lv+1) y hy).1
    exact (zKs hE hC hmw (fun x y hh=>zGT hK b f (lv+1) x y hh) _ [] [] _ _ hup).then (.refl (zBo hE hmw _ _ _ _ _ _ hup.lt).hi) fun a z _ ha hz => .okk (by rw [ha]) hz
  rw [if_neg s91]
  have g91:isS y [91]=false:=by rw [gi];simpa using s91
  have g123:isS y [123]=true:=by
   cases g:isS y [123] with
   |true=>rfl
   |false=>exact (h1 (hnv.2 ⟨hn0,g91,g,by rw [g36];rfl⟩)).elim
  have e1:valueZ l (f+1) lv x=(valD 6 0 [] (elemsZ l (valueZ l f (lv+1)) true [125] ((nxT y).ts.length+1) [] [] (upZ (chkZ l lv x))).1.2 (elemsZ l (valueZ l f (lv+1)) true [125] ((nxT y).ts.length+1) [] [] (upZ (chkZ l lv x))).1.1,(elemsZ l (valueZ l f (lv+1)) true [125] ((nxT y).ts.length+1) [] [] (upZ (chkZ l lv x))).2):=by
   conv=>lhs;unfold valueZ
   rw [if_neg (fun hh=>hh h.er),if_neg her,h.sg,h.sg,h.sg,g36,g91,g123,elen];rfl
  rw [e1]
  have hmw : ∀ y,y.at'<l.length->Mw l y (valueZ l f (lv+1) y).2:=fun y hy=>(zBl hE f (lv+1) y hy).1
  exact (zIQ hE hC hmw (fun x y hh=>zGT hK b f (lv+1) x y hh) _ [] [] _ _ hup).then (.refl (zBo hE hmw _ _ _ _ _ _ hup.lt).hi) fun a z _ ha hz => .okk (by rw [ha]) hz
variable (hK:Kd l)
include hK
def manyQ (one:Nat->PS->PR D) (s:List UInt8):Nat->List D->PS->PR (List D)
 |0,_,x => .error ((hdT x).i,0)
 |f+1,acc,x=>if acc.length≠0/\isS x s=true then .ok (acc,nxT x) else zY (one acc.length x) fun a y=>manyQ one s f (acc++[a]) y
omit hK in
omit hE hK in
omit hE hK in
omit hK in
omit hE hK in
omit hE hK in
omit hE hK in
end
theorem zJ7 : ∀ (f:Nat) (l:List UInt8) (i:Nat) (ts:List Tok),scanF f l i = .ok ts -> ∀ t∈ts,1<=t.k/\t.k<=5
 |0,_,_,_,h=>by cases h
 |f+1,l,i,ts,h=>by
  unfold scanF at h
  split at h
  . cases h
    exact fun t ht=>by rw [List.mem_singleton] at ht;subst ht;exact ⟨by show (1:Int)<=5;decide,by show (5:Int)<=5;decide⟩
  . rename_i c r hl
    split at h
    . cases h
    . rename_i t n ht
      have hu:=zCF (zER ht).1
      split at h
      . cases h
      . rename_i ts' hts
        cases h
        intro u hu'
        rcases List.mem_cons.1 hu' with rfl | hu'
        . exact ⟨hu.2.2.1,by have:=hu.2.2.2;omega⟩
        . exact zJ7 f _ _ _ hts u hu'
theorem zKe {l:List Tok} {i:Nat} (h:i<l.length) (e:Tok):l.getD i e∈l:=by
 rw [List.getD_eq_getElem?_getD,List.getElem?_eq_getElem h];exact List.getElem_mem h
theorem zI6 {s:List UInt8} {ts:List Tok} (h:zAp s = .ok ts):Kd ts/\Ed ts:=by
 obtain ⟨a,e,hts,he,-⟩:=(zGh h).1
 have hts:ts=a++[e]:=hts
 refine ⟨fun i hi => ?_,fun i hi hk => ?_⟩
 . unfold zAp at h
   split at h
   . cases h
   . exact zJ7 _ _ _ _ h _ (zKe hi _)
 . rcases Nat.lt_or_ge (i+1) ts.length with h1 | h1
   . exact h1
   . exfalso
     apply hk
     have hl:i=a.length:=by rw [hts,List.length_append] at h1 hi;simp at h1 hi;omega
     rw [hts,hl]
     simp [List.getD_eq_getElem?_getD,he]
end
section
set_option linter.unusedSectionVars false
def limZ (l:List Tok) (n most:Nat) (x:RS):RS:=if most<=n/\nmZ l x=true then zAG l 4 x else x
def argB1 (l:List Tok) (x:RS):D × RS:=(fun a=>(fun v=>(argD a.1 v.1,v.2)) (wholeZ l true (needZ l [58] a.2))) (nameZ l x)
def zB4 (l:List Tok) (x:RS):List D × RS:=manyZ l (fun n x=>argB1 l (limZ l n 16 x)) [41] (l.length+1-x.at') [] x
def oneDirT (l:List Tok) (x:RS):D × RS:=
 (fun a=>(fun v=>(dirD a.1 v.1,v.2)) (if sgZ l [40] a.2=true then zB4 l (upZ a.2) else ([],a.2))) (nameZ l (upZ x))
def dirsLT (l:List Tok):Nat->List D->RS->List D × RS
 |0,acc,x=>(acc,x)
 |f+1,acc,x =>
  if sgZ l [64] x=true then (if 16<=acc.length then ([],zAG l 4 x) else dirsLT l f (acc++[(oneDirT l x).1]) (oneDirT l x).2)
  else (acc,x)
def dirsZ1 (l:List Tok) (x:RS):List D × RS:=dirsLT l (l.length+1-x.at') [] x
def inB (l:List Tok) (x:RS):D × RS:=
 (fun a=>(fun t=>(fun d=>(fun s=>(sInD a.1 (refD t.1.1 t.1.2) d.1.1 d.1.2 s.1,s.2)) (dirsZ1 l d.2)) (zIf l t.2)) (typZ l (needZ l [58] a.2))) (nameZ l x)
def insT (l:List Tok) (s:List UInt8) (x:RS):List D × RS:=manyZ l (fun n x=>inB l (limZ l n 16 x)) s (l.length+1-x.at') [] x
def fdB (l:List Tok) (x:RS):D × RS:=
 (fun a=>(fun aa=>(fun t=>(fun s=>(sFdD a.1 aa.1 (refD t.1.1 t.1.2) s.1,s.2)) (dirsZ1 l t.2)) (typZ l (needZ l [58] aa.2))) (if sgZ l [40] a.2=true then insT l [41] (upZ a.2) else ([],a.2))) (nameZ l x)
def fdsT (l:List Tok) (x:RS):List D × RS:=manyZ l (fun n x=>fdB l (limZ l n 64 x)) [125] (l.length+1-x.at') [] x
def mbB (l:List Tok) (x:RS):D × RS:=(fun a=>(fun s=>(sMbD a.1 s.1,s.2)) (dirsZ1 l a.2)) (nameZ l x)
def mbsT (l:List Tok) (x:RS):List D × RS:=manyZ l (fun n x=>mbB l (limZ l n 64 x)) [125] (l.length+1-x.at') [] x
def namesLT (l:List Tok) (s:List UInt8):Nat->List D->RS->List D × RS
 |0,acc,x=>(acc,x)
 |f+1,acc,x =>
  if x.er=0 then
   (if sgZ l s (nameZ l (limZ l acc.length 64 x)).2=true then namesLT l s f (acc++[strD (nameZ l (limZ l acc.length 64 x)).1]) (upZ (nameZ l (limZ l acc.length 64 x)).2)
    else (acc++[strD (nameZ l (limZ l acc.length 64 x)).1],(nameZ l (limZ l acc.length 64 x)).2))
  else ([],x)
def namesT (l:List Tok) (s:List UInt8) (x:RS):List D × RS:=namesLT l s (l.length+1-x.at') [] x
def zAf (l:List Tok) (k:Int) (x:RS):List D × RS:=if k=1/\wdZ l zFj x=true then namesT l [38] (upZ x) else ([],x)
def zFW (l:List Tok) (k:Int) (x:RS):(List D × List D × List D) × RS:=
 if k=3 then (([],(namesT l [124] (needZ l [61] x)).1.map mbOf,[]),(namesT l [124] (needZ l [61] x)).2)
 else if k=5 then (([],[],(insT l [125] (needZ l [123] x)).1),(insT l [125] (needZ l [123] x)).2)
 else if k=4 then (([],(mbsT l (needZ l [123] x)).1,[]),(mbsT l (needZ l [123] x)).2)
 else (((fdsT l (needZ l [123] x)).1,[],[]),(fdsT l (needZ l [123] x)).2)
def zAi (l:List Tok) (k:Int) (x:RS):D × RS:=
 (fun n=>(fun f=>(fun s=>(fun b=>(sDfD k n.1 f.1 s.1 b.1.1 b.1.2.1 b.1.2.2,b.2)) (zFW l k s.2)) (dirsZ1 l f.2)) (zAf l k n.2)) (nameZ l (upZ x))
def sdocLT (l:List Tok):Nat->List D->RS->List D × RS
 |0,acc,x=>(acc,x)
 |f+1,acc,x =>
  if x.er=0/\(acc.length=0\/(tkZ l x).k≠5) then
   (if nmZ l x=false\/kindS (tkZ l x).s=0 then (acc,zAG l 3 x)
    else if 64<=acc.length then (acc,zAG l 4 x)
    else sdocLT l f (acc++[(zAi l (kindS (tkZ l x).s) x).1]) (zAi l (kindS (tkZ l x).s) x).2)
  else (acc,x)
def sdocT (l:List Tok):List D × RS:=sdocLT l (l.length+1) [] ⟨0,0,true,0,0⟩
def zJD (s:List UInt8):Except (Nat × Int) D:=
 match zAp s with
 |.error e => .error e
 |.ok ts=>if (sdocT ts).2.er≠0 then .error ((sdocT ts).2.wr,(sdocT ts).2.er) else .ok (zDL (sdocT ts).1)
section
variable {l:List Tok} {x:RS} (hE:Ed l)
include hE
theorem zAl (n most:Nat) (h:x.at'<l.length):Mw l x (limZ l n most x):=lim_mw hE (by decide) h
theorem zHW (h:x.at'<l.length):Pg l x (argB1 l x).2:=by
 have h2:=zy hE h
 have h3:=zAA hE [58] h2.mv.hi
 exact (h2.mw h3.mv).mw (zDV hE true h3.mv.hi).mv
theorem zIo (h:x.at'<l.length):Mw l x (zB4 l x).2:=
 zDv hE (fun n x h=>(zAl hE n 16 h).trans (zHW hE (zAl hE n 16 h).hi).mv) _ _ _ _ h
theorem zF5 (h:x.at'<l.length) (hs:sgZ l [64] x=true):Pg l x (oneDirT l x).2:=by
 have h1:=zAZ hE h hs
 have h2:=zy hE h1.mv.hi
 refine (h1.mw h2.mv).mw ?_
 show Mw l (nameZ l (upZ x)).2 (if sgZ l [40] (nameZ l (upZ x)).2=true then zB4 l (upZ (nameZ l (upZ x)).2) else ([],(nameZ l (upZ x)).2)).2
 by_cases hs:sgZ l [40] (nameZ l (upZ x)).2=true
 . rw [if_pos hs]
   have h3:=(zAZ hE h2.mv.hi hs).mv
   exact h3.trans (zIo hE h3.hi)
 . rw [if_neg hs];exact .refl h2.mv.hi
theorem zFL : ∀ (f:Nat) (acc:List D) (x:RS),x.at'<l.length->Mw l x (dirsLT l f acc x).2
 |0,_,_,h => .refl h
 |f+1,acc,x,h=>by
  unfold dirsLT
  by_cases hs:sgZ l [64] x=true
  . rw [if_pos hs]
    split
    . exact zDj h (by decide)
    . have h1:=(zF5 hE h hs).mv
      exact h1.trans (zFL f _ _ h1.hi)
  . rw [if_neg hs];exact .refl h
theorem zAO (h:x.at'<l.length):Mw l x (dirsZ1 l x).2:=zFL hE _ _ _ h
theorem inB_pg (h:x.at'<l.length):Pg l x (inB l x).2:=by
 have h2:=zy hE h
 have h3:=(zAA hE [58] h2.mv.hi).mv
 have h4:=(zEn hE h3.hi).mv
 have h5:=defl_mw hE h4.hi
 exact (((h2.mw h3).mw h4).mw h5).mw (zAO hE h5.hi)
theorem zG8 (s:List UInt8) (h:x.at'<l.length):Mw l x (insT l s x).2:=
 zDv hE (fun n x h=>(zAl hE n 16 h).trans (inB_pg hE (zAl hE n 16 h).hi).mv) _ _ _ _ h
theorem fdA_mw (h:x.at'<l.length):Mw l x (if sgZ l [40] x=true then insT l [41] (upZ x) else ([],x)).2:=by
 by_cases hs:sgZ l [40] x=true
 . rw [if_pos hs]
   have h3:=(zAZ hE h hs).mv
   exact h3.trans (zG8 hE _ h3.hi)
 . rw [if_neg hs];exact .refl h
theorem fdB_pg (h:x.at'<l.length):Pg l x (fdB l x).2:=by
 have h2:=zy hE h
 have h3:=fdA_mw hE h2.mv.hi
 have h4:=(zAA hE [58] h3.hi).mv
 have h5:=(zEn hE h4.hi).mv
 exact (((h2.mw h3).mw h4).mw h5).mw (zAO hE h5.hi)
theorem fdsT_mw (h:x.at'<l.length):Mw l x (fdsT l x).2:=
 zDv hE (fun n x h=>(zAl hE n 64 h).trans (fdB_pg hE (zAl hE n 64 h).hi).mv) _ _ _ _ h
theorem mbB_pg (h:x.at'<l.length):Pg l x (mbB l x).2:=by
 have h2:=zy hE h
 exact h2.mw (zAO hE h2.mv.hi)
theorem mbsT_mw (h:x.at'<l.length):Mw l x (mbsT l x).2:=
 zDv hE (fun n x h=>(zAl hE n 64 h).trans (mbB_pg hE (zAl hE n 64 h).hi).mv) _ _ _ _ h
theorem zC1 (s:List UInt8) : ∀ (f:Nat) (acc:List D) (x:RS),x.at'<l.length->Mw l x (namesLT l s f acc x).2
 |0,_,_,h => .refl h
 |f+1,acc,x,h=>by
  have h1:=zAl hE acc.length 64 h
  have h2:=h1.trans (zy hE h1.hi).mv
  unfold namesLT
  split
  . by_cases hs:sgZ l s (nameZ l (limZ l acc.length 64 x)).2=true
    . rw [if_pos hs]
      have h3:=h2.trans (zAZ hE h2.hi hs).mv
      exact h3.trans (zC1 s f _ _ h3.hi)
    . rw [if_neg hs];exact h2
  . exact .refl h
theorem zDg (s:List UInt8) (h:x.at'<l.length):Mw l x (namesT l s x).2:=zC1 hE s _ _ _ h
theorem zIU (k:Int) (h:x.at'<l.length):Mw l x (zAf l k x).2:=by
 unfold zAf
 by_cases hs:k=1/\wdZ l zFj x=true
 . rw [if_pos hs]
   have h3:=(wdup_pg hE h hs.2).mv
   exact h3.trans (zDg hE _ h3.hi)
 . rw [if_neg hs];exact .refl h
theorem zLE (k:Int) (h:x.at'<l.length):Mw l x (zFW l k x).2:=by
 have h1:=(zAA hE [61] h).mv
 have h2:=(zAA hE [123] h).mv
 unfold zFW
 split
 . exact h1.trans (zDg hE _ h1.hi)
 split
 . exact h2.trans (zG8 hE _ h2.hi)
 split
 . exact h2.trans (mbsT_mw hE h2.hi)
 . exact h2.trans (fdsT_mw hE h2.hi)
theorem zGg (k:Int) (h:x.at'<l.length) (hs:nmZ l x=true):Pg l x (zAi l k x).2:=by
 have h1:=zCa hE h hs
 have h2:=(zy hE h1.mv.hi).mv
 have h3:=zIU hE k h2.hi
 have h4:=zAO hE h3.hi
 exact (((h1.mw h2).mw h3).mw h4).mw (zLE hE k h4.hi)
theorem zHm : ∀ (f:Nat) (acc:List D) (x:RS),x.at'<l.length->Mw l x (sdocLT l f acc x).2
 |0,_,_,h => .refl h
 |f+1,acc,x,h=>by
  unfold sdocLT
  split
  . by_cases hc:nmZ l x=false\/kindS (tkZ l x).s=0
    . rw [if_pos hc];exact zDj h (by decide)
    rw [if_neg hc]
    split
    . exact zDj h (by decide)
    . have h1:=(zGg hE (kindS (tkZ l x).s) h (by
       cases hq:nmZ l x with
       |true=>rfl
       |false=>exact (hc (.inl hq)).elim)).mv
      exact h1.trans (zHm f _ _ h1.hi)
  . exact .refl h
end
end
section
open Go.RowKit
attribute [local irreducible] wpList Calls Code.wp
section
variable {X:Cx} {nn:Nat} {st:Vst nn} {ops:Array Oper} {o:Oper}
theorem opOk_callR {K:Vst nn->Prop} {f:FuncId} {vargs args:List V} {bs:List Res} {r:V} (ns:List Nat) (h:act1 X.P st.rs (ev st) o.op = .call f vargs) (hc:ACB X.e X.P f args bs r bs) (hnd:ns.Nodup) (ha:renL (φin ns) vargs=args)
 (hb:ns.map st.rs=bs.map some) (hp : ∀ ρ∈bs,∀ φ,renR φ ρ=ρ) (hK:K (st.put o.dst (renV (φout ns) r))):OpOk X o st K:=by
 have hall:=fun ρ (h:ρ∈bs) φ=>hp ρ h φ
 have hget : ∀ (i q:Nat),ns[i]? = some q->bs[i]? = st.rs q:=fun i q hq=>by
  have h3:(ns.map st.rs)[i]? = (bs.map some)[i]?:=by rw [hb]
  rw [List.getElem?_map,List.getElem?_map,hq] at h3
  cases hbi:bs[i]? with
  |none=>rw [hbi] at h3;simp at h3
  |some ρ=>rw [hbi] at h3;simp at h3;exact h3.symm
 refine zAq ns h hc hnd ha ?_ ?_
 . rw [<- hb]
   refine List.map_congr_left fun q hq => ?_
   obtain ⟨i,hi⟩:=List.getElem?_of_mem hq
   cases hr:st.rs q with
   |none=>rfl
   |some ρ =>
    have:=(hget i q hi).trans hr
    rw [Option.map_some,hall ρ (List.mem_of_getElem? this) _]
 . have e:bs.map (renR (φout ns))=bs:=by
    conv=>rhs;rw [<- List.map_id bs]
    exact List.map_congr_left fun ρ hρ=>hall ρ hρ _
   have e2:st.resN ns bs=st:=by
    unfold Vst.resN
    have:updN st.rs ns bs=st.rs:=by
     funext m
     unfold updN
     split
     . rename_i i hi;exact hget i m (zBL hi)
     . rfl
    rw [this]
   rw [e,e2];exact hK
def gvD (ops:Array Oper) (st:Vst nn) (j:Nat):Option (Option Bool):=
 match (ops[j]?).bind (·.dst) with
 |some d=>match ev st (.tmp d) with | .c (.bool b)=>some (some b) | .tup []=>some none | _=>none
 |none=>none
def gwD (ops:Array Oper) (o:Oper) (st:Vst nn):Option Bool:=
 match o.guard with
 |none=>some true
 |some (j,want)=>(gvD ops st j).map (· == some want)
theorem gvD_of {j:Nat} {b:Bool} (h:gval ops st j=some b):gvD ops st j=some (some b):=by
 unfold gval at h
 unfold gvD
 split at h
 . rename_i d hd
   rw [hd]
   dsimp only
   split at h
   . rename_i b' hb;rw [hb];cases h;rfl
   . cases h
 . cases h
theorem gwD_ok {s:Sg} {w:World} {a:Act} {b:Bool} (h:gwD ops o st=some b) (hI:Inv X st s w a):Region.wanted o (yielded ops a.tmps)=b:=by
 unfold gwD at h
 split at h
 . rename_i hg;unfold Region.wanted;rw [hg];cases h;rfl
 . rename_i j want hg
   obtain ⟨q,hq,rfl⟩:=Option.map_eq_some_iff.1 h
   cases q with
   |some b' =>
    have hb:gval ops st j=some b':=by
     unfold gvD at hq
     unfold gval
     split at hq
     . rename_i d hd
       rw [hd]
       dsimp only
       split at hq
       . rename_i b2 hb;rw [hb];cases hq;rfl
       . cases hq
       . cases hq
     . cases hq
    unfold Region.wanted
    rw [hg]
    simp [zHB hb hI]
   |none =>
    unfold gvD at hq
    split at hq
    . rename_i t ht
      split at hq
      . cases hq
      . rename_i hu
        have hr:=hI.ev (.tmp t)
        rw [hu,rel] at hr
        have he:a.tmps.getD t undef=undef:=by
         obtain ⟨cs,h1,h2⟩:=hr
         have:cs = #[]:=by
          apply Array.ext'
          cases hc:cs.toList with
          |nil=>rfl
          |cons x xs=>rw [hc] at h2;simp [relL] at h2
         have h3:a.tmps.getD t undef = .tuple cs:=h1
         rw [h3,this];rfl
        have hy:yielded ops a.tmps j=none:=by
         unfold yielded
         rw [ht]
         simp only [Option.bind_some]
         rw [Array.getD_eq_getD_getElem?] at he
         cases hq:a.tmps[t]? with
         |none=>simp
         |some u=>rw [hq] at he;simp at he;rw [he];rfl
        unfold Region.wanted
        rw [hg]
        cases hq
        simp [hy]
      . cases hq
    . cases hq
inductive YldT (X:Cx) (rd wr:List Nat) (o:Oper) (st:Vst nn):V->List (Nat × Res)->Prop where
 |val {p:Prop} {v:V} (h:act1 X.P st.rs (ev st) o.op = .val p v) (hp:p) (hl:inO rd (loads (ev st) o.op)=true):YldT X rd wr o st v []
 |valW {p:Prop} {v v':V} (h:act1 X.P st.rs (ev st) o.op = .val p v) (hle:VLe v v') (hp:p) (hl:inO rd (loads (ev st) o.op)=true):YldT X rd wr o st v' []
 |call {f:FuncId} {args:List V} {v:V} (h:act1 X.P st.rs (ev st) o.op = .call f args) (hc:AC X.e X.P f (outL args) v):YldT X rd wr o st v []
 |lit {t e:TypeId} {b m:Nat} {parts:Array (Nat × Operand)} {ds:List D} (ho:o.op = .buildSlice t m parts) (he:z8 X.P t=some (e,b)) (hn:m=ds.length) (hs:m*X.P.cellsOf e<=2^24) (hp:zCQ X.P e (ev st) parts.toList 0 ds):YldT X rd wr o st (.lit e ds) []
 |pick {c x y:Operand} {b:Bool} (ho:o.op = .pick c x y) (hc:ev st c = .c (.bool b)):YldT X rd wr o st (bif b then ev st x else ev st y) []
 |callB {f:FuncId} {vargs args:List V} {bs bs':List Res} {r:V} (ns:List Nat) (h:act1 X.P st.rs (ev st) o.op = .call f vargs) (hc:ACB X.e X.P f args bs r bs') (hnd:ns.Nodup) (ha:renL (φin ns) vargs=args) (hb:ns.map (fun n=>(st.rs n).map (renR (φin ns)))=bs.map some)
   (hl:ns.all (fun n=>wr.contains n)=true) (hlen:bs'.length=ns.length):YldT X rd wr o st (renV (φout ns) r) (ns.zip (bs'.map (renR (φout ns))))
 |callR {f:FuncId} {vargs args:List V} {bs:List Res} {r:V} (ns:List Nat) (h:act1 X.P st.rs (ev st) o.op = .call f vargs) (hc:ACB X.e X.P f args bs r bs) (hnd:ns.Nodup) (ha:renL (φin ns) vargs=args) (hb:ns.map st.rs=bs.map some) (hp : ∀ ρ∈bs,∀ φ,renR φ ρ=ρ)
   (hl:ns.all (fun n=>rd.contains n)=true):YldT X rd wr o st (renV (φout ns) r) []
 |onlit {t e:TypeId} {b:Nat} {x y:Operand} {l l2:List D} (ho:o.op = .call { callee:=.builtin .append,args:=#[x,y],argTypes:=#[t,t] }) (he:z8 X.P t=some (e,b)) (hleaf : ∀ d,(cellsV X.P 12 e d).all V.leaf=true)
   (hx:ev st x = .lit e l) (hy:(ev st y).out = .sl e l2) (hp:l.length+l2.length<=maxLen/\(l.length+l2.length)*b<=140737488355328):YldT X rd wr o st (.sl e (l++l2)) []
 |app {t e:TypeId} {b k:Nat} {x y:Operand} {l l2:List D} (hk:wr.contains k=true) (ho:o.op = .call { callee:=.builtin .append,args:=#[x,y],argTypes:=#[t,t] }) (he:z8 X.P t=some (e,b)) (hleaf : ∀ d,(cellsV X.P 12 e d).all V.leaf=true)
   (hx:ev st x = .own k e l) (hr:st.rs k=some (.tok e l.length)) (hy:(ev st y).out = .sl e l2) (hp:0<l2.length/\l.length+l2.length<=maxLen/\(l.length+l2.length)*b<=140737488355328) :
   YldT X rd wr o st (.own k e (l++l2)) [(k,.tok e (l.length+l2.length))]
 |store {t t':TypeId} {x y:Operand} {n off:Nat} {vs xs:List V} (hk:wr.contains n=true) (ho:o.op = .store t x y) (hd:o.dst=none) (hx:ev st x = .bx n off) (hr:st.rs n=some (.box t' vs)) (hc:cellsOf (ev st y)=some xs)
   (hs:X.P.cellsOf t=xs.length/\(X.P.info? t).isSome) (hl:off+xs.length<=vs.length):YldT X rd wr o st .any [(n,.box t' (splice vs off xs))]
def YldU (X:Cx) (ops:Array Oper) (rd wr:List Nat) (o:Oper) (st:Vst nn) (v:V) (u:List (Nat × Res)):Prop:=
 (gwD ops o st=some true/\YldT X rd wr o st v u)\/(gwD ops o st=some false/\v = .tup []/\u=[])
theorem opOk_yldT {rd wr:List Nat} {K:Vst nn->Prop} {v:V} {u:List (Nat × Res)} (h:YldT X rd wr o st v u) (hK:K (stp st o.dst v u)):OpOk X o st K:=by
 cases h with
 |val h hp hl=>exact zCx h hp hK
 |valW h hle hp hl=>exact zE0 _ h hle hp hK
 |call h hc=>exact zCZ h hc hK
 |lit ho he hn hs hp=>exact zES ho he hn hs hp hK
 |callR ns h hc hnd ha hb hp hl=>exact opOk_callR ns h hc hnd ha hb hp hK
 |callB ns h hc hnd ha hb hl hlen =>
  refine zAq ns h hc hnd ha hb ?_
  unfold stp at hK
  rw [zCu hnd (by simpa using hlen)] at hK
  exact hK
 |pick ho hc=>exact zA0 ho hc hK
 |onlit ho he hleaf hx hy hp=>exact zBX ho he hleaf hx hy hp.1 hp.2 hK
 |app hk ho he hleaf hx hr hy hp =>
  unfold stp at hK;rw [zB8] at hK
  exact zAc ho he hleaf hx hr hy hp.1 hp.2.1 hp.2.2 hK
 |store hk ho hd hx hr hc hs hl =>
  unfold stp at hK;rw [zB8,hd] at hK
  exact zCy ho hd hx hr hc hs hl hK
theorem YldT.congr {rd wr:List Nat} {st st':Vst nn} {v:V} {u:List (Nat × Res)} (hev : ∀ x∈o.op.operands,ev st' x=ev st x) (hrs : ∀ n,rd.contains n=true\/wr.contains n=true->st'.rs n=st.rs n) (hact:inO rd (loads (ev st) o.op)=true->act1 X.P st'.rs (ev st') o.op=act1 X.P st.rs (ev st) o.op)
 (hact2 : ∀ f args,act1 X.P st'.rs (ev st') o.op = .call f args ↔ act1 X.P st.rs (ev st) o.op = .call f args) (h:YldT X rd wr o st v u):YldT X rd wr o st' v u:=by
 have hloads:=zBa o.op hev
 cases h with
 |val h hp hl=>exact .val (by rw [hact hl];exact h) hp (by rw [hloads];exact hl)
 |valW h hle hp hl=>exact .valW (by rw [hact hl];exact h) hle hp (by rw [hloads];exact hl)
 |call h hc=>exact .call ((hact2 _ _).2 h) hc
 |lit ho he hn hs hp=>exact .lit ho he hn hs (zBH _ _ _ (fun p hp=>(hev p.2 (by rw [ho];simp [Op.operands];exact ⟨p.1,by simpa using hp⟩)).symm) hp)
 |callB ns h hc hnd ha hb hl hlen =>
  refine .callB ns ((hact2 _ _).2 h) hc hnd ha ?_ hl hlen
  rw [<- hb]
  exact List.map_congr_left fun q hq=>by rw [hrs q (.inr (List.all_eq_true.1 hl q hq))]
 |callR ns h hc hnd ha hb hp hl =>
  refine .callR ns ((hact2 _ _).2 h) hc hnd ha ?_ hp hl
  rw [<- hb]
  exact List.map_congr_left fun q hq=>hrs q (.inl (List.all_eq_true.1 hl q hq))
 |pick ho hc =>
  rename_i c x y b
  rw [<- hev c (by rw [ho];simp [Op.operands])] at hc
  rw [<- hev x (by rw [ho];simp [Op.operands]),<- hev y (by rw [ho];simp [Op.operands])]
  exact .pick ho hc
 |onlit ho he hleaf hx hy hp =>
  rw [<- hev _ (by rw [ho];simp [Op.operands,Call.operands])] at hx
  rw [<- hev _ (by rw [ho];simp [Op.operands,Call.operands])] at hy
  exact .onlit ho he hleaf hx hy hp
 |app hk ho he hleaf hx hr hy hp =>
  rw [<- hev _ (by rw [ho];simp [Op.operands,Call.operands])] at hx
  rw [<- hev _ (by rw [ho];simp [Op.operands,Call.operands])] at hy
  exact .app hk ho he hleaf hx (by rw [hrs _ (.inr hk)];exact hr) hy hp
 |store hk ho hd hx hr hc hs hl =>
  rw [<- hev _ (by rw [ho];simp [Op.operands])] at hx
  rw [<- hev _ (by rw [ho];simp [Op.operands])] at hc
  exact .store hk ho hd hx (by rw [hrs _ (.inr hk)];exact hr) hc hs hl
theorem YldU.of {rd wr:List Nat} {d:Option Tmp} {v v':V} {u u':List (Nat × Res)} (hd : ∀ t,d=some t->t ∉ o.looksAt ops) (hu:Off rd wr u') :
 YldU X ops rd wr o (stp st d v' u') v u ↔ YldU X ops rd wr o st v u:=by
 have hev : ∀ x∈o.op.operands,ev (stp st d v' u') x=ev st x:=fun x hx=>zFJ fun t ht hxt=>hd t ht (by
  subst hxt
  exact List.mem_append_left _ (List.mem_filterMap.2 ⟨.tmp t,by simpa using hx,rfl⟩))
 have hloads:=zBa o.op hev
 have hact:inO rd (loads (ev st) o.op)=true->act1 X.P (stp st d v' u').rs (ev (stp st d v' u')) o.op=act1 X.P st.rs (ev st) o.op:=fun hl=>by
  rw [zBU o.op hev,zCW]
  exact zLN hu _ hl
 have hact2 : ∀ f args,act1 X.P (stp st d v' u').rs (ev (stp st d v' u')) o.op = .call f args ↔ act1 X.P st.rs (ev st) o.op = .call f args:=fun f args=>by
  rw [zBU o.op hev]
  cases ho:o.op
  case load t x =>
   have nob : ∀ rs,act1 X.P rs (ev st) (.load t x) ≠ .call f args:=fun rs h=>by
    simp only [act1,zE6,zBn] at h
    repeat' (split at h)
    all_goals cases h
   exact ⟨fun h=>(nob _ h).elim,fun h=>(nob _ h).elim⟩
  case slice t x lo hi mx=>cases mx<;>rfl
  all_goals rfl
 have hgv : ∀ j want,o.guard=some (j,want)->gvD ops (stp st d v' u') j=gvD ops st j:=fun j want hg=>by
  unfold gvD
  cases ht:(ops[j]?).bind (·.dst) with
  |none=>rfl
  |some t =>
   have:ev (stp st d v' u') (.tmp t)=ev st (.tmp t):=zFJ fun q hq hqt=>by
    cases hqt
    exact hd t hq (by simp [Oper.looksAt,hg,ht])
   simp only [this]
 have hgw:gwD ops o (stp st d v' u')=gwD ops o st:=by
  unfold gwD
  cases hg:o.guard with
  |none=>rfl
  |some jw=>simp only [hgv jw.1 jw.2 hg]
 have hrs : ∀ n,rd.contains n=true\/wr.contains n=true->(stp st d v' u').rs n=st.rs n:=fun n hn=>by
  rw [zCW];exact zEO hu hn
 unfold YldU
 rw [hgw]
 refine or_congr (and_congr Iff.rfl ⟨fun h => ?_,fun h => ?_⟩) Iff.rfl
 . exact h.congr (fun x hx=>(hev x hx).symm) (fun n hn=>(hrs n hn).symm) (fun hl=>(hact (by rw [hloads] at hl;exact hl)).symm) fun f args=>(hact2 f args).symm
 . exact h.congr hev hrs hact hact2
theorem YldU.names {rd wr:List Nat} {v:V} {u:List (Nat × Res)} (h:YldU X ops rd wr o st v u) : ∀ p∈u,wr.contains p.1=true:=by
 rcases h with ⟨_,h⟩ | ⟨_,_,rfl⟩
 . cases h with
   |app hk=>exact fun p hp=>by simp at hp;subst hp;exact hk
   |store hk=>exact fun p hp=>by simp at hp;subst hp;exact hk
   |callB ns h hc hnd ha hb hl hlen=>exact fun p hp=>List.all_eq_true.1 hl _ (List.of_mem_zip hp).1
   |_=>exact fun p hp=>by simp at hp
 . exact fun p hp=>by simp at hp
variable {rd wr:Nat->List Nat}
def aOpU (X:Cx) (ops:Array Oper) (rd wr:Nat->List Nat) (i:Nat) (K:Vst nn->Prop) (st:Vst nn):Prop:=
 match ops[i]? with
 |none=>K st
 |some o => ∃ v u,YldU X ops (rd i) (wr i) o st v u/\K (stp st o.dst v u)
theorem aOpU_mono {i:Nat} {K K':Vst nn->Prop} (h : ∀ st,K st->K' st) (hh:aOpU X ops rd wr i K st):aOpU X ops rd wr i K' st:=by
 unfold aOpU at *
 split
 . rename_i hn;simp only [hn] at hh;exact h _ hh
 . rename_i o ho
   simp only [ho] at hh
   obtain ⟨v,u,h1,h2⟩:=hh
   exact ⟨v,u,h1,h _ h2⟩
def absAnyU (X:Cx) (ops:Array Oper) (rd wr:Nat->List Nat) (Q:Vst nn->Prop):Nat->Array Bool->Vst nn->Prop
 |0,listed,st=>Region.ready .any ops listed=[]/\Q st
 |fuel+1,listed,st=>(Region.ready .any ops listed=[]->Q st) /\ ∀ i∈Region.ready .any ops listed,aOpU X ops rd wr i (absAnyU X ops rd wr Q fuel (listed.setIfInBounds i true)) st
theorem aOpU_put {i j:Nat} {oi oj:Oper} {v:V} {u:List (Nat × Res)} (hj:ops[j]? = some oj) (hap:oi.apart ops oj=true) (hn:zBi (wr i) (rd j)=true/\zBi (wr i) (wr j)=true/\zBi (wr j) (rd i)=true) {K:Vst nn->Prop} (hy:YldU X ops (rd i) (wr i) oi st v u) (h:aOpU X ops rd wr j K (stp st oi.dst v u)) :
 aOpU X ops rd wr j (fun st'=>YldU X ops (rd i) (wr i) oi st' v u/\K (stp st' oi.dst v u)) st:=by
 obtain ⟨h1,h2,h3⟩:=Oper.apart_spec hap
 unfold aOpU at *
 simp only [hj] at *
 obtain ⟨v',u',hy',hK⟩:=h
 have hu:Off (rd j) (wr j) u:=fun p hp=>by
  have hw:=hy.names p hp
  refine ⟨?_,?_⟩
  . cases hq:(rd j).contains p.1
    . rfl
    . exact (zAU hn.1 hw hq).elim
  . cases hq:(wr j).contains p.1
    . rfl
    . exact (zAU hn.2.1 hw hq).elim
 have hyj:YldU X ops (rd j) (wr j) oj st v' u':=(YldU.of h1 hu).1 hy'
 have hu':Off (rd i) (wr i) u':=fun p hp=>by
  have hw:=hyj.names p hp
  refine ⟨?_,?_⟩
  . cases hq:(rd i).contains p.1
    . rfl
    . exact (zAU hn.2.2 hw hq).elim
  . cases hq:(wr i).contains p.1
    . rfl
    . exact (zAU hn.2.1 hq hw).elim
 have huu : ∀ p∈u,∀ q∈u',p.1≠q.1:=fun p hp q hq e=>by
  have h5:=hy.names p hp
  have h6:=hyj.names q hq
  rw [<- e] at h6
  exact zAU hn.2.1 h5 h6
 exact ⟨v',u',hyj,(YldU.of h3 hu').2 hy,by rw [<- zEr h2 huu];exact hK⟩
theorem zHY {Q:Vst nn->Prop} {i:Nat} {oi:Oper} {v:V} {u:List (Nat × Res)} (hi:ops[i]? = some oi) (hN:zB0 ops rd wr=true) :
 ∀ (fuel:Nat) (listed:Array Bool) (st:Vst nn),Closed ops listed->(∀ j,j<i->listed.getD j false=true) ->
   (∀ j oj,ops[j]? = some oj->j≠i->listed.getD j true=false->(∀ e∈oj.after,Region.binds .any e=true->e.on≠i)->oi.apart ops oj=true) ->
   i∈Region.ready .any ops listed->YldU X ops (rd i) (wr i) oi st v u ->
   absAnyU X ops rd wr Q fuel (listed.setIfInBounds i true) (stp st oi.dst v u)->absAnyU X ops rd wr Q (fuel+1) listed st:=by
 intro fuel
 induction fuel with
 |zero =>
  intro listed st _ _ _ hr hy H
  refine ⟨fun h=>(by rw [h] at hr;cases hr),fun j hj => ?_⟩
  by_cases hji:j=i
  . subst hji;unfold aOpU;simp only [hi];exact ⟨v,u,hy,H⟩
  . have:=ready_mono hj hji
    rw [H.1] at this
    cases this
 |succ fuel ih =>
  intro listed st hcl hlow hfree hr hy H
  refine ⟨fun h=>(by rw [h] at hr;cases hr),fun j hj => ?_⟩
  by_cases hji:j=i
  . subst hji;unfold aOpU;simp only [hi];exact ⟨v,u,hy,H⟩
  . have h1:=H.2 j (ready_mono hj hji)
    obtain ⟨hjun,oj,hoj,hall⟩:=mem_ready.1 hj
    have hiun:=(mem_ready.1 hr).1
    have hnot : ∀ e∈oj.after,Region.binds .any e=true->e.on≠i:=fun e he hb heq=>by
     have h1:=hall e he hb
     rw [heq] at h1
     exact zAP hiun h1
    have hij:i<j:=by
     rcases Nat.lt_trichotomy i j with h | h | h
     . exact h
     . exact absurd h.symm hji
     . exact (zAP hjun (hlow j h)).elim
    have hsz:j<ops.size:=(Array.getElem?_eq_some_iff.1 hoj).1
    have hnm:zBi (wr i) (rd j)=true/\zBi (wr i) (wr j)=true/\zBi (wr j) (rd i)=true:=by
     have h2:=List.all_eq_true.1 (List.all_eq_true.1 hN j (List.mem_range.2 hsz)) i (List.mem_range.2 hij)
     rw [Bool.or_eq_true] at h2
     rcases h2 with h2 | h2
     . simp only [Bool.and_eq_true] at h2;exact ⟨h2.1.1,h2.1.2,h2.2⟩
     . refine (zAP hiun (zDc hcl _ _ (fun k hk => ?_) i (by simpa using h2))).elim
       unfold zFd at hk
       rw [hoj] at hk
       obtain ⟨e,he,rfl⟩:=List.mem_map.1 hk
       obtain ⟨h2,h3⟩:=List.mem_filter.1 he
       exact hall e (by simpa using h2) h3
    have h2:=aOpU_put (i:=i) hoj (hfree j oj hoj hji hjun hnot) hnm hy h1
    have hfree' : ∀ k ok,ops[k]? = some ok->k≠i->(listed.setIfInBounds j true).getD k true=false ->
     (∀ e∈ok.after,Region.binds .any e=true->e.on≠i)->oi.apart ops ok=true:=fun k ok hk hki hun hno=>by
     refine hfree k ok hk hki ?_ hno
     by_cases hjk:j=k
     . subst hjk;exact hjun
     . rw [getD_set_ne true hjk] at hun;exact hun
    refine aOpU_mono (fun st' h3=>ih (listed.setIfInBounds j true) st' (hcl.set hj) (fun k hk=>getD_set_true (hlow k hk)) hfree' (ready_mono hr (Ne.symm hji)) h3.1 ?_) h2
    rw [Array.setIfInBounds_comm _ _ hji]
    exact h3.2
def absLexU (X:Cx) (ops:Array Oper) (rd wr:Nat->List Nat) (Q:Vst nn->Prop):Nat->List Oper->Vst nn->Prop
 |_,[],st=>Q st
 |k,o::rest,st => ∃ v u,YldU X ops (rd k) (wr k) o st v u/\absLexU X ops rd wr Q (k+1) rest (stp st o.dst v u)
theorem zFa {Q:Vst nn->Prop} (hN:zB0 ops rd wr=true) : ∀ (l:List Oper) (k:Nat) (listed:Array Bool) (st:Vst nn),(∀ j,l[j]? = ops[k+j]?)->Closed ops listed->(∀ j,j<k->listed.getD j false=true)->listed.size=ops.size ->
 Region.lexFrom .any ops l.length k listed=true->absLexU X ops rd wr Q k l st->absAnyU X ops rd wr Q l.length listed st
 |[],_,_,_,_,_,_,_,hB,h=>⟨by simpa [Region.lexFrom] using hB,h⟩
 |o::l,k,listed,st,hl,hcl,hlow,hsz,hB,h=>by
  have h0:ops[k]? = some o:=by simpa using (hl 0).symm
  have hk:k<ops.size:=(Array.getElem?_eq_some_iff.1 h0).1
  simp only [List.length_cons,Region.lexFrom,Bool.and_eq_true] at hB
  obtain ⟨⟨hr,hf⟩,hB'⟩:=hB
  have hr:k∈Region.ready .any ops listed:=by simpa using hr
  obtain ⟨v,u,hy,hK⟩:=h
  exact zHY h0 hN l.length listed st hcl hlow (Region.free_spec h0 hf) hr hy
   (zFa hN l (k+1) _ _ (fun j=>by have:=hl (j+1);simpa [Nat.add_assoc,Nat.add_comm 1 j] using this) (hcl.set hr) (fun j hj=>by
     by_cases e:j=k
     . subst e;exact zCC (by omega)
     . exact getD_set_true (hlow j (by omega))) (by simpa using hsz) hB' hK)
theorem zBN {Q:Vst nn->Prop} {Q':Exit->Act->World->Prop} (hP:PQ X nn Q') (hQ : ∀ st' s' w' a',Inv X st' s' w' a'->Q st'->Q' .normal a' w') : ∀ (fuel:Nat) (listed:Array Bool) (st:Vst nn) (s:Sg) (w:World) (a:Act),Inv X st s w a ->
 absAnyU X ops rd wr Q fuel listed st->wpAny X.P .any ops Q' fuel listed a w
 |0,_,_,_,_,_,hI,h=>⟨h.1,hQ _ _ _ _ hI h.2⟩
 |fuel+1,listed,st,s,w,a,hI,h=>⟨fun h0=>hQ _ _ _ _ hI (h.1 h0),fun i hi=>by
  have h1:=h.2 i hi
  unfold aOpU at h1
  unfold wpOp
  cases ho:ops[i]? with
  |none =>
   simp only [ho] at h1 |-
   exact zBN hP hQ fuel _ st s w a hI h1
  |some o =>
   simp only [ho] at h1 |-
   obtain ⟨v,u,hy,hK⟩:=h1
   rcases hy with ⟨hg,hy⟩ | ⟨hg,rfl,rfl⟩
   . rw [if_pos (gwD_ok hg hI)]
     exact .inl (opOk_yldT (K:=absAnyU X ops rd wr Q fuel (listed.setIfInBounds i true)) hy hK s w a hI _ _ hP fun st' s' w' a' hI' hK'=>zBN hP hQ fuel _ st' s' w' a' hI' hK')
   . rw [if_neg (by rw [gwD_ok hg hI];simp)]
     exact zBN hP hQ fuel _ _ s w (a.put o.dst undef) (hI.put o.dst (by rw [rel];exact ⟨#[],rfl,by simp [relL]⟩)) hK⟩
theorem aw_drawU (r w:List (Nat × List Nat)) {id:Nat} {l:List Oper} {K:Exit->Vst nn->Prop} (hm:X.P.follows .mixedOrders=true) (hB:Region.lexB .any l.toArray=true) (hN:zB0 l.toArray (nmf r) (nmf w)=true) (h:absLexU X l.toArray (nmf r) (nmf w) (K .normal) 0 l st):AW X (.region id l.toArray true) st K:=fun s wd a hI=>by
 simp only [Region.lexB,Bool.and_eq_true] at hB
 refine wp_region_any hm (zBN (rd:=nmf r) (wr:=nmf w) (Q:=K .normal) (fun pv st' s' w' a' hI' hp=>⟨st',s',hI',.inr ⟨pv,rfl,hp⟩⟩) (fun st' s' w' a' hI' hK=>⟨st',s',hI',.inl hK⟩) _ _ st s _ a hI.drew ?_)
 have:=zFa (X:=X) (rd:=nmf r) (wr:=nmf w) (Q:=K .normal) hN l 0 (Array.replicate l.toArray.size false) st (by simp) (fun k o _ hk=>by
  have e:(Array.replicate l.toArray.size false).getD k false=false:=by
   rw [Array.getD_eq_getD_getElem?,Array.getElem?_replicate]
   split<;>rfl
  rw [e] at hk;cases hk) (fun j hj=>absurd hj (Nat.not_lt_zero j)) (by simp) (by simpa using hB.2) h
 simpa using this
section
variable {l:List Oper} {Q:Vst nn->Prop} {d:Option Tmp} {k:Nat}
theorem zFf (h:Q st):absLexU X ops rd wr Q k [] st:=h
theorem u_valW {p:Prop} {v:V} (v':V) (hg:o.guard=none) (hd:o.dst=d) (h:act1 X.P st.rs (ev st) o.op = .val p v) (hle:VLe v v') (hK:absLexU X ops rd wr Q (k+1) l (st.put d v')) (hp:p) (hl:inO (rd k) (loads (ev st) o.op)=true):absLexU X ops rd wr Q k (o::l) st:=
 ⟨v',[],.inl ⟨by simp [gwD,hg],.valW h hle hp hl⟩,by rw [hd];exact hK⟩
theorem zFe {p:Prop} {v:V} (hg:o.guard=none) (hd:o.dst=d) (h:act1 X.P st.rs (ev st) o.op = .val p v) (hK:absLexU X ops rd wr Q (k+1) l (st.put d v)) (hp:p) (hl:inO (rd k) (loads (ev st) o.op)=true):absLexU X ops rd wr Q k (o::l) st:=
 ⟨v,[],.inl ⟨by simp [gwD,hg],.val h hp hl⟩,by rw [hd];exact hK⟩
theorem u_lit {t e:TypeId} {by_ m:Nat} {parts:Array (Nat × Operand)} (ds:List D) (hg:o.guard=none) (ho:o.op = .buildSlice t m parts) (hd:o.dst=d) (he:z8 X.P t=some (e,by_)) (hn:m=ds.length) (hsm:Nat.ble (m*X.P.cellsOf e) (2^24)=true)
 (hp:zCQ X.P e (ev st) parts.toList 0 ds) (hK:absLexU X ops rd wr Q (k+1) l (st.put d (.lit e ds))):absLexU X ops rd wr Q k (o::l) st:=
 ⟨_,[],.inl ⟨by simp [gwD,hg],.lit ho he hn (Nat.le_of_ble_eq_true hsm) hp⟩,by rw [hd];exact hK⟩
theorem u_callB {f:FuncId} {vargs args:List V} {bs bs':List Res} {r:V} (ns:List Nat) (hg:o.guard=none) (hd:o.dst=d) (h:act1 X.P st.rs (ev st) o.op = .call f vargs) (hc:ACB X.e X.P f args bs r bs') (hnd:ns.Nodup) (ha:renL (φin ns) vargs=args) (hb:ns.map (fun n=>(st.rs n).map (renR (φin ns)))=bs.map some)
 (hlen:bs'.length=ns.length) (hl:ns.all (fun n=>(wr k).contains n)=true) (hK:absLexU X ops rd wr Q (k+1) l ((st.resN ns (bs'.map (renR (φout ns)))).put d (renV (φout ns) r))):absLexU X ops rd wr Q k (o::l) st:=
 ⟨_,_,.inl ⟨by simp [gwD,hg],.callB ns h hc hnd ha hb hl hlen⟩,by rw [hd,stp_two,zCu hnd (by simpa using hlen)];exact hK⟩
theorem u_app {t e:TypeId} {by_ q:Nat} {x y:Operand} {l1 l2:List D} (hg:o.guard=none) (ho:o.op = .call { callee:=.builtin .append,args:=#[x,y],argTypes:=#[t,t] }) (hd:o.dst=d) (he:z8 X.P t=some (e,by_))
 (hleaf : ∀ d,(cellsV X.P 12 e d).all V.leaf=true) (hx:ev st x = .own q e l1) (hw:(wr k).contains q=true) (hr:st.rs q=some (.tok e l1.length)) (hy:(ev st y).out = .sl e l2) (hK:absLexU X ops rd wr Q (k+1) l ((st.res q (.tok e (l1.length+l2.length))).put d (.own q e (l1++l2))))
 (hp:0<l2.length/\l1.length+l2.length<=maxLen/\(l1.length+l2.length)*by_<=140737488355328):absLexU X ops rd wr Q k (o::l) st:=
 ⟨_,_,.inl ⟨by simp [gwD,hg],.app hw ho he hleaf hx hr hy hp⟩,by rw [hd,zBq];exact hK⟩
theorem zCU {t:TypeId} {x y:Operand} {m off:Nat} {t':TypeId} {vs xs:List V} (hg:o.guard=none) (ho:o.op = .store t x y) (hd:o.dst=none) (hx:ev st x = .bx m off) (hw:(wr k).contains m=true) (hr:st.rs m=some (.box t' vs)) (hc:cellsOf (ev st y)=some xs)
 (hs:X.P.cellsOf t=xs.length/\(X.P.info? t).isSome) (hl:Nat.ble (off+xs.length) vs.length=true) (hK:absLexU X ops rd wr Q (k+1) l (st.res m (.box t' (splice vs off xs)))):absLexU X ops rd wr Q k (o::l) st:=
 ⟨_,_,.inl ⟨by simp [gwD,hg],.store hw ho hd hx hr hc hs (Nat.le_of_ble_eq_true hl)⟩,by rw [hd,zBq];exact hK⟩
theorem zJq {j:Nat} {want b:Bool} (hg:o.guard=some (j,want)) (hd:o.dst=d) (hb:gval ops st j=some b) (hne:(b==want)=false) (hK:absLexU X ops rd wr Q (k+1) l (st.put d (.tup []))):absLexU X ops rd wr Q k (o::l) st:=
 ⟨.tup [],[],.inr ⟨by simp [gwD,hg,gvD_of hb,hne],rfl,rfl⟩,by rw [hd];exact hK⟩
theorem zEQ {c x y:Operand} {b:Bool} (hg:o.guard=none) (ho:o.op = .pick c x y) (hd:o.dst=d) (hc:ev st c = .c (.bool b)) (hb:b=true) (hK:absLexU X ops rd wr Q (k+1) l (st.put d (ev st x))):absLexU X ops rd wr Q k (o::l) st:=
 ⟨_,[],.inl ⟨by simp [gwD,hg],.pick ho hc⟩,by rw [hd,hb];exact hK⟩
theorem zGY {c x y:Operand} {b:Bool} (hg:o.guard=none) (ho:o.op = .pick c x y) (hd:o.dst=d) (hc:ev st c = .c (.bool b)) (hb:b=false) (hK:absLexU X ops rd wr Q (k+1) l (st.put d (ev st y))):absLexU X ops rd wr Q k (o::l) st:=
 ⟨_,[],.inl ⟨by simp [gwD,hg],.pick ho hc⟩,by rw [hd,hb];exact hK⟩
theorem zBF {j:Nat} {want b:Bool} {p:Prop} {v:V} (hg:o.guard=some (j,want)) (hd:o.dst=d) (hb:gval ops st j=some b) (hne:(b==want)=true) (h:act1 X.P st.rs (ev st) o.op = .val p v) (hK:absLexU X ops rd wr Q (k+1) l (st.put d v)) (hp:p) (hl:inO (rd k) (loads (ev st) o.op)=true):absLexU X ops rd wr Q k (o::l) st:=
 ⟨v,[],.inl ⟨by simp [gwD,hg,gvD_of hb,hne],.val h hp hl⟩,by rw [hd];exact hK⟩
theorem zDW {j:Nat} {want b:Bool} {f:FuncId} {args:List V} {r:V} (hg:o.guard=some (j,want)) (hd:o.dst=d) (hb:gval ops st j=some b) (hne:(b==want)=true) (h:act1 X.P st.rs (ev st) o.op = .call f args) (hc:AC X.e X.P f (outL args) r) (hK:absLexU X ops rd wr Q (k+1) l (st.put d r)):absLexU X ops rd wr Q k (o::l) st:=
 ⟨r,[],.inl ⟨by simp [gwD,hg,gvD_of hb,hne],.call h hc⟩,by rw [hd];exact hK⟩
theorem zEm {j:Nat} {want b:Bool} {p:Prop} {v:V} (hg:o.guard=some (j,want)) (hd:o.dst=d) (hb:gval ops st j=some b) (h:act1 X.P st.rs (ev st) o.op = .val p v) (hK:(b==want)=true->absLexU X ops rd wr Q (k+1) l (st.put d v)) (hp:(b==want)=true->p)
 (hl:inO (rd k) (loads (ev st) o.op)=true) (hN:(b==want)=false->absLexU X ops rd wr Q (k+1) l (st.put d (.tup []))):absLexU X ops rd wr Q k (o::l) st:=by
 cases e:b==want
 . exact zJq hg hd hb e (hN e)
 . exact zBF hg hd hb e h (hK e) (hp e) hl
theorem zJr {tR:TypeId} {f:FuncId} {m:Nat} {vs az cs:List V} {r:V} (hg:o.guard=none) (hd:o.dst=d) (h:act1 X.P st.rs (ev st) o.op = .call f vs) (hv:vs = .bx m 0::az) (hr:st.rs m=some (.box tR cs)) (hren : ∀ φ,renL φ cs=cs)
 (hc:ACB X.e X.P f (.bx (pn 0) 0::az) [.box tR cs] r [.box tR cs]) (haz : ∀ φ,renL φ az=az) (hrr : ∀ φ,renV φ r=r) (hl:(rd k).contains m=true) (hK:absLexU X ops rd wr Q (k+1) l (st.put d r)):absLexU X ops rd wr Q k (o::l) st:=by
 subst hv
 refine ⟨_,[],.inl ⟨by simp [gwD,hg],.callR [m] h hc (by simp) (by simp only [renL,renV,φin_one,haz]) (by simp [hr]) (fun ρ hp φ => ?_) (by simpa using hl)⟩,?_⟩
 . simp only [List.mem_singleton] at hp
   subst hp
   simp only [renR,hren]
 . rw [hd,hrr];exact hK
theorem u_m {S:Type} {tR:TypeId} {f:FuncId} {m:Nat} {vs az cs:List V} {x x':S} {r:V} (cl:S->List V) (hren : ∀ φ x,renL φ (cl x)=cl x) (hg:o.guard=none) (hd:o.dst=d) (h:act1 X.P st.rs (ev st) o.op = .call f vs) (hv:vs = .bx m 0::az) (hr:st.rs m=some (.box tR cs)) (hx:cs=cl x)
 (hc:ACB X.e X.P f (.bx (pn 0) 0::az) [.box tR (cl x)] r [.box tR (cl x')]) (haz : ∀ φ,renL φ az=az) (hrr : ∀ φ,renV φ r=r) (hl:[m].all (fun n=>(wr k).contains n)=true) (hK:absLexU X ops rd wr Q (k+1) l ((st.res m (.box tR (cl x'))).put d r)):absLexU X ops rd wr Q k (o::l) st:=by
 subst hv
 subst hx
 refine u_callB [m] hg hd h hc (by simp) (by simp only [renL,renV,φin_one,haz]) (by simp [hr,renR,hren]) rfl hl ?_
 rw [zGo (fun φ=>hren φ x'),zBm,hrr]
 exact hK
theorem zAR (n:Nat) (r w:List (Nat × List Nat)) {id:Nat} {l:List Oper} {K:Exit->Vst nn->Prop} (hn:l.length=n) (hm:X.P.follows .mixedOrders=true) (hB:Region.lexB .any l.toArray=true) (hN:zB0 l.toArray (nmf r) (nmf w)=true) (h:absLexU X l.toArray (nmf r) (nmf w) (K .normal) 0 l st):AW X (.region id l.toArray true) st K:=
 aw_drawU r w hm hB hN h
end
end
end
section
open Go.RowKit
set_option linter.unusedSectionVars false
attribute [local irreducible] wpList Calls Code.wp AW AWo OpOk seqK zq zu loopK endK AC zf Yld Sub
attribute [local irreducible] ACB ACX ACE absLexG YldG absLexU YldU
def zj (l:List Tok) (x:RS):List V:=[.sl 70 (l.map tokD),.c (.int .i64 (x.at':Int)),.c (.int .i64 (x.ct:Int)),.c (.int .i64 x.er),.c (.int .i64 (x.wr:Int))]
def boxF (l:List Tok) (x:RS):Res:=.box 68 (zj l x)
theorem z6 (l:List Tok) (x:RS):zj l x=zj l x:=rfl
theorem zBh (l:List Tok) (x:RS):[V.sl 70 (l.map tokD),.c (.int .i64 ((x.at':Int)+1)),.c (.int .i64 (x.ct:Int)),.c (.int .i64 x.er),.c (.int .i64 (x.wr:Int))]=zj l (upZ x):=rfl
theorem zN (l:List Tok) (φ:Nat->Option Nat) (x:RS):renL φ (zj l x)=zj l x:=rfl
theorem zA1 (l:List Tok) {a:Nat} (h:a<l.length):gD (l.map tokD) a=tokD (l.getD a ⟨5,[],0⟩):=by
 unfold gD
 rw [List.getD_eq_getElem?_getD,List.getD_eq_getElem?_getD,List.getElem?_map,List.getElem?_eq_getElem h];rfl
theorem zAr (l:List Tok) {a:Nat} (h:a<l.length):0<=(a:Int)/\(a:Int)<((l.map tokD).length:Int):=⟨by omega,by rw [List.length_map];omega⟩
section
variable (l:List Tok) (x:RS)
theorem zGI (e:Int) (a:Nat) (ha:a<l.length):ACB EN5 Tryz.prog 53 [.bx (pn 0) 0,.c (.int .i64 e),.c (.int .i64 (a:Int))] [boxF l x] (.tup []) [boxF l (zBg l e a x)]:=by
 have hgd:=zA1 l ha
 refine zb (fn:=Tryz.f53) 26 Tryz.func53 rfl rfl ?_
 intro pas w0 w he hp
 repeat' (first
|refine zA ?_
|refine zB ?_
|refine zF ?_
|apply aw_1
 conv=>whnf
 refine ⟨?_,trivial⟩
|apply s_1
 conv=>whnf;arg 1;arg 4;arg 3;whnf
 refine ⟨?_,?_⟩
|apply zI rfl rfl rfl
 . conv=>lhs;whnf
 . conv=>lhs;whnf;arg 1;whnf
 . conv=>lhs;whnf;arg 1;whnf
 . exact ⟨by kernel_rfl,by kernel_rfl⟩
 . rfl
|refine ze (by conv=>lhs;whnf) ?_ ?_<;>intro hb
|refine zx ⟨?_,?_⟩
|exact (rfl:_=V.tup [])
|exact trivial)
 all_goals first
  |exact zAr l ha
  |rfl
  |skip
 . have h:x.er=0:=by simpa using (by assumption:(x.er==0)=true)
   refine ⟨?_,trivial⟩
   unfold zBg
   rw [if_pos h]
   show some (Res.box _ [_,_,_,.c (.int .i64 e),.c (.int .i64 ((gD (l.map tokD) a).f 2).n)])=_
   rw [hgd];rfl
 . have h : ¬ x.er=0:=by simpa using (by assumption:(x.er==0)=false)
   refine ⟨?_,trivial⟩
   unfold zBg
   rw [if_neg h];rfl
theorem zBR (e:Int) (h:x.at'<l.length):ACB EN5 Tryz.prog 28 [.bx (pn 0) 0,.c (.int .i64 e)] [boxF l x] (.tup []) [boxF l (zAG l e x)]:=by
 have h1:=zGI l x e x.at' h
 refine zb (fn:=Tryz.f28) 11 Tryz.func28 rfl rfl ?_
 intro pas w0 w he hp
 repeat' (first
|apply s_m (zj l) (zN l) rfl
 . conv=>lhs;whnf
 . conv=>lhs;whnf
 . rfl
 . conv=>lhs;whnf;arg 1;whnf
 . first | exact z6 _ _
 . first | exact h1
 . exact fun _=>rfl
 . exact fun _=>rfl
|refine zA ?_
|refine zB ?_
|apply s_1
 conv=>whnf;arg 1;arg 4;arg 3;whnf
 refine ⟨?_,?_⟩
|refine zx ⟨?_,?_⟩
|exact (rfl:_=V.tup [])
|exact trivial)
 all_goals first
  |rfl
  |exact ⟨rfl,trivial⟩
theorem zCb (h:x.at'<l.length):ACB EN5 Tryz.prog 26 [.bx (pn 0) 0] [boxF l x] (.c (.bool (nmZ l x))) [boxF l x]:=by
 have hgd:gD (l.map tokD) ((x.at':Int)).toNat=tokD (tkZ l x):=zA1 l h
 have e:nmZ l x=((x.er==0)&&((tkZ l x).k==2)):=rfl
 rw [e]
 refine zb (fn:=Tryz.f26) 22 Tryz.func26 rfl rfl ?_
 intro pas w0 w he hp
 repeat' (first
|refine zA ?_
|refine zB ?_
|refine zF ?_
|apply aw_1
 conv=>whnf
 refine ⟨?_,trivial⟩
|apply s_1
 conv=>whnf;arg 1;arg 4;arg 3;whnf
 refine ⟨?_,?_⟩
|apply zA3 (by kernel_rfl) (by kernel_rfl)
|apply zDT
|apply zJe rfl rfl
 . conv=>lhs;whnf
 . conv=>lhs;whnf
 . first | exact bT1 ‹_› | exact bT2 ‹_›
|apply zCs rfl rfl
 . conv=>lhs;whnf
 . conv=>lhs;whnf
 . first | exact bF1 ‹_› | exact bF2 ‹_›
|apply zDS rfl
 . conv=>lhs;whnf
 . conv=>lhs;whnf;arg 2;whnf
|apply zAb rfl
 . conv=>lhs;whnf
 . conv=>lhs;whnf
 . first | rfl | assumption
 . conv=>lhs;whnf;arg 2;whnf
|apply y_skip rfl
 . conv=>lhs;whnf
 . conv=>lhs;whnf
 . first | rfl | assumption
|apply zA8 rfl
 . conv=>lhs;whnf
 . conv=>lhs;whnf
 . conv=>lhs;whnf;arg 2;whnf
|exact zAC
|exact zAk
|exact (1000000:Nat)
|refine zx ⟨?_,?_⟩
|refine ⟨_,by conv=>lhs;whnf;arg 2;whnf,?_⟩;conv=>rhs;whnf
|exact trivial
|intro hg)
 all_goals first
  |exact zAr l h
  |exact ⟨rfl,trivial⟩
  |skip
 . have h0:(x.er==0)=true:=bT1 ‹_›
   rw [hgd,h0];rfl
 . have h0:(x.er==0)=false:=bF1 ‹_›
   rw [h0];rfl
theorem zAa (h:x.at'<l.length) (s:List UInt8):ACB EN5 Tryz.prog 125 [.bx (pn 0) 0,.c (.string (bs s))] [boxF l x] (.c (.bool (sgZ l s x))) [boxF l x]:=by
 have hgd:gD (l.map tokD) ((x.at':Int)).toNat=tokD (tkZ l x):=zA1 l h
 have e:sgZ l s x=((x.er==0)&&((tkZ l x).k==1)&&((bs (tkZ l x).s).toList==(bs s).toList)):=by
  unfold sgZ
  rw [Lib.toList_data,Lib.toList_data,zAH,zAH]
 rw [e]
 refine zb (fn:=Tryz.f125) 39 Tryz.func125 rfl rfl ?_
 intro pas w0 w he hp
 repeat' (first
|refine zA ?_
|refine zB ?_
|refine zF ?_
|apply aw_1
 conv=>whnf
 refine ⟨?_,trivial⟩
|apply s_1
 conv=>whnf;arg 1;arg 4;arg 3;whnf
 refine ⟨?_,?_⟩
|apply zA3 (by kernel_rfl) (by kernel_rfl)
|apply zDT
|apply zJe rfl rfl
 . conv=>lhs;whnf
 . conv=>lhs;whnf
 . first | exact bT1 ‹_› | exact bT2 ‹_›
|apply zCs rfl rfl
 . conv=>lhs;whnf
 . conv=>lhs;whnf
 . first | exact bF1 ‹_› | exact bF2 ‹_›
|apply zDS rfl
 . conv=>lhs;whnf
 . conv=>lhs;whnf;arg 2;whnf
|apply zAb rfl
 . conv=>lhs;whnf
 . conv=>lhs;whnf
 . first | rfl | assumption
 . conv=>lhs;whnf;arg 2;whnf
|apply y_skip rfl
 . conv=>lhs;whnf
 . conv=>lhs;whnf
 . first | rfl | assumption
|apply zA8 rfl
 . conv=>lhs;whnf
 . conv=>lhs;whnf
 . conv=>lhs;whnf;arg 2;whnf
|exact zAC
|exact zAk
|exact (1000000:Nat)
|refine zx ⟨?_,?_⟩
|refine ⟨_,by conv=>lhs;whnf;arg 2;whnf,?_⟩;conv=>rhs;whnf
|exact trivial
|intro hg)
 all_goals first
  |exact zAr l h
  |exact ⟨rfl,trivial⟩
  |skip
 . have h0:(x.er==0)=true:=bT1 ‹_›
   rw [hgd] at hg |-
   have h1:((tkZ l x).k==1)=true:=bT1 hg
   rw [h0,h1];rfl
 . have h0:(x.er==0)=true:=bT1 ‹_›
   rw [hgd] at hg
   have h1:((tkZ l x).k==1)=false:=bF1 hg
   rw [h0,h1];rfl
 . have h0:(x.er==0)=false:=bF1 ‹_›
   rw [h0];rfl
theorem zJh (h:x.at'<l.length) (s:List UInt8):ACB EN5 Tryz.prog 55 [.bx (pn 0) 0,.c (.string (bs s))] [boxF l x] (.c (.bool (wdZ l s x))) [boxF l x]:=by
 have hgd:gD (l.map tokD) ((x.at':Int)).toNat=tokD (tkZ l x):=zA1 l h
 have h1:=zCb l x h
 have e:wdZ l s x=(nmZ l x&&((bs (tkZ l x).s).toList==(bs s).toList)):=by
  unfold wdZ
  rw [Lib.toList_data,Lib.toList_data,zAH,zAH]
 rw [e]
 refine zb (fn:=Tryz.f55) 22 Tryz.func55 rfl rfl ?_
 intro pas w0 w he hp
 repeat' (first
|apply zAR 18 ([(1,[1000000]),(6,[1000000]),(10,[1000000])]) ([]) rfl (by kernel_rfl) (by kernel_rfl) (by kernel_rfl)
|apply zFf
|apply zJr rfl
 . conv=>lhs;whnf
 . conv=>lhs;whnf
 . rfl
 . conv=>lhs;whnf;arg 1;whnf
 . exact fun _=>rfl
 . first | exact h1
 . exact fun _=>rfl
 . exact fun _=>rfl
 . rfl
|apply zJq rfl
 . conv=>lhs;whnf
 . conv=>lhs;whnf
 . first | rfl | assumption
|apply zEQ rfl rfl
 . conv=>lhs;whnf
 . conv=>lhs;whnf
 . first | exact bT1 ‹_› | exact bT2 ‹_›
|apply zGY rfl rfl
 . conv=>lhs;whnf
 . conv=>lhs;whnf
 . first | exact bF1 ‹_› | exact bF2 ‹_›
|apply zFe rfl
 . conv=>lhs;whnf
 . conv=>lhs;whnf;arg 2;whnf
|apply zBF rfl
 . conv=>lhs;whnf
 . conv=>lhs;whnf
 . first | rfl | assumption
 . conv=>lhs;whnf;arg 2;whnf
|apply zEm rfl
 . conv=>lhs;whnf
 . conv=>lhs;whnf
 . conv=>lhs;whnf;arg 2;whnf
|show inO _ _=true;rfl
|refine zA ?_
|refine zB ?_
|refine zF ?_
|apply aw_1
 conv=>whnf
 refine ⟨?_,trivial⟩
|apply s_1
 conv=>whnf;arg 1;arg 4;arg 3;whnf
 refine ⟨?_,?_⟩
|refine zx ⟨?_,?_⟩
|refine ⟨_,by conv=>lhs;whnf;arg 2;whnf,?_⟩;conv=>rhs;whnf
|exact trivial
|intro hg)
 all_goals first
  |exact zAr l h
  |exact ⟨rfl,trivial⟩
  |skip
 . have h0:nmZ l x=true:=bT1 ‹_›
   rw [hgd,h0];rfl
 . have h0:nmZ l x=false:=bF1 ‹_›
   rw [h0];rfl
theorem zAJ (h:x.at'<l.length) (hl:l.length<=100000) (s:List UInt8):ACB EN5 Tryz.prog 58 [.bx (pn 0) 0,.c (.string (bs s))] [boxF l x] (.tup []) [boxF l (needZ l s x)]:=by
 have h1:=zAa l x h s
 have h2:=zBR l x 3 h
 refine zb (fn:=Tryz.f58) 17 Tryz.func58 rfl rfl ?_
 intro pas w0 w he hp
 repeat' (first
|apply s_m (zj l) (zN l) rfl
 . conv=>lhs;whnf
 . conv=>lhs;whnf
 . rfl
 . conv=>lhs;whnf;arg 1;whnf
 . first | exact z6 _ _
 . first | exact h1 | exact h2
 . exact fun _=>rfl
 . exact fun _=>rfl
|refine zA ?_
|refine zB ?_
|refine zF ?_
|apply aw_1
 conv=>whnf
 refine ⟨?_,trivial⟩
|apply s_1
 conv=>whnf;arg 1;arg 4;arg 3;whnf
 refine ⟨?_,?_⟩
|apply zI rfl rfl rfl
 . conv=>lhs;whnf
 . conv=>lhs;whnf;arg 1;whnf
 . conv=>lhs;whnf;arg 1;whnf
 . exact ⟨by kernel_rfl,by kernel_rfl⟩
 . rfl
|refine ze (by conv=>lhs;whnf) ?_ ?_<;>intro hb
|refine zQ ?_
|refine zx ⟨?_,?_⟩
|exact (rfl:_=V.tup [])
|exact trivial)
 all_goals first
  |exact zU (by omega)
  |(have hq : ¬ sgZ l s x=true:=by simpa using (by assumption:(!sgZ l s x)=true)
    unfold needZ;rw [if_neg hq];exact ⟨rfl,trivial⟩)
  |(have hq:sgZ l s x=true:=by simpa using (by assumption:(!sgZ l s x)=false)
    unfold needZ;rw [if_pos hq];exact ⟨rfl,trivial⟩)
  |exact (rfl:V.tup []=V.tup [])
  |skip
theorem zAN (h:x.at'<l.length) (hl:l.length<=100000):ACB EN5 Tryz.prog 54 [.bx (pn 0) 0] [boxF l x] (.c (.string (bs (nameZ l x).1))) [boxF l (nameZ l x).2]:=by
 have hgd:gD (l.map tokD) (((x.at':Int)+1-1)).toNat=tokD (tkZ l x):=by rw [show ((x.at':Int)+1-1).toNat=x.at' by omega];exact zA1 l h
 have h1:=zCb l x h
 have h2:=zBR l x 3 h
 refine zb (fn:=Tryz.f54) 27 Tryz.func54 rfl rfl ?_
 intro pas w0 w he hp
 repeat' (first
|apply s_m (zj l) (zN l) rfl
 . conv=>lhs;whnf
 . conv=>lhs;whnf
 . rfl
 . conv=>lhs;whnf;arg 1;whnf
 . first | exact z6 _ _
 . first | exact h1 | exact h2
 . exact fun _=>rfl
 . exact fun _=>rfl
|refine zA ?_
|refine zB ?_
|refine zF ?_
|apply aw_1
 conv=>whnf
 refine ⟨?_,trivial⟩
|apply s_1
 conv=>whnf;arg 1;arg 4;arg 3;whnf
 refine ⟨?_,?_⟩
|apply zI rfl rfl rfl
 . conv=>lhs;whnf
 . conv=>lhs;whnf;arg 1;whnf
 . conv=>lhs;whnf;arg 1;whnf
 . exact ⟨by kernel_rfl,by kernel_rfl⟩
 . rfl
|apply zA3 (by kernel_rfl) (by kernel_rfl)
|apply zDT
|apply zDS rfl
 . conv=>lhs;whnf
 . conv=>lhs;whnf;arg 2;whnf
|exact zAC
|exact zAk
|exact (1000000:Nat)
|refine ze (by conv=>lhs;whnf) ?_ ?_<;>intro hb
|refine zQ ?_
|refine zx ⟨?_,?_⟩
|refine ⟨_,by conv=>lhs;whnf;arg 2;whnf,?_⟩;conv=>rhs;whnf
|exact trivial)
 all_goals first
  |exact zU (by omega)
  |exact ⟨by omega,by rw [List.length_map];omega⟩
  |(have hq : ¬ nmZ l x=true:=by simpa using (by assumption:(!nmZ l x)=true)
    unfold nameZ;rw [if_neg hq];all_goals first | rfl | exact ⟨rfl,trivial⟩)
  |(have hq:nmZ l x=true:=by simpa using (by assumption:(!nmZ l x)=false)
    unfold nameZ;rw [if_pos hq];all_goals first | exact ⟨rfl,trivial⟩ | (rw [hgd];rfl))
  |exact ⟨by omega,by rw [List.length_map];omega⟩
  |skip
end
end
section
open Go.RowKit
attribute [local irreducible] wpList Calls Code.wp AW AWo OpOk seqK zq zu loopK endK AC zf Yld Sub
theorem wrd_iff (c:UInt8):wrdU c=true ↔ (97<=c.toNat/\c.toNat<=122)\/(65<=c.toNat/\c.toNat<=90)\/c.toNat=95\/(48<=c.toNat/\c.toNat<=57):=by
 have:c=95 ↔ c.toNat=95:=⟨fun h=>by rw [h];rfl,fun h=>UInt8.toNat_inj.1 h⟩
 unfold wrdU letU digU
 simp only [Bool.or_eq_true,decide_eq_true_eq,beq_iff_eq,this]
 omega
theorem zB1 (c:UInt8):AC EN5 Tryz.prog 112 [.c (.int .i32 (c.toNat:Int))] (.c (.bool (wrdU c))):=by
 refine zP 29 Tryz.func112 rfl rfl rfl rfl ?_
 intro s w he
 repeat' (first
|apply zz rfl rfl rfl
 . conv=>lhs;whnf
 . first | rfl | assumption
 . conv=>lhs;whnf
 . first | exact bT1 ‹_› | exact bT2 ‹_› | rfl
|apply zv rfl rfl rfl
 . conv=>lhs;whnf
 . first | rfl | assumption
 . conv=>lhs;whnf
 . first | exact bF1 ‹_› | exact bF2 ‹_› | rfl
|refine zA ?_
|refine zB ?_
|refine zF ?_
|apply aw_1
 conv=>whnf
 refine ⟨?_,trivial⟩
|apply zX rfl rfl
 . conv=>lhs;whnf
 . conv=>lhs;whnf
 . first | exact bT1 ‹_› | exact bT2 ‹_›
|apply zT rfl rfl
 . conv=>lhs;whnf
 . conv=>lhs;whnf
 . first | exact bF1 ‹_› | exact bF2 ‹_›
|apply s_1
 conv=>whnf;arg 1;arg 4;arg 3;whnf
 refine ⟨?_,?_⟩
|apply zC rfl
 . conv=>lhs;whnf
 . conv=>lhs;whnf
 . first | rfl | assumption
 . conv=>lhs;whnf;arg 2;whnf
|apply zW rfl
 . conv=>lhs;whnf
 . conv=>lhs;whnf
 . first | rfl | assumption
|apply zH rfl
 . conv=>lhs;whnf
 . conv=>lhs;whnf
 . conv=>lhs;whnf;arg 2;whnf
|refine zE ?_
|refine ⟨_,by conv=>lhs;whnf;arg 2;whnf,?_⟩;conv=>rhs;whnf
|exact trivial
|intro hg)
 all_goals
  refine congrArg (fun b=>V.c (.bool b)) ?_
  rw [Bool.eq_iff_iff,wrd_iff]
  clear he
  simp at *
  omega
theorem zEK {s:List UInt8} {k:Nat} (h:k<s.length):(bs s).data.toList.getD k 0=s[k]:=by
 rw [zAH,List.getD_eq_getElem?_getD,List.getElem?_eq_getElem h];rfl
theorem zI1 {p:UInt8->Bool} {s:List UInt8} {k:Nat} (h:k<s.length):spanN p (s.drop k)=if p s[k] then spanN p (s.drop (k+1))+1 else 0:=by
 rw [List.drop_eq_getElem_cons h,spanN]
theorem zAV (c:UInt8):IntKind.i32.min<=((c.toNat:Nat):Int)/\((c.toNat:Nat):Int)<=IntKind.i32.max:=by
 have:=c.toNat_lt
 exact ⟨by show (-2147483648:Int)<=_;omega,by show _<=(2147483647:Int);omega⟩
noncomputable def HSp (s:List UInt8) (i:Nat):Vst 22:=
 stS 22 [(0,.c (.string (bs s))),(1,.c (.int .i64 (i:Int))),(2,.c (.func (.func 112) #[] #[]))] []
theorem zI2 (s:List UInt8) (i:Nat) (hi:i<=s.length) (hs:s.length<=1000000):AC EN5 Tryz.prog 111 [.c (.string (bs s)),.c (.int .i64 (i:Int)),.c (.func (.func 112) #[] #[])] (.c (.int .i64 ((i+spanN wrdU (s.drop i):Nat):Int))):=by
 refine zP 22 Tryz.func111 rfl rfl rfl rfl ?_
 intro s0 w he
 repeat' (first
|refine zA ?_
|refine zB ?_
|refine zF ?_
|apply aw_1
 conv=>whnf
 refine ⟨?_,trivial⟩
|apply s_1
 conv=>whnf;arg 1;arg 4;arg 3;whnf
 refine ⟨?_,?_⟩
|exact trivial)
 refine zn (fun j st => ∃ k,k+j=s.length/\i+spanN wrdU (s.drop i)=k+spanN wrdU (s.drop k)/\Sub (cx EN5 Tryz.prog s0 w he) st (HSp s k)) (s.length-i) ⟨i,by omega,rfl,?_⟩ ?_
 . exact Sub.live ⟨rfl,rfl,rfl,trivial⟩ trivial
 rintro j st ⟨k,hkj,hI,hs2⟩
 refine zg hs2 ?_
 clear hs2
 rw [hI]
 clear hI
 have hle : ∀ c:UInt8,AC EN5 Tryz.prog 112 [.c (.int .i32 (c.toNat:Int))] (.c (.bool (wrdU c))):=zB1
 repeat' (first
|refine zA ?_
|refine zB ?_
|refine zF ?_
|refine zZ ?_
|apply aw_1
 conv=>whnf
 refine ⟨?_,trivial⟩
|apply zX rfl rfl
 . conv=>lhs;whnf
 . conv=>lhs;whnf
 . first | exact bT1 ‹_› | exact bT2 ‹_›
|apply zT rfl rfl
 . conv=>lhs;whnf
 . conv=>lhs;whnf
 . first | exact bF1 ‹_› | exact bF2 ‹_›
|apply s_1
 conv=>whnf;arg 1;arg 4;arg 3;whnf
 refine ⟨?_,?_⟩
|apply zC rfl
 . conv=>lhs;whnf
 . conv=>lhs;whnf
 . first | rfl | assumption
 . conv=>lhs;whnf;arg 2;whnf
|apply zh rfl
 . conv=>lhs;whnf
 . conv=>lhs;whnf
 . first | rfl | assumption
 . conv=>lhs;whnf
 . first | exact hle _
|apply zW rfl
 . conv=>lhs;whnf
 . conv=>lhs;whnf
 . first | rfl | assumption
|apply zH rfl
 . conv=>lhs;whnf
 . conv=>lhs;whnf
 . conv=>lhs;whnf;arg 2;whnf
|refine ze (by conv=>lhs;whnf) ?_ ?_<;>intro hb
|refine zO ?_
|refine zL rfl ?_
|refine zM ?_
|refine zE ?_
|refine ⟨_,by conv=>lhs;whnf;arg 2;whnf,?_⟩;conv=>rhs;whnf
|exact trivial
|intro hg)
 . have hk:k<s.length:=by have:=zk s;simp at hg;omega
   have hb:wrdU s[k]=true:=by rw [<- zEK hk];exact hb
   refine zJ (j':=j-1) (by omega) ⟨k+1,by omega,by rw [zI1 hk,if_pos hb];omega,Sub.live ⟨rfl,rfl,rfl,trivial⟩ trivial⟩
 . exact zU (by omega)
 . have hk:k<s.length:=by have:=zk s;simp at hg;omega
   have hb:wrdU s[k]=false:=by rw [<- zEK hk];exact hb
   rw [zI1 hk,if_neg (by rw [hb];decide)];rfl
 . exact zAV _
 . have hk:k<s.length:=by have:=zk s;simp at hg;omega
   exact ⟨by kernel_rfl,by omega,by rw [zk];omega⟩
 . have hk:k=s.length:=by have:=zk s;simp at hg;omega
   rw [hk,List.drop_length];rfl
 . show Tryz.prog.underlying _=_
   kernel_rfl
end
section
open Go.RowKit
attribute [local irreducible] wpList Calls Code.wp AW AWo OpOk seqK zq zu loopK endK AC zf Yld Sub
attribute [local irreducible] ACB ACX ACE absLexG YldG
section
variable {X:Cx} {nn:Nat} {st:Vst nn} {o:Oper} {ops:Array Oper} {l:List Oper} {d:Option Tmp} {KK:Vst nn->Prop}
theorem s_boxw {tR:TypeId} {f:FuncId} {m:Nat} {vs az:List V} {r:V} {cs cs':List V} (hg:o.guard=none) (hd:o.dst=d) (h:act1 X.P st.rs (ev st) o.op = .call f vs) (hv:(m,vs)=(m,vs))
 (hr:st.rs m=some (.box tR cs)) (hcs : ∀ φ,renL φ cs=cs) (hc:ACB X.e X.P f az [.box tR cs] r [.box tR cs']) (hcs' : ∀ φ,renL φ cs'=cs') (haz : ∀ _:Unit,renL (φin [m]) vs=az) (hrr : ∀ φ,renV φ r=r)
 (hK:AWo X ops l ((st.res m (.box tR cs')).put d r) KK):AWo X ops (o::l) st KK:=by
 refine zAB hg (zAq [m] h hc (by simp) (haz ()) (by simp [hr,renR,hcs]) ?_)
 have e:([Res.box tR cs'].map (renR (φout [m])))=[Res.box tR cs']:=by simp [renR,hcs']
 rw [e,zBm,hrr,hd]
 exact hK
theorem zD9 {tR:TypeId} {f:FuncId} {m j:Nat} {want b:Bool} {vs az:List V} {r:V} {cs cs':List V} (hg:o.guard=some (j,want)) (hd:o.dst=d) (hb:gval ops st j=some b) (h:act1 X.P st.rs (ev st) o.op = .call f vs) (hv:(m,vs)=(m,vs))
 (hr:st.rs m=some (.box tR cs)) (hcs : ∀ φ,renL φ cs=cs) (hc:ACB X.e X.P f az [.box tR cs] r [.box tR cs']) (hcs' : ∀ φ,renL φ cs'=cs') (haz : ∀ _:Unit,renL (φin [m]) vs=az) (hrr : ∀ φ,renV φ r=r)
 (hK:(b==want)=true->AWo X ops l ((st.res m (.box tR cs')).put d r) KK) (hN:(b==want)=false->AWo X ops l (st.put d (.tup [])) KK):AWo X ops (o::l) st KK:=by
 cases e:b==want
 . exact zW hg hd hb e (hN e)
 . refine zBc hg hb (fun _ => ?_) fun e2=>(e2 (by simpa using e)).elim
   refine zAq [m] h hc (by simp) (haz ()) (by simp [hr,renR,hcs]) ?_
   have e:([Res.box tR cs'].map (renR (φout [m])))=[Res.box tR cs']:=by simp [renR,hcs']
   rw [e,zBm,hrr,hd]
   exact hK ‹_›
end
def zAF (b:Bool) (c:UInt8):Bool × Bool:=if b then (true,false) else (!(c==34),c==92)
def zBG:Bool->List UInt8->Nat
 |_,[]=>0
 |b,c::r=>if (zAF b c).1 then zBG (zAF b c).2 r+1 else 0
def zI3:Bool->List UInt8->Bool
 |b,[]=>b
 |b,c::r=>if (zAF b c).1 then zI3 (zAF b c).2 r else (zAF b c).2
theorem zG2 : ∀ l:List UInt8,litN l=if zBG false l<l.length then some (zBG false l+1) else none
 |[]=>by simp [litN]
 |[c]=>by
  unfold litN
  by_cases h:c=34
  . subst h;simp [zBG,zAF]
  . have h2:(c==34)=false:=by simpa using h
    rw [h2]
    simp [zBG,zAF,h2]
 |c::d::r=>by
  have ih1:=zG2 r
  have ih2:=zG2 (d::r)
  unfold litN
  by_cases h:c=34
  . subst h;simp [zBG,zAF]
  . have h2:(c==34)=false:=by simpa using h
    rw [h2]
    by_cases h3:c=92
    . subst h3
      have e:zBG false (92::d::r)=zBG false r+2:=by
       show (if (zAF false 92).1 then zBG (zAF false 92).2 (d::r)+1 else 0)=_
       simp [zAF,zBG]
      rw [e,ih1]
      simp only [List.length_cons,Bool.false_eq_true,if_false,beq_self_eq_true,if_true]
      by_cases h4:zBG false r<r.length
      . rw [if_pos h4,if_pos (by omega)];rfl
      . rw [if_neg h4,if_neg (by omega)];rfl
    . have h4:(c==92)=false:=by simpa using h3
      have e:zBG false (c::d::r)=zBG false (d::r)+1:=by
       show (if (zAF false c).1 then zBG (zAF false c).2 (d::r)+1 else 0)=_
       simp [zAF,h2,h4]
      rw [e,ih2,h4]
      simp only [List.length_cons,Bool.false_eq_true,if_false]
      by_cases h5:zBG false (d::r)<r.length+1
      . rw [if_pos h5,if_pos (by omega)];rfl
      . rw [if_neg h5,if_neg (by omega)];rfl
theorem zJu : ∀ (b:Bool) (l:List UInt8),zBG b l<=l.length
 |_,[]=>Nat.le_refl _
 |b,c::r=>by
  have:=zJu (zAF b c).2 r
  unfold zBG
  split<;>simp<;>omega
theorem zBI (c:UInt8) (n:Nat) (h:n<256):(((c.toNat:Nat):Int)==(n:Int))=(c==UInt8.ofNat n):=by
 rw [Bool.eq_iff_iff]
 simp only [beq_iff_eq]
 constructor
 . intro h1
   apply UInt8.toNat_inj.1
   rw [UInt8.toNat_ofNat']
   omega
 . intro h1
   rw [h1,UInt8.toNat_ofNat']
   omega
def boxL (b:Bool):Res:=.box 4 [.c (.bool b)]
theorem lit1_acb (c:UInt8) (b:Bool):ACB EN5 Tryz.prog 169 [.c (.int .i32 (c.toNat:Int)),.bx (pn 0) 0] [boxL b] (.c (.bool (zAF b c).1)) [boxL (zAF b c).2]:=by
 have e1:((c.toNat:Int)==92)=(c==92):=zBI c 92 (by omega)
 have e2:((c.toNat:Int)==34)=(c==34):=zBI c 34 (by omega)
 cases b
 . have e3:zAF false c=(!((c.toNat:Int)==34),(c.toNat:Int)==92):=by rw [e1,e2];rfl
   rw [e3]
   refine zb (fn:=Tryz.f169) 9 Tryz.func169 rfl rfl ?_
   intro pas w0 w he hp
   repeat' (first
|refine zA ?_
|refine zB ?_
|refine zF ?_
|apply aw_1
 conv=>whnf
 refine ⟨?_,trivial⟩
|apply s_1
 conv=>whnf;arg 1;arg 4;arg 3;whnf
 refine ⟨?_,?_⟩
|apply zI rfl rfl rfl
 . conv=>lhs;whnf
 . conv=>lhs;whnf;arg 1;whnf
 . conv=>lhs;whnf;arg 1;whnf
 . exact ⟨by kernel_rfl,by kernel_rfl⟩
 . rfl
|refine zx ⟨?_,?_⟩
|refine ⟨_,by conv=>lhs;whnf;arg 2;whnf,?_⟩;conv=>rhs;whnf
|exact trivial)
   all_goals first | exact ⟨rfl,trivial⟩ | rfl
 . have e3:zAF true c=(true,false):=rfl
   rw [e3]
   refine zb (fn:=Tryz.f169) 9 Tryz.func169 rfl rfl ?_
   intro pas w0 w he hp
   repeat' (first
|refine zA ?_
|refine zB ?_
|refine zF ?_
|apply aw_1
 conv=>whnf
 refine ⟨?_,trivial⟩
|apply s_1
 conv=>whnf;arg 1;arg 4;arg 3;whnf
 refine ⟨?_,?_⟩
|apply zI rfl rfl rfl
 . conv=>lhs;whnf
 . conv=>lhs;whnf;arg 1;whnf
 . conv=>lhs;whnf;arg 1;whnf
 . exact ⟨by kernel_rfl,by kernel_rfl⟩
 . rfl
|refine zQ ?_
|refine zx ⟨?_,?_⟩
|refine ⟨_,by conv=>lhs;whnf;arg 2;whnf,?_⟩;conv=>rhs;whnf
|exact trivial)
   all_goals first | exact ⟨rfl,trivial⟩ | rfl
noncomputable def HSl (s:List UInt8) (i:Nat) (b:Bool):Vst 22:=
 stS 22 [(0,.c (.string (bs s))),(1,.c (.int .i64 (i:Int))),(2,.clo 169 [.bx (pn 0) 0])] [(pn 0,boxL b)]
theorem zGc {b:Bool} {s:List UInt8} {k:Nat} (h:k<s.length):zBG b (s.drop k)=(if (zAF b s[k]).1 then zBG (zAF b s[k]).2 (s.drop (k+1))+1 else 0)/\zI3 b (s.drop k)=(if (zAF b s[k]).1 then zI3 (zAF b s[k]).2 (s.drop (k+1)) else (zAF b s[k]).2):=by
 rw [List.drop_eq_getElem_cons h]
 exact ⟨by rw [zBG],by rw [zI3]⟩
theorem spanl_acb (s:List UInt8) (i:Nat) (hi:i<=s.length) (hs:s.length<=1000000) (b:Bool):ACB EN5 Tryz.prog 111 [.c (.string (bs s)),.c (.int .i64 (i:Int)),.clo 169 [.bx (pn 0) 0]] [boxL b]
 (.c (.int .i64 ((i+zBG b (s.drop i):Nat):Int))) [boxL (zI3 b (s.drop i))]:=by
 refine zb (fn:=Tryz.f111) 22 Tryz.func111 rfl rfl ?_
 intro pas w0 w he hp
 repeat' (first
|refine zA ?_
|refine zB ?_
|refine zF ?_
|apply aw_1
 conv=>whnf
 refine ⟨?_,trivial⟩
|apply s_1
 conv=>whnf;arg 1;arg 4;arg 3;whnf
 refine ⟨?_,?_⟩
|exact trivial)
 refine zn (fun j st => ∃ k b',k+j=s.length/\i+zBG b (s.drop i)=k+zBG b' (s.drop k)/\zI3 b (s.drop i)=zI3 b' (s.drop k)/\Sub ⟨Tryz.prog,pas,w0,w,EN5,he,hp,fun _ _ _=>False,[]⟩ st (HSl s k b')) (s.length-i) ⟨i,b,by omega,rfl,rfl,?_⟩ ?_
 . exact Sub.live ⟨rfl,rfl,rfl,trivial⟩ ⟨rfl,trivial⟩
 rintro j st ⟨k,b',hkj,hI,hS,hs2⟩
 refine zg hs2 ?_
 clear hs2
 rw [hI,hS]
 clear hI hS
 have hle : ∀ c:UInt8,ACB EN5 Tryz.prog 169 [.c (.int .i32 (c.toNat:Int)),.bx (pn 0) 0] [boxL b'] (.c (.bool (zAF b' c).1)) [boxL (zAF b' c).2]:=fun c=>lit1_acb c b'
 have hle2:=hle ((bs s).data.toList.getD ((k:Int)).toNat 0)
 have hin : ∀ h:(decide ((k:Int)<((bs s).size:Nat))==true)=true,∃ hk:k<s.length,(bs s).data.toList.getD ((k:Int)).toNat 0=s[k]:=fun h=>by
  have hz:=zk s
  have hk:k<s.length:=by simp at h;omega
  exact ⟨hk,zEK hk⟩
 have hout : ∀ h:(decide ((k:Int)<((bs s).size:Nat))==true)=false,s.drop k=[]:=fun h=>by
  have hz:=zk s
  have hk:s.length<=k:=by simp at h;omega
  exact List.drop_of_length_le hk
 repeat' (first
|apply zD9 (m:=pn 0) rfl
 . conv=>lhs;whnf
 . conv=>lhs;whnf
 . conv=>lhs;whnf
 . rfl
 . conv=>lhs;whnf;arg 1;whnf
 . exact fun _=>rfl
 . first | exact hle2
 . exact fun _=>rfl
 . exact fun _=>rfl
 . exact fun _=>rfl
|refine zA ?_
|refine zB ?_
|refine zF ?_
|refine zZ ?_
|apply aw_1
 conv=>whnf
 refine ⟨?_,trivial⟩
|apply zX rfl rfl
 . conv=>lhs;whnf
 . conv=>lhs;whnf
 . first | exact bT1 ‹_› | exact bT2 ‹_›
|apply zT rfl rfl
 . conv=>lhs;whnf
 . conv=>lhs;whnf
 . first | exact bF1 ‹_› | exact bF2 ‹_›
|apply s_1
 conv=>whnf;arg 1;arg 4;arg 3;whnf
 refine ⟨?_,?_⟩
|apply zC rfl
 . conv=>lhs;whnf
 . conv=>lhs;whnf
 . first | rfl | assumption
 . conv=>lhs;whnf;arg 2;whnf
|apply zW rfl
 . conv=>lhs;whnf
 . conv=>lhs;whnf
 . first | rfl | assumption
|apply zH rfl
 . conv=>lhs;whnf
 . conv=>lhs;whnf
 . conv=>lhs;whnf;arg 2;whnf
|refine ze (by conv=>lhs;whnf) ?_ ?_<;>intro hb
|refine zO ?_
|refine zL rfl ?_
|refine zM ?_
|refine zx ⟨?_,?_⟩
|refine ⟨_,by conv=>lhs;whnf;arg 2;whnf,?_⟩;conv=>rhs;whnf
|exact trivial
|intro hg)
 . obtain ⟨hk,e⟩:=hin hg
   obtain ⟨e1,e2⟩:=zGc (b:=b') hk
   rw [e] at hb
   rw [if_pos hb] at e1 e2
   refine zJ (j':=j-1) (by omega) ⟨k+1,(zAF b' ((bs s).data.toList.getD ((k:Int)).toNat 0)).2,by omega,by rw [e1,e];omega,by rw [e2,e],Sub.live ⟨rfl,rfl,rfl,trivial⟩ ⟨rfl,trivial⟩⟩
 . exact zU (by obtain ⟨hk,e⟩:=hin hg;omega)
 . obtain ⟨hk,e⟩:=hin hg
   obtain ⟨e1,e2⟩:=zGc (b:=b') hk
   rw [e] at hb
   rw [if_neg (by rw [hb];decide)] at e1
   rw [e1];rfl
 . obtain ⟨hk,e⟩:=hin hg
   obtain ⟨e1,e2⟩:=zGc (b:=b') hk
   have hb2:=hb
   rw [e] at hb2
   rw [if_neg (by rw [hb2];decide),<- e] at e2
   rw [e2]
   exact ⟨rfl,trivial⟩
 . rename_i h1
   rw [h1] at hg;cases hg
 . exact zAV _
 . obtain ⟨hk,e⟩:=hin hg
   exact ⟨by kernel_rfl,by omega,by rw [zk];omega⟩
 . rw [hout hg];rfl
 . rw [hout hg];exact ⟨rfl,trivial⟩
 . show Tryz.prog.underlying _=_
   kernel_rfl
def litV (s:List UInt8) (i:Nat):Int:=match litN (s.drop (i+1)) with
 |none => -1
 |some n=>((i+1+n:Nat):Int)
theorem lit_V {s:List UInt8} {i:Nat} (hi:i<s.length):litV s i=if (i+1+zBG false (s.drop (i+1)):Nat)<s.length then ((i+1+zBG false (s.drop (i+1))+1:Nat):Int) else -1:=by
 unfold litV
 rw [zG2,List.length_drop]
 by_cases h:zBG false (s.drop (i+1))<s.length-(i+1)
 . rw [if_pos h,if_pos (by omega)];rfl
 . rw [if_neg h,if_neg (by omega)]
theorem zGB (s:List UInt8) (i:Nat) (hi:i<s.length) (hs:s.length<=1000000):AC EN5 Tryz.prog 114 [.c (.string (bs s)),.c (.int .i64 (i:Int))] (.c (.int .i64 (litV s i))):=by
 have hsp:=spanl_acb s (i+1) (by omega) hs false
 have hle:=zJu false (s.drop (i+1))
 rw [List.length_drop] at hle
 rw [lit_V hi]
 refine zP 18 Tryz.func114 rfl rfl rfl rfl ?_
 intro s0 w he
 have hz:=zk s
 repeat' (first
|apply s_boxw (m:=5) rfl
 . conv=>lhs;whnf
 . conv=>lhs;whnf
 . rfl
 . conv=>lhs;whnf;arg 1;whnf
 . exact fun _=>rfl
 . first | exact hsp
 . exact fun _=>rfl
 . exact fun _=>rfl
 . exact fun _=>rfl
|refine zA ?_
|refine zB ?_
|refine zF ?_
|apply aw_1
 conv=>whnf
 refine ⟨?_,trivial⟩
|apply s_1
 conv=>whnf;arg 1;arg 4;arg 3;whnf
 refine ⟨?_,?_⟩
|apply zI rfl rfl rfl
 . conv=>lhs;whnf
 . conv=>lhs;whnf;arg 1;whnf
 . conv=>lhs;whnf;arg 1;whnf
 . exact ⟨by kernel_rfl,by kernel_rfl⟩
 . rfl
|refine ze (by conv=>lhs;whnf) ?_ ?_<;>intro hb
|refine zQ ?_
|refine zE ?_
|refine ⟨_,by conv=>lhs;whnf;arg 2;whnf,?_⟩;conv=>rhs;whnf
|exact trivial)
 . rw [if_neg (by simp at hb;omega)]
 . rw [if_pos (by simp at hb;omega)];rfl
 . exact zU (by omega)
 . show Tryz.prog.underlying _=_
   kernel_rfl
 . exact zU (by omega)
end
end Go.Proofs.YthppafnlnnpciaaGreatDoor
