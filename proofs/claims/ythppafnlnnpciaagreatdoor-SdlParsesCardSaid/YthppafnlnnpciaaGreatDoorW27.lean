import Derived.Test.YthppafnlnnpciaaGreatDoorCards
import Derived.Test.YthppafnlnnpciaaGreatDoorTie
import Derived.ProofKit
import Derived.OpenShut
import Derived.Deep.DeepHandedRow
import Derived.Test.YthppafnlnnpciaaGreatDoorW26
set_option maxHeartbeats 8000000
set_option maxRecDepth 100000
set_option linter.unusedVariables false
set_option linter.unusedSimpArgs false
namespace Go.Proofs.YthppafnlnnpciaaGreatDoor
section
open Go.ChangeShapes Go.WideShapes Go.ChangeAt Go.RowKit
attribute [local irreducible] wpList Calls Code.wp
theorem own:ownKnob Tryz.prog.godebug=none:=by kernel_rfl
theorem laidOut':laidOutB Tryz.prog=true:=by kernel_rfl
theorem gPow : Tryz.prog.globalNamed "internal/strconv.uint64pow10" = some 3 := by kernel_rfl
theorem gErrR : Tryz.prog.globalNamed "strconv.ErrRange" = some 2 := by kernel_rfl
theorem gErrS : Tryz.prog.globalNamed "strconv.ErrSyntax" = some 1 := by kernel_rfl
theorem gErrRT:(Tryz.prog.globals[2]?).map (·.type)=some 138:=by kernel_rfl
theorem gErrST:(Tryz.prog.globals[1]?).map (·.type)=some 138:=by kernel_rfl
theorem tab_of_row {P:Program} {W:World} {g:Nat} {n:String} {t e:TypeId} {m:Nat} {k:IntKind} {zs:List Int} (hg:P.globalNamed n=some g) (hty:(P.globals[g]?).map (·.type)=some t) (ht:P.underlying t=some (.array m e)) (he:P.underlying e=some (.int k)) (hce:P.cellsOf e=1) (hct:P.cellsOf t=m)
 (h : ∃ g t cs fuel p,P.globalNamed n=some g/\(P.globals[g]?).map (·.type)=some t/\W.var? P n=some cs/\DataW.trod (fun _=>()) P W 0 (fun _=>true) false fuel t cs.toList=some (Lib.tabData k zs,p)):Lib.TabIs P W n k zs:=by
 obtain ⟨g',t',cs,fuel,p,hg',ht',hvar,hd⟩:=h
 obtain rfl:=Option.some.inj (hg.symm.trans hg')
 obtain rfl:=Option.some.inj (hty.symm.trans ht')
 unfold Lib.TabIs
 rw [hvar,<- Lib.cells_of_tab ht he hce hct hd]
theorem zGK {P:Program} {W:World} {g:Nat} {n nm:String} {t:TypeId} {ms:Array (String × TypeId)} {d:DataW Unit} (hg:P.globalNamed n=some g) (hty:(P.globals[g]?).map (·.type)=some t) (ht:P.underlying t=some (.interface ms))
 (h : ∃ g t cs fuel p,P.globalNamed n=some g/\(P.globals[g]?).map (·.type)=some t/\W.var? P n=some cs/\DataW.trod (fun _=>()) P W 0 (fun _=>true) false fuel t cs.toList=some (.iface nm d,p)) : ∃ tp p,W.var? P n=some #[.iface tp p]:=by
 obtain ⟨g',t',cs,fuel,p,hg',ht',hvar,hd⟩:=h
 obtain rfl:=Option.some.inj (hg.symm.trans hg')
 obtain rfl:=Option.some.inj (hty.symm.trans ht')
 obtain ⟨_,u,v,hc,_⟩:=iface_of_trod ht hd
 refine ⟨u,v,?_⟩
 rw [hvar]
 cases cs;simp_all
theorem gPowT:(Tryz.prog.globals[3]?).map (·.type)=some 227:=by kernel_rfl
theorem zIu {H:Type} {P:Program} {t:TypeId} {ts:List TypeId} {ds:List (DataW H)} {l:List UInt8}:l.length∈DataW.weightsEach P (t::ts) (.lit (.string l)::ds):=by
 simp [DataW.weightsEach,DataW.weights]
theorem reach_size {H:Type} {P:Program} {ts:List TypeId} {ds:List (DataW H)} {s:ByteArray} (h:(DataW.weightsEach P ts ds).all (· <= reachBytes)=true) (hm:s.data.toList.length∈DataW.weightsEach P ts ds):s.size<=140737488351232:=by
 have h1:s.data.toList.length<=reachBytes:=of_decide_eq_true (List.all_eq_true.1 h _ hm)
 have h2:s.data.toList.length=s.size:=by simp
 unfold reachBytes at h1
 omega
def laidL : List (String × DataW Unit) := [("math/bits.deBruijn32tab", Rows.laid_math_bits_deBruijn32tab), ("math/bits.deBruijn64tab", Rows.laid_math_bits_deBruijn64tab), ("internal/strconv.uint64pow10", Rows.laid_internal_strconv_uint64pow10), ("strconv.ErrRange", Rows.laid_strconv_ErrRange), ("strconv.ErrSyntax", Rows.laid_strconv_ErrSyntax)]
theorem zJT {W:World} (h:laidMetH Tryz.prog laidL W):Env W:=by
 have h':laidMet Tryz.prog laidL W:=h
 obtain ⟨ps,⟨_,_,_,_,_,_,_,_,_,_,⟨_,_,_,_,_,_,_,_,_,_,⟨g3,t3,c3,f3,p3,q3,a3,b3,e3,d3,⟨g4,t4,c4,f4,p4,q4,a4,b4,e4,d4,⟨g5,t5,c5,f5,p5,q5,a5,b5,e5,d5,_⟩,_⟩,_⟩,_⟩,_⟩,_⟩:=h'
 exact ⟨tab_of_row gPow gPowT Tryz.underlying227 Tryz.underlying210 (by kernel_rfl) (by kernel_rfl) ⟨g3,t3,c3,f3,p3,a3,b3,e3,d3⟩,
  zGK gErrR gErrRT Tryz.underlying138 ⟨g4,t4,c4,f4,p4,a4,b4,e4,d4⟩,
  zGK gErrS gErrST Tryz.underlying138 ⟨g5,t5,c5,f5,p5,a5,b5,e5,d5⟩⟩
theorem types_ok (ts:List TypeId) (h:(ts.all fun t=>Tryz.prog.readableRec t&&decide (t<Tryz.prog.types.size))=true) : ∀ t∈ts,Tryz.prog.readableRec t=true/\t<Tryz.prog.types.size:=by
 intro t ht
 have:=List.all_eq_true.1 h t ht
 simpa using this
def tab32:List Int:=[0,1,28,2,29,14,24,3,30,22,20,15,25,17,4,8,31,27,13,23,21,19,16,7,26,12,18,6,11,5,10,9]
def tab64:List Int:=[0,1,56,2,57,49,28,3,61,58,42,50,38,29,17,4,62,47,59,36,45,43,51,22,53,39,33,30,24,18,12,5,63,55,48,27,60,41,37,16,46,35,44,21,52,32,23,11,54,26,40,15,34,20,31,10,25,14,19,9,13,8,7,6]
def relay (cs:Array Value):Obj->Obj
 |.cells _ t frozen => .cells cs t frozen
 |o=>o
noncomputable def laidWorld (os:Os):World:=
 let w:=World.holding Tryz.prog os ⟨#[],#[],[]⟩
 let n:=w.heap.size
 { w with heap:=((((((w.heap.modify 4 (relay (tab32.map fun z=>Value.int .u8 z).toArray)).modify 5 (relay (tab64.map fun z=>Value.int .u8 z).toArray)).modify 3 (relay (Lib.pow10Tab.map fun z=>Value.int .u64 z).toArray)).modify 2
     (relay #[.iface 231 (.pointer (some ⟨n,0,none⟩))])).modify 1 (relay #[.iface 231 (.pointer (some ⟨n+1,0,none⟩))])).push
     (.cells #[.string ⟨#[118,97,108,117,101,32,111,117,116,32,111,102,32,114,97,110,103,101]⟩] 233)).push (.cells #[.string ⟨#[105,110,118,97,108,105,100,32,115,121,110,116,97,120]⟩] 233) }
end
section
open Go.RowKit
attribute [local irreducible] wpList Calls Code.wp
theorem zJV (n:Nat) (a b:List UInt8):decV n (a++b)=decV (decV n a) b:=by simp [decV]
theorem decV_take (l:List UInt8) (m:Nat):decV 0 (l.take m)<=decV 0 l:=by
 conv=>rhs;rw [<- List.take_append_drop m l]
 rw [zJV];exact zHM _ _
theorem tk_bs (l:List UInt8) (m:Nat):tk (bs l) m=l.take m:=by unfold tk;rw [zAH]
structure Rn (l:List UInt8) (d:ByteArray) (ng:Bool):Prop where
 empty:d.size=0->numU l=Lib.NumEnd.syntax
 zero:0<d.size->bV d 0=48->(1<d.size\/ng=true)->numU l=Lib.NumEnd.syntax
 bad : ∀ x,x<d.size->digB (bV d x)=false->numU l=Lib.NumEnd.syntax
 good:0<d.size -> ¬ (bV d 0=48/\(1<d.size\/ng=true))->(∀ k,k<d.size->digB (bV d k)=true) ->
  numU l=if ng=true then (if decV 0 (tk d d.size)<=9223372036854775808 then .ok (-(decV 0 (tk d d.size):Int)) else .range) else if decV 0 (tk d d.size)<9223372036854775808 then .ok (decV 0 (tk d d.size)) else .range
 mono : ∀ m,decV 0 (tk d m)<=decV 0 (tk d d.size)
theorem rn_of (l:List UInt8) (ng:Bool) (hng:ng=decide (l.head? = some 45)):Rn l (bs (magU l)) ng:=by
 have hs:(bs (magU l)).size=(magU l).length:=zk _
 have hlen:0<(magU l).length->(1<l.length ↔ (1<(magU l).length\/ng=true)):=by
  intro h0
  unfold magU at h0 |-
  by_cases h:l.head? = some 45
  . rw [if_pos h] at h0 |-
    rw [hng,decide_eq_true h]
    simp at h0 |-;omega
  . rw [if_neg h] at h0 |-
    rw [hng,decide_eq_false h]
    simp
 have htk:tk (bs (magU l)) (bs (magU l)).size=magU l:=by rw [tk_bs,hs];exact List.take_length
 refine ⟨fun h=>zDt (List.eq_nil_of_length_eq_zero (by rw [<- hs];exact h)),fun h0 h1 h2 => ?_,fun x hx h=>zKJ (not_dig (k:=x) (by rw [<- hs];exact hx) h),fun h0 h1 h2 => ?_,fun m => ?_⟩
 . rw [hs] at h0 h2
   exact zH7 ((zJO h0).2 h1) ((hlen h0).2 h2)
 . rw [htk]
   rw [hs] at h0 h1 h2
   have hne:magU l≠[]:=fun e=>by rw [e] at h0;exact absurd h0 (by simp)
   have ha:(magU l).all digU=true:=all_dig h2
   rw [zKI hne (fun e=>h1 ⟨(zJO h0).1 e.1,(hlen h0).1 e.2⟩) ha,zHU l hne ha,hng]
   by_cases h:l.head? = some 45
   . rw [if_pos h,decide_eq_true h,if_pos rfl]
   . rw [if_neg h,decide_eq_false h];rfl
 . rw [htk,tk_bs];exact decV_take _ _
theorem drop_one (s:ByteArray):s.extract 1 s.size=bs (s.data.toList.drop 1):=by
 apply ByteArray.ext
 apply Array.toList_inj.1
 simp [bs,List.extract]
 exact List.take_of_length_le (by simp)
theorem bs_self (s:ByteArray):bs s.data.toList=s:=by cases s;simp [bs]
theorem bV_head {s:ByteArray} (h:0<s.size):s.data.toList.head? = some 45 ↔ bV s 0=45:=by
 have h1:0<s.data.toList.length:=by simpa using h
 unfold bV
 cases hl:s.data.toList with
 |nil=>rw [hl] at h1;simp at h1
 |cons c r =>
  simp only [List.head?_cons,List.getD_cons_zero,Option.some.injEq]
  constructor
  . intro e;rw [e];rfl
  . intro e
    apply UInt8.toNat_inj.1
    have:UInt8.toNat 45=45:=rfl
    omega
theorem numberR (s:ByteArray) (w:World) (hs:s.size<=281474976710656):Calls Tryz.prog 82 #[.string s] w (Nm (numU s.data.toList) w):=by
 by_cases hs0:s.size=0
 . have hl:s.data.toList=[]:=List.eq_nil_of_length_eq_zero (by simpa using hs0)
   have Hn:=Lib.hid (zDt (l:=s.data.toList) (by rw [hl];rfl))
   have q0:decide ((s.size:Int)>0)=false:=decide_eq_false (by omega)
   have q1:((s.size:Int)==0)=true:=by rw [hs0];rfl
   clear hl
   go_enter Tryz.func82,Tryz.ntmps82
   go_wp2
   go_ret2
   exact ⟨by rw [Hn.out];rfl,Below.refl _ _⟩
 have hsp:0<s.size:=by omega
 have q0:decide ((s.size:Int)>0)=true:=decide_eq_true (by omega)
 have qi:(0:Int)<(s.size:Int):=by omega
 have hb0:=zCq hsp
 have hr0:=zA2 s 0
 obtain ⟨l,hl⟩ : ∃ l,l=s.data.toList:=⟨_,rfl⟩
 have HX : ∃ (d:ByteArray) (ng:Bool),Rn l d ng/\d.size<=s.size/\((ng=true/\bV s 0=45/\s.extract 1 s.size=d)\/(ng=false/\bV s 0≠45/\d=s)):=by
  by_cases h:bV s 0=45
  . have hh:l.head? = some 45:=by rw [hl];exact (bV_head hsp).2 h
    have hm:magU l=l.drop 1:=by unfold magU;rw [if_pos hh];simp
    refine ⟨bs (magU l),true,rn_of l true (by rw [decide_eq_true hh]),?_,.inl ⟨rfl,h,?_⟩⟩
    . rw [zk,hm,hl];simp
    . rw [hm,hl];exact drop_one s
  . have hh : ¬ l.head? = some 45:=by rw [hl];exact fun e=>h ((bV_head hsp).1 e)
    have hm:magU l=l:=zJI hh
    have hr:=rn_of l false (by rw [decide_eq_false hh])
    rw [hm,hl,bs_self] at hr
    exact ⟨s,false,by rw [hl];exact hr,Nat.le_refl _,.inr ⟨rfl,h,rfl⟩⟩
 rw [<- hl]
 clear hl
 obtain ⟨d,ng,hR,hds,hcase⟩:=HX
 have R:=Lib.hid hR
 clear hR
 by_cases hd0:d.size=0
 . have Hn:=Lib.hid (R.out.empty hd0)
   rcases hcase with ⟨rfl,h45,hx⟩ | ⟨rfl,h45,rfl⟩
   . rw [h45] at hb0
     have q1:((d.size:Int)==0)=true:=by rw [hd0];rfl
     clear h45
     go_enter Tryz.func82,Tryz.ntmps82
     go_wp2
     go_ret2
     exact ⟨by rw [Hn.out];rfl,Below.refl _ _⟩
   . exact absurd hd0 hs0
 have hdp:0<d.size:=by omega
 have p0:((d.size:Int)==0)=false:=beq_false_of_ne (by omega)
 have pi:(0:Int)<(d.size:Int):=by omega
 have hc0:=zCq hdp
 have hcr:=zA2 d 0
 by_cases hz:bV d 0=48/\(1<d.size\/ng=true)
 . have Hn:=Lib.hid (R.out.zero hdp hz.1 hz.2)
   obtain ⟨hz1,hz2⟩:=hz
   rw [hz1] at hc0
   rcases hcase with ⟨rfl,h45,hx⟩ | ⟨rfl,h45,rfl⟩
   . rw [h45] at hb0
     clear h45 hz1 hz2
     rcases Nat.lt_or_ge 1 d.size with h1 | h1
     . have q1:decide ((d.size:Int)>1)=true:=decide_eq_true (by omega)
       go_enter Tryz.func82,Tryz.ntmps82
       go_wp2
       go_ret2
       exact ⟨by rw [Hn.out];rfl,Below.refl _ _⟩
     . have q1:decide ((d.size:Int)>1)=false:=decide_eq_false (by omega)
       go_enter Tryz.func82,Tryz.ntmps82
       go_wp2
       go_ret2
       exact ⟨by rw [Hn.out];rfl,Below.refl _ _⟩
   . have h1:1<d.size:=by rcases hz2 with h | h;exact h;cases h
     have q1:decide ((d.size:Int)>1)=true:=decide_eq_true (by omega)
     clear h45 hz1 hz2
     go_enter Tryz.func82,Tryz.ntmps82
     go_wp2
     go_ret2
     exact ⟨by rw [Hn.out];rfl,Below.refl _ _⟩
 have Hz:=Lib.hid hz
 have hcs:(bV d 0=48/\d.size<=1/\ng=false) \/ ¬ bV d 0=48:=by
  by_cases e:bV d 0=48
  . refine .inl ⟨e,?_,?_⟩
    . rcases Nat.lt_or_ge 1 d.size with h | h
      . exact absurd ⟨e,.inl h⟩ hz
      . exact h
    . cases ng with
      |false=>rfl
      |true=>exact absurd ⟨e,.inr rfl⟩ hz
  . exact .inr e
 clear hz
 have hall3:(ng=true/\bV s 0=45/\s.extract 1 s.size=d /\ ¬ bV d 0=48)\/(ng=false/\bV s 0≠45/\d=s/\bV d 0=48/\d.size<=1)\/(ng=false/\bV s 0≠45/\d=s /\ ¬ bV d 0=48):=by
  rcases hcase with ⟨h1,h2,h3⟩ | ⟨h1,h2,h3⟩
  . rcases hcs with ⟨_,_,h⟩ | h
    . rw [h] at h1;cases h1
    . exact .inl ⟨h1,h2,h3,h⟩
  . rcases hcs with ⟨h,h',_⟩ | h
    . exact .inr (.inl ⟨h1,h2,h3,h,h'⟩)
    . exact .inr (.inr ⟨h1,h2,h3,h⟩)
 clear hcase hcs
 have hdz:d.size<=281474976710656:=by omega
 obtain ⟨v0,hv0⟩ : ∃ v0,v0=bV d 0:=⟨_,rfl⟩
 rw [<- hv0] at hc0 hcr
 have Hv0:=Lib.hid hv0
 rcases hall3 with ⟨rfl,h45,hx,h48⟩ | ⟨rfl,h45,rfl,h48,h1⟩ | ⟨rfl,h45,rfl,h48⟩
 all_goals first
  |(rw [h45] at hb0
    rw [<- hv0] at h48
    have q1:(v0==48)=false:=beq_false_of_ne h48
    have Hfin:=Lib.hid (fun h=>(R.out.good hdp Hz.out h).trans (if_pos rfl))
    clear h45 hv0 h48 hr0)
  |(rw [<- hv0] at h48 h45 hb0 hr0
    subst h48
    have q1:decide ((d.size:Int)>1)=false:=decide_eq_false (by omega)
    have Hfin:=Lib.hid (fun h=>(R.out.good hdp Hz.out h).trans (if_neg (by simp)))
    clear h45 hv0 hr0 hb0)
  |(rw [<- hv0] at h48 h45 hb0 hr0
    have q1:(v0==48)=false:=beq_false_of_ne h48
    have q2:(v0==45)=false:=beq_false_of_ne h45
    have Hfin:=Lib.hid (fun h=>(R.out.good hdp Hz.out h).trans (if_neg (by simp)))
    clear h45 hv0 h48 hr0 hb0)
 all_goals
  clear Hz Hv0
  go_enter Tryz.func82,Tryz.ntmps82
  go_wp2
  go_loop [6] (fun i => ∃ m:Nat,m<=d.size/\i = .int .i64 m /\ ∀ k,k<m->digB (bV d k)=true) (fun i=>d.size-(intOf i).toNat)
  case atStart=>exact ⟨0,by omega,rfl,fun k hk=>by omega⟩
  case round =>
   obtain ⟨x,hx,rfl,hall⟩:=hrel
   have Hall:=Lib.hid hall
   clear hall
   by_cases hlt:x<d.size
   . have hb:=zCq hlt
     have hr:=zA2 d x
     have Hat:=Lib.hid (R.out.bad x hlt)
     have Hstep:=Lib.hid (show digB (bV d x)=true -> ∀ k,k<x+1->digB (bV d k)=true from fun h k hk=>by
      by_cases e:k=x
      . rw [e];exact h
      . exact Hall.out k (by omega))
     generalize bV d x=v at *
     by_cases h:digB v=true
     . have Hok:=Lib.hid (Hstep.out h)
       have Hdig:=Lib.hid (digit v w (by omega) (by omega))
       rw [h] at Hdig
       unfold Yn at Hdig
       clear h
       go_wp2_with fail
       refine Hdig.out.mono ?_
       rintro e w2 ⟨rfl,rfl⟩
       go_wp2
       go_round
       case rel=>exact ⟨x+1,by omega,by go_num,Hok.out⟩
       case measure=>simp [intOf];omega
     . have h:digB v=false:=by simpa using h
       have Hno:=Lib.hid (Hat.out h)
       have Hdig:=Lib.hid (digit v w (by omega) (by omega))
       rw [h] at Hdig
       unfold Yn at Hdig
       clear h
       go_wp2_with fail
       refine Hdig.out.mono ?_
       rintro e w2 ⟨rfl,rfl⟩
       go_wp2
       go_ret2
       exact ⟨by rw [Hno.out];rfl,Below.refl _ _⟩
   . obtain rfl:x=d.size:=by omega
     have Hfi:=Lib.hid (Hfin.out Hall.out)
     clear Hfin
     go_wp2
     go_loopg [7,8] d.size (fun j n i wr => ∃ m:Nat,m+j=d.size/\i = .int .i64 m/\n = .int .i64 (-(decV 0 (tk d m):Int))/\decV 0 (tk d m)<=9223372036854775808/\wr=w)
     case atStart=>exact ⟨0,by omega,rfl,by rw [tk_zero,decV_nil];rfl,by rw [tk_zero,decV_nil];omega,rfl⟩
     case round =>
      obtain ⟨x,hmj,rfl,rfl,hu,rfl⟩:=hrel
      have Hmj:=Lib.hid hmj;have hmn:x<=d.size:=by omega
      clear hmj
      by_cases hlt:x<d.size
      . have hbv:=zCq hlt
        have hdg:48<=bV d x/\bV d x<=57:=of_decide_eq_true (Hall.out x hlt)
        have Hnext:=Lib.hid (show decV 0 (tk d (x+1))=10*decV 0 (tk d x)+((bV d x).toNat-48) by rw [tk_succ hlt,zFQ,bV_bC,Int.toNat_natCast])
        have Hmono:=Lib.hid (R.out.mono (x+1))
        obtain ⟨e,hv⟩ : ∃ e:Nat,bV d x=48+(e:Int):=⟨(bV d x).toNat-48,by omega⟩
        have he:e<=9:=by omega
        rw [hv] at hbv
        have Hn2:=Lib.hid (show decV 0 (tk d (x+1))=10*decV 0 (tk d x)+e by rw [Hnext.out,hv];omega)
        clear hv hdg Hnext
        generalize decV 0 (tk d x)=u at *
        have htd:(-9223372036854775808+(48+(e:Int)-48)).tdiv 10 = -((9223372036854775808-(e:Int)) / 10):=by
         rw [show (-9223372036854775808+(48+(e:Int)-48)) = -(9223372036854775808-(e:Int)) by omega,Int.neg_tdiv,Int.tdiv_eq_ediv_of_nonneg (by omega)]
        have Htd:=Lib.hid htd
        clear htd
        by_cases hov:9223372036854775808<10*u+e
        . have Hno:=Lib.hid (show numU l = .range by
           rw [Hfi.out]
           have h1:=Hmono.out
           rw [Hn2.out] at h1
           exact if_neg (by omega))
          have hq : -(u:Int)<(-9223372036854775808+(48+(e:Int)-48)).tdiv 10:=by rw [Htd.out];omega
          go_wp2
          all_goals first
           |(exfalso;omega)
           |(go_ret2
             exact ⟨by rw [Hno.out];rfl,Below.refl _ _⟩)
        . have hq:(-9223372036854775808+(48+(e:Int)-48)).tdiv 10 <= -(u:Int):=by rw [Htd.out];omega
          go_wp2
          all_goals first
           |(exfalso;omega)
           |(go_roundg (gk-1)
             case measure=>have:=Hmj.out;omega
             case rel=>exact ⟨x+1,by have:=Hmj.out;omega,by go_num,by rw [Hn2.out];congr 1;omega,by rw [Hn2.out];omega,rfl⟩)
      . obtain rfl:x=d.size:=by omega
        first
         |(have Hn:=Lib.hid (Hfi.out.trans (if_pos hu))
           generalize decV 0 (tk d d.size)=u at *
           go_wp2
           go_ret2
           exact ⟨by rw [Hn.out];rfl,Below.refl _ _⟩)
         |(rcases Nat.lt_or_ge (decV 0 (tk d d.size)) 9223372036854775808 with hM | hM
           . have Hn:=Lib.hid (Hfi.out.trans (if_pos hM))
             generalize decV 0 (tk d d.size)=u at *
             have q:((-(u:Int)) == -9223372036854775808)=false:=beq_false_of_ne (by omega)
             go_wp2
             go_ret2
             exact ⟨by rw [Hn.out];simp [numT],Below.refl _ _⟩
           . have Hn:=Lib.hid (Hfi.out.trans (if_neg (by omega)))
             have hue:decV 0 (tk d d.size)=9223372036854775808:=by omega
             rw [hue]
             go_wp2
             go_ret2
             exact ⟨by rw [Hn.out];rfl,Below.refl _ _⟩)
def simV:Option UInt8->Value
 |some x => .tuple #[.int .u8 (x.toNat:Int),.bool true]
 |none => .tuple #[.int .u8 0,.bool false]
def Sm (r:Option UInt8) (w:World) (e:Ending) (w':World):Prop:=e = .returned (simV r)/\w=w'
theorem sim_cases (c:UInt8):c=34\/c=92\/c=47\/c=98\/c=102\/c=110\/c=114\/c=116\/(simU c=none/\(c.toNat:Int)≠34/\(c.toNat:Int)≠92/\(c.toNat:Int)≠47/\(c.toNat:Int)≠98/\(c.toNat:Int)≠102/\(c.toNat:Int)≠110/\(c.toNat:Int)≠114/\(c.toNat:Int)≠116):=by
 by_cases h1:c=34
 . exact .inl h1
 by_cases h2:c=92
 . exact .inr (.inl h2)
 by_cases h3:c=47
 . exact .inr (.inr (.inl h3))
 by_cases h4:c=98
 . exact .inr (.inr (.inr (.inl h4)))
 by_cases h5:c=102
 . exact .inr (.inr (.inr (.inr (.inl h5))))
 by_cases h6:c=110
 . exact .inr (.inr (.inr (.inr (.inr (.inl h6)))))
 by_cases h7:c=114
 . exact .inr (.inr (.inr (.inr (.inr (.inr (.inl h7))))))
 by_cases h8:c=116
 . exact .inr (.inr (.inr (.inr (.inr (.inr (.inr (.inl h8)))))))
 refine .inr (.inr (.inr (.inr (.inr (.inr (.inr (.inr ⟨?_,zDX (n:=34) (by omega) h1,zDX (n:=92) (by omega) h2,zDX (n:=47) (by omega) h3,zDX (n:=98) (by omega) h4,zDX (n:=102) (by omega) h5,zDX (n:=110) (by omega) h6,zDX (n:=114) (by omega) h7,zDX (n:=116) (by omega) h8⟩)))))))
 unfold simU
 rw [if_neg (by rintro (h | h | h)<;>contradiction),if_neg h4,if_neg h5,if_neg h6,if_neg h7,if_neg h8]
theorem simpleR (c:UInt8) (v:Int) (hv:v=(c.toNat:Int)) (w:World):Calls Tryz.prog 139 #[.int .u8 v] w (Sm (simU c) w):=by
 rcases sim_cases c with rfl | rfl | rfl | rfl | rfl | rfl | rfl | rfl | ⟨h,n1,n2,n3,n4,n5,n6,n7,n8⟩
 all_goals first
  |(subst hv
    go_enter Tryz.func139,Tryz.ntmps139
    go_wp2
    go_ret2
    exact ⟨rfl,rfl⟩)
  |(rw [<- hv] at n1 n2 n3 n4 n5 n6 n7 n8
    have H:=Lib.hid h
    have q1:=beq_false_of_ne n1
    have q2:=beq_false_of_ne n2
    have q3:=beq_false_of_ne n3
    have q4:=beq_false_of_ne n4
    have q5:=beq_false_of_ne n5
    have q6:=beq_false_of_ne n6
    have q7:=beq_false_of_ne n7
    have q8:=beq_false_of_ne n8
    clear h hv
    go_enter Tryz.func139,Tryz.ntmps139
    go_wp2
    go_ret2
    exact ⟨by rw [H.out];rfl,rfl⟩)
theorem plainP (c:UInt8) (v:Int) (hv:v=(c.toNat:Int)) (w:World):Calls Tryz.prog 170 #[.int .u8 v] w (Sm (simU c) w):=by
 rcases sim_cases c with rfl | rfl | rfl | rfl | rfl | rfl | rfl | rfl | ⟨h,n1,n2,n3,n4,n5,n6,n7,n8⟩
 all_goals first
  |(subst hv
    go_enter Tryz.func170,Tryz.ntmps170
    go_wp2
    go_ret2
    exact ⟨rfl,rfl⟩)
  |(rw [<- hv] at n1 n2 n3 n4 n5 n6 n7 n8
    have H:=Lib.hid h
    have q1:=beq_false_of_ne n1
    have q2:=beq_false_of_ne n2
    have q3:=beq_false_of_ne n3
    have q4:=beq_false_of_ne n4
    have q5:=beq_false_of_ne n5
    have q6:=beq_false_of_ne n6
    have q7:=beq_false_of_ne n7
    have q8:=beq_false_of_ne n8
    clear h hv
    go_enter Tryz.func170,Tryz.ntmps170
    go_wp2
    go_ret2
    exact ⟨by rw [H.out];rfl,rfl⟩)
def optI:Option Nat->Int
 |some n=>(n:Int)
 |none => -1
def Vl (r:Option Nat) (w:World) (e:Ending) (w':World):Prop:=e = .returned (.int .i64 (optI r))/\w=w'
theorem zGm {a b:Int} (h:a=b):Ending.returned (.int .i64 a) = .returned (.int .i64 b):=by rw [h]
theorem val_cases (c:UInt8) (v:Int) (hv:v=(c.toNat:Int)):(48<=v/\v<=57/\optI (valU c)=v-48)\/(97<=v/\v<=102/\optI (valU c)=v-87)\/(65<=v/\v<=70/\optI (valU c)=v-55)\/(¬ (48<=v/\v<=57) /\ ¬ (97<=v/\v<=102) /\ ¬ (65<=v/\v<=70)/\optI (valU c) = -1):=by
 unfold valU
 split
 . refine .inl ⟨by omega,by omega,?_⟩
   show ((c.toNat-48:Nat):Int)=_
   omega
 . split
   . refine .inr (.inl ⟨by omega,by omega,?_⟩)
     show ((c.toNat-87:Nat):Int)=_
     omega
   . split
     . refine .inr (.inr (.inl ⟨by omega,by omega,?_⟩))
       show ((c.toNat-55:Nat):Int)=_
       omega
     . exact .inr (.inr (.inr ⟨by omega,by omega,by omega,rfl⟩))
theorem valueR (c:UInt8) (v:Int) (hv:v=(c.toNat:Int)) (w:World):Calls Tryz.prog 187 #[.int .u8 v] w (Vl (valU c) w):=by
 have hlt:=c.toNat_lt
 have h0:0<=v:=by omega
 have h255:v<=255:=by omega
 have hcs:=val_cases c v hv
 clear hlt hv
 have Hd:=Lib.hid (digit v w h0 h255)
 unfold Yn at Hd
 unfold Vl
 generalize optI (valU c)=r at *
 rcases hcs with ⟨h1,h2,h3⟩ | ⟨h1,h2,h3⟩ | ⟨h1,h2,h3⟩ | ⟨h1,h2,h4,h3⟩
 . rw [zCo ⟨h1,h2⟩] at Hd
   go_enter Tryz.func187,Tryz.ntmps187
   go_wp2_with fail
   refine Hd.out.mono ?_
   rintro e w2 ⟨rfl,rfl⟩
   go_wp2
   go_ret
   exact ⟨zGm h3.symm,rfl⟩
 . rw [zAt (by omega)] at Hd
   go_enter Tryz.func187,Tryz.ntmps187
   go_wp2_with fail
   refine Hd.out.mono ?_
   rintro e w2 ⟨rfl,rfl⟩
   go_wp2
   go_ret
   exact ⟨zGm h3.symm,rfl⟩
 . rw [zAt (by omega)] at Hd
   have f97:decide (v>=97)=false:=decide_eq_false (by omega)
   go_enter Tryz.func187,Tryz.ntmps187
   go_wp2_with fail
   refine Hd.out.mono ?_
   rintro e w2 ⟨rfl,rfl⟩
   go_wp2
   go_ret
   exact ⟨zGm h3.symm,rfl⟩
 . rw [zAt h1] at Hd
   have hc2:v<65\/(70<v/\v<97)\/102<v:=by omega
   rcases hc2 with h | h | h
   all_goals first
    |(have f97:decide (v>=97)=false:=decide_eq_false (by omega)
      have f65:decide (v>=65)=false:=decide_eq_false (by omega))
    |(have f97:decide (v>=97)=false:=decide_eq_false (by omega)
      have f65:decide (v>=65)=true:=decide_eq_true (by omega)
      have f70:decide (v<=70)=false:=decide_eq_false (by omega))
    |(have f97:decide (v>=97)=true:=decide_eq_true (by omega)
      have f102:decide (v<=102)=false:=decide_eq_false (by omega)
      have f65:decide (v>=65)=true:=decide_eq_true (by omega)
      have f70:decide (v<=70)=false:=decide_eq_false (by omega))
   all_goals
    go_enter Tryz.func187,Tryz.ntmps187
    go_wp2_with fail
    refine Hd.out.mono ?_
    rintro e w2 ⟨rfl,rfl⟩
    go_wp2
    all_goals first
     |(exfalso;omega)
     |(go_ret
       exact ⟨zGm h3.symm,rfl⟩)
theorem zIh {c:UInt8} {d n:Nat} {r:List UInt8} (h:valU c=some d):codeFrom n (c::r)=codeFrom (16*n+d) r:=by show (valU c).bind _=_;rw [h];rfl
theorem zIi {c:UInt8} {n:Nat} {r:List UInt8} (h:valU c=none):codeFrom n (c::r)=none:=by show (valU c).bind _=_;rw [h];rfl
theorem val_lt {c:UInt8} {d:Nat} (h:valU c=some d):d<16:=by
 unfold valU at h
 split at h
 . injection h;omega
 . split at h
   . injection h;omega
   . split at h
     . injection h;omega
     . cases h
theorem zD0 {s:ByteArray} {x:Nat} (h:x<s.size):s.data.toList.drop x=bC s x::s.data.toList.drop (x+1):=by
 have h':x<s.data.toList.length:=by simpa using h
 rw [List.drop_eq_getElem_cons h']
 unfold bC
 simp [List.getElem?_eq_getElem h']
theorem codeR (s:ByteArray) (w:World) (hs:s.size=4):Calls Tryz.prog 140 #[.string s] w (Vl (codeFrom 0 s.data.toList) w):=by
 have hsi:(s.size:Int)=4:=by omega
 have q0:((s.size:Int)==4)=true:=by rw [hsi];rfl
 have Hs:=Lib.hid hs
 go_enter Tryz.func140,Tryz.ntmps140
 go_wp2
 go_loopg [3,4] 4 (fun j n i wr => ∃ m u:Nat,m+j=4/\i = .int .i64 m/\n = .int .i64 u/\u<16^m/\codeFrom 0 s.data.toList=codeFrom u (s.data.toList.drop m)/\wr=w)
 case atStart=>exact ⟨0,0,by omega,rfl,rfl,by simp,rfl,rfl⟩
 case round =>
  obtain ⟨x,u,hmj,rfl,rfl,hu,hc,rfl⟩:=hrel
  have Hmj:=Lib.hid hmj;have hmn:x<=4:=by omega
  clear hmj
  have Hc:=Lib.hid hc
  clear hc
  by_cases hlt:x<4
  . have hx:x<s.size:=by have:=Hs.out;omega
    have hxi:(x:Int)<(s.size:Int):=by omega
    have hu2:u<65536:=Nat.lt_of_lt_of_le hu (Nat.pow_le_pow_right (by omega) (by omega:x<=4))
    have Hu:=Lib.hid hu
    clear hu
    have hb:=zCq hx
    rw [bV_bC] at hb
    have Hdr:=Lib.hid (zD0 hx)
    have HV:=Lib.hid (valueR (bC s x) ((bC s x).toNat:Int) rfl wr)
    unfold Vl at HV
    generalize bC s x=c at *
    cases hval:valU c with
    |some d =>
     have hd:=val_lt hval
     rw [hval] at HV
     have Hok:=Lib.hid (show codeFrom 0 s.data.toList=codeFrom (16*u+d) (s.data.toList.drop (x+1)) by rw [Hc.out,Hdr.out,zIh hval])
     clear hval
     unfold optI at HV
     go_wp2_with fail
     refine HV.out.mono ?_
     rintro e w2 ⟨rfl,rfl⟩
     go_wp2_with fail
     refine HV.out.mono ?_
     rintro e w2 ⟨rfl,rfl⟩
     go_wp2
     go_roundg (gk-1)
     case measure=>have:=Hmj.out;omega
     case rel=>exact ⟨x+1,16*u+d,by have:=Hmj.out;omega,by go_num,by go_num,by have:=Hu.out;rw [Nat.pow_succ];omega,Hok.out,rfl⟩
    |none =>
     rw [hval] at HV
     have Hno:=Lib.hid (show codeFrom 0 s.data.toList=none by rw [Hc.out,Hdr.out,zIi hval])
     clear hval
     unfold optI at HV
     go_wp2_with fail
     refine HV.out.mono ?_
     rintro e w2 ⟨rfl,rfl⟩
     go_wp2
     go_ret
     exact ⟨by rw [Hno.out];rfl,rfl⟩
  . obtain rfl:x=4:=by omega
    have Hfin:=Lib.hid (show codeFrom 0 s.data.toList=some u by
     rw [Hc.out,List.drop_of_length_le (by have:=Hs.out;simp;omega)];rfl)
    clear hu
    go_wp2
    go_ret
    exact ⟨by rw [Hfin.out];rfl,rfl⟩
theorem zCv {L acc:List UInt8} {m m':Nat} {y:UInt8} (h:unqU L=(unqU (L.drop m)).map (acc ++ ·)) (h2:unqU (L.drop m)=(unqU (L.drop m')).map (y :: ·)):unqU L=(unqU (L.drop m')).map ((acc++[y]) ++ ·):=by
 rw [h,h2,Option.map_map]
 congr 1
 funext r
 simp
theorem zAn {L acc:List UInt8} {m:Nat} (h:unqU L=(unqU (L.drop m)).map (acc ++ ·)) (h2:unqU (L.drop m)=none):unqU L=none:=by rw [h,h2];rfl
theorem unq_end {L acc:List UInt8} {m:Nat} (h:unqU L=(unqU (L.drop m)).map (acc ++ ·)) (hm:L.length<=m):unqU L=some acc:=by rw [h,List.drop_of_length_le hm,unqU_nil];simp
def uqV:Option (List UInt8)->Value
 |some x => .tuple #[.string (bs x),.int .i64 0]
 |none => .tuple #[.string ⟨#[]⟩,.int .i64 3]
def Uq (r:Option (List UInt8)) (w:World) (e:Ending) (w':World):Prop:=e = .returned (uqV r)/\Below w.heap.size w w'
theorem mid_bs (s:ByteArray):s.extract 1 (s.size-1)=bs ((s.data.toList.drop 1).take (s.data.toList.length-2)):=by
 apply ByteArray.ext
 apply Array.toList_inj.1
 simp [bs,List.extract]
 omega
theorem zK6 (d:ByteArray) (x:Nat):(d.extract (x+2) (x+6)).data.toList=(d.data.toList.drop (x+2)).take 4:=by
 simp [List.extract]
theorem zLF {s:ByteArray} {k:Nat} (h:k<s.size):s.data.toList.getD k 0=34 ↔ bV s k=34:=by
 unfold bV
 constructor
 . intro e;rw [e];rfl
 . intro e
   apply UInt8.toNat_inj.1
   have:UInt8.toNat 34=34:=rfl
   omega
theorem unq_of {s:ByteArray} (h0:2<=s.size) (h1:bV s 0=34) (h2:bV s (s.size-1)=34):unquoteU s.data.toList=unqU (s.extract 1 (s.size-1)).data.toList:=by
 have hl:s.data.toList.length=s.size:=by simp
 rw [mid_bs,zAH]
 unfold unquoteU
 rw [if_pos ⟨by rw [hl];exact h0,(zLF (by omega)).2 h1,by rw [hl];exact (zLF (by omega)).2 h2⟩]
theorem zDn {s:ByteArray} (h : ¬ (2<=s.size/\bV s 0=34/\bV s (s.size-1)=34)):unquoteU s.data.toList=none:=by
 have hl:s.data.toList.length=s.size:=by simp
 unfold unquoteU
 rw [if_neg]
 rintro ⟨h0,h1,h2⟩
 rw [hl] at h0 h2
 exact h ⟨h0,(zLF (by omega)).1 h1,(zLF (by omega)).1 h2⟩
theorem unquoteR (s:ByteArray) (w:World) (hs:s.size<=100000):Calls Tryz.prog 84 #[.string s] w (Uq (unquoteU s.data.toList) w):=by
 by_cases hlen:s.size<2
 . have Hno:=Lib.hid (zDn (s:=s) (fun h=>by omega))
   have q0:decide ((s.size:Int)<2)=true:=decide_eq_true (by omega)
   go_enter Tryz.func84,Tryz.ntmps84
   go_wp2
   go_ret2
   exact ⟨by rw [Hno.out];rfl,Below.refl _ _⟩
 have q0:decide ((s.size:Int)<2)=false:=decide_eq_false (by omega)
 have i0:(0:Int)<(s.size:Int):=by omega
 have hb0:=zCq (show 0<s.size by omega)
 have hr0:=zA2 s 0
 by_cases h0:bV s 0=34
 case neg =>
  have Hno:=Lib.hid (zDn (s:=s) (fun h=>h0 h.2.1))
  have q1:(bV s 0==34)=false:=beq_false_of_ne h0
  generalize bV s 0=v0 at *
  go_enter Tryz.func84,Tryz.ntmps84
  go_wp2
  go_ret2
  exact ⟨by rw [Hno.out];rfl,Below.refl _ _⟩
 have hbz:=zCq (show s.size-1<s.size by omega)
 have hrz:=zA2 s (s.size-1)
 by_cases hz:bV s (s.size-1)=34
 case neg =>
  have Hno:=Lib.hid (zDn (s:=s) (fun h=>hz h.2.2))
  have q1:(bV s (s.size-1)==34)=false:=beq_false_of_ne hz
  rw [h0] at hb0
  generalize bV s (s.size-1)=v1 at *
  go_enter Tryz.func84,Tryz.ntmps84
  go_wp2
  go_ret2
  exact ⟨by rw [Hno.out];rfl,Below.refl _ _⟩
 have Hu:=Lib.hid (unq_of (by omega) h0 hz)
 rw [h0] at hb0
 rw [hz] at hbz
 clear h0 hz hr0 hrz
 have hdz:(s.extract 1 (s.size-1)).size<=100000:=by rw [mid_bs,zk];simp;omega
 obtain ⟨d,hd⟩ : ∃ d,s.extract 1 (s.size-1)=d:=⟨_,rfl⟩
 rw [hd] at Hu hdz
 go_enter Tryz.func84,Tryz.ntmps84
 go_wp2
 clear hb0 hbz i0 q0
 go_loopg [5,6] d.size (fun j o i wr => ∃ (m:Nat) (acc:List UInt8),m+j=d.size/\i = .int .i64 m/\o = .string (bs acc)/\acc.length<=m/\unqU d.data.toList=(unqU (d.data.toList.drop m)).map (acc ++ ·)/\Below w.heap.size w wr)
 case atStart=>exact ⟨0,[],by omega,rfl,rfl,by simp,by simp,Below.refl _ _⟩
 case round =>
  obtain ⟨x,acc,hmj,rfl,rfl,hac,hun,hb⟩:=hrel
  have Hmj:=Lib.hid hmj;have hmn:x<=d.size:=by omega
  have Hun:=Lib.hid hun
  have Hb:=Lib.hid hb
  clear hmj hun hb
  have hasz:(bs acc).size<=100000:=by rw [zk];omega
  have Hac:=Lib.hid hac
  clear hac
  by_cases hlt:x<d.size
  . have hxi:(x:Int)<(d.size:Int):=by omega
    have hb:=zCq hlt
    rw [bV_bC] at hb
    have HL:=Lib.hid (zD0 hlt)
    have hc256:=(bC d x).toNat_lt
    generalize bC d x=c at *
    obtain ⟨v,hv⟩ : ∃ v:Int,(c.toNat:Int)=v:=⟨_,rfl⟩
    rw [hv] at hb
    by_cases hbad:c.toNat<32\/126<c.toNat\/c=34
    . have Hno:=Lib.hid (Hu.out.trans (zAn Hun.out (by rw [HL.out];exact zJp hbad)))
      have hbv:v<32\/126<v\/v=34:=by
       rcases hbad with h | h | h
       . exact .inl (by omega)
       . exact .inr (.inl (by omega))
       . exact .inr (.inr (by rw [<- hv,h];rfl))
      clear hbad hv
      generalize bs acc=a at *
      rcases hbv with h | h | h
      . go_wp2
        go_ret2
        exact ⟨by rw [Hno.out];rfl,Hb.out⟩
      . go_wp2
        all_goals first
         |(exfalso;omega)
         |(go_ret2
           exact ⟨by rw [Hno.out];rfl,Hb.out⟩)
      . subst h
        go_wp2
        go_ret2
        exact ⟨by rw [Hno.out];rfl,Hb.out⟩
    have hc34:v≠34:=by
     rw [<- hv]
     exact zDX (n:=34) (by omega) (fun e=>hbad (.inr (.inr e)))
    have f1:decide (v<32)=false:=decide_eq_false (by omega)
    have f1' : ¬ v<32:=by omega
    have f2:decide (v>126)=false:=decide_eq_false (by omega)
    have f3:(v==34)=false:=beq_false_of_ne hc34
    by_cases h92:c=92
    case neg =>
     have q92:(v==92)=false:=beq_false_of_ne (by rw [<- hv];exact zDX (n:=92) (by omega) h92)
     have Hst:=Lib.hid (zCv (m':=x+1) Hun.out (by rw [HL.out];exact zFq hbad h92))
     have hcv:=zHN wr #[.int .u8 v] [c] 1 rfl (by rw [<- hv];rfl)
     have Hnx:=Lib.hid (show bs acc++bs [c]=bs (acc++[c]) from zFV _ _)
     have hk1:(bs [c]).size<=1:=by rw [zk];simp
     have Hv:=Lib.hid hv
     clear hbad hv h92
     generalize bs acc=a at *
     generalize bs [c]=k at *
     go_wp2
     go_roundg (gk-1)
     case measure=>have:=Hmj.out;omega
     case rel=>exact ⟨x+1,acc++[c],by have:=Hmj.out;omega,by go_num,by rw [Hnx.out],by have:=Hac.out;simp;omega,Hst.out,Hb.out.alloc Hb.out.size _⟩
    subst h92
    obtain rfl:v=92:=by rw [<- hv];rfl
    clear hbad hv hc34 f1 f1' f2 f3 hc256
    by_cases hlt1:x+1<d.size
    case neg =>
     have Hno:=Lib.hid (Hu.out.trans (zAn Hun.out (by rw [HL.out,List.drop_of_length_le (by simp;omega)];exact zHe)))
     have q1:decide ((x:Int)+1>=(d.size:Int))=true:=decide_eq_true (by omega)
     generalize bs acc=a at *
     go_wp2
     go_ret2
     exact ⟨by rw [Hno.out];rfl,Hb.out⟩
    have q1:decide ((x:Int)+1>=(d.size:Int))=false:=decide_eq_false (by omega)
    have hxi1:(x:Int)+1<(d.size:Int):=by omega
    have hb1:=zCq hlt1
    rw [bV_bC] at hb1
    have HL1:=Lib.hid (HL.out.trans (by rw [zD0 hlt1]))
    clear HL
    have HS:=Lib.hid (simpleR (bC d (x+1)) _ rfl wr)
    unfold Sm at HS
    generalize bC d (x+1)=e at *
    cases hsim:simU e with
    |some y =>
     rw [hsim] at HS
     unfold simV at HS
     have Hst:=Lib.hid (zCv (m':=x+2) Hun.out (by rw [HL1.out];exact zJo hsim))
     have hcv:=zHN wr #[.int .u8 (y.toNat:Int)] [y] 1 rfl rfl
     have Hnx:=Lib.hid (show bs acc++bs [y]=bs (acc++[y]) from zFV _ _)
     have hk1:(bs [y]).size<=1:=by rw [zk];simp
     clear hsim
     generalize bs acc=a at *
     generalize bs [y]=k at *
     generalize (e.toNat:Int)=ev at *
     go_wp2_with fail
     refine HS.out.mono ?_
     rintro e2 w2 ⟨rfl,rfl⟩
     go_wp2
     go_roundg (gk-2)
     case measure=>have:=Hmj.out;omega
     case rel=>exact ⟨x+2,acc++[y],by have:=Hmj.out;omega,by go_num,by rw [Hnx.out],by have:=Hac.out;simp;omega,Hst.out,Hb.out.alloc Hb.out.size _⟩
    |none =>
     rw [hsim] at HS
     unfold simV at HS
     have hrl:(d.data.toList.drop (x+1+1)).length=d.size-(x+2):=by simp
     by_cases h117:e=117
     case neg =>
      have q117:((e.toNat:Int)==117)=false:=beq_false_of_ne (zDX (n:=117) (by omega) h117)
      have Hno:=Lib.hid (Hu.out.trans (zAn Hun.out (by rw [HL1.out];exact zGX hsim (.inl h117))))
      clear hsim h117
      generalize bs acc=a at *
      have n117 : ¬ (e.toNat:Int)=117:=by simpa using q117
      generalize (e.toNat:Int)=ev at *
      go_wp2_with fail
      refine HS.out.mono ?_
      rintro e2 w2 ⟨rfl,rfl⟩
      go_wp2
      all_goals first
       |(exfalso;omega)
       |(go_ret2
         exact ⟨by rw [Hno.out];rfl,Hb.out⟩)
     have he:(e.toNat:Int)=117:=by rw [h117];rfl
     rw [he] at hb1 HS
     by_cases hfit:x+6<=d.size
     case neg =>
      have q6:decide ((x:Int)+6>(d.size:Int))=true:=decide_eq_true (by omega)
      have Hno:=Lib.hid (Hu.out.trans (zAn Hun.out (by rw [HL1.out];exact zGX hsim (.inr (by rw [hrl];omega)))))
      clear hsim h117 he
      generalize bs acc=a at *
      go_wp2_with fail
      refine HS.out.mono ?_
      rintro e2 w2 ⟨rfl,rfl⟩
      go_wp2
      go_ret2
      exact ⟨by rw [Hno.out];rfl,Hb.out⟩
     have q6:decide ((x:Int)+6>(d.size:Int))=false:=decide_eq_false (by omega)
     have HL2:d.data.toList.drop x=92::117::d.data.toList.drop (x+1+1):=by rw [HL1.out,h117]
     have Hcode:=Lib.hid ((congrArg unqU HL2).trans (zHf (by rw [hrl];omega)))
     clear HL2
     have hksz:(d.extract (x+2) (x+6)).size=4:=by rw [ByteArray.size_extract];omega
     have Hcl:=Lib.hid (zK6 d x)
     obtain ⟨k,hk⟩ : ∃ k,d.extract (x+2) (x+6)=k:=⟨_,rfl⟩
     rw [hk] at hksz Hcl
     have HC:=Lib.hid (codeR k wr hksz)
     rw [Hcl.out] at HC
     unfold Vl at HC
     have Hd4:=Lib.hid (show (d.data.toList.drop (x+1+1)).drop 4=d.data.toList.drop (x+6) by rw [List.drop_drop])
     clear hsim h117 he Hcl hksz
     cases hcf:codeFrom 0 ((d.data.toList.drop (x+2)).take 4) with
     |none =>
      rw [hcf] at HC
      unfold optI at HC
      have Hno:=Lib.hid (Hu.out.trans (zAn Hun.out (by rw [Hcode.out];rw [show (d.data.toList.drop (x+1+1)).take 4=(d.data.toList.drop (x+2)).take 4 from rfl,hcf])))
      clear hcf
      generalize bs acc=a at *
      go_wp2_with fail
      refine HS.out.mono ?_
      rintro e2 w2 ⟨rfl,rfl⟩
      go_wp2_with fail
      refine HC.out.mono ?_
      rintro e2 w2 ⟨rfl,rfl⟩
      go_wp2
      go_ret2
      exact ⟨by rw [Hno.out];rfl,Hb.out⟩
     |some n =>
      rw [hcf] at HC
      unfold optI at HC
      have Hcode2:=Lib.hid (Hcode.out.trans (by rw [show (d.data.toList.drop (x+1+1)).take 4=(d.data.toList.drop (x+2)).take 4 from rfl,hcf]))
      clear hcf Hcode
      have n0:decide ((n:Int)<0)=false:=decide_eq_false (by omega)
      have n0' : ¬ (n:Int)<0:=by omega
      by_cases hn:n<=255
      case neg =>
       have n255:decide ((n:Int)>255)=true:=decide_eq_true (by omega)
       have Hno:=Lib.hid (Hu.out.trans (zAn Hun.out (Hcode2.out.trans (if_neg hn))))
       generalize bs acc=a at *
       go_wp2_with fail
       refine HS.out.mono ?_
       rintro e2 w2 ⟨rfl,rfl⟩
       go_wp2_with fail
       refine HC.out.mono ?_
       rintro e2 w2 ⟨rfl,rfl⟩
       go_wp2
       go_ret2
       exact ⟨by rw [Hno.out];rfl,Hb.out⟩
      have n255:decide ((n:Int)>255)=false:=decide_eq_false (by omega)
      have Hst:=Lib.hid (zCv (m':=x+6) Hun.out (by rw [<- Hd4.out];exact Hcode2.out.trans (if_pos hn)))
      have hon:(UInt8.ofNat n).toNat=n:=by simp;omega
      have hcv:=zHN wr #[.int .u8 (n:Int)] [UInt8.ofNat n] 1 rfl (by simp only [Lib.byteCells,List.map_cons,List.map_nil];rw [hon])
      have Hnx:=Lib.hid (show bs acc++bs [UInt8.ofNat n]=bs (acc++[UInt8.ofNat n]) from zFV _ _)
      have hk1:(bs [UInt8.ofNat n]).size<=1:=by rw [zk];simp
      generalize bs acc=a at *
      generalize bs [UInt8.ofNat n]=kk at *
      go_wp2_with fail
      refine HS.out.mono ?_
      rintro e2 w2 ⟨rfl,rfl⟩
      go_wp2_with fail
      refine HC.out.mono ?_
      rintro e2 w2 ⟨rfl,rfl⟩
      go_wp2
      go_roundg (gk-6)
      case measure=>have:=Hmj.out;omega
      case rel=>exact ⟨x+6,acc++[UInt8.ofNat n],by have:=Hmj.out;omega,by go_num,by rw [Hnx.out],by have:=Hac.out;simp;omega,Hst.out,Hb.out.alloc Hb.out.size _⟩
  . obtain rfl:x=d.size:=by omega
    have Hfin:=Lib.hid (Hu.out.trans (unq_end Hun.out (by simp)))
    have Ha:=Lib.hid (show uqV (some acc) = .tuple #[.string (bs acc),.int .i64 0] from rfl)
    generalize bs acc=a at *
    go_wp2
    go_ret2
    exact ⟨by rw [Hfin.out,Ha.out];rfl,Hb.out⟩
end
end Go.Proofs.YthppafnlnnpciaaGreatDoor
