import Derived.Test.YtdlnnlglmifceaaGreatDoorCards
import Derived.Test.YtdlnnlglmifceaaGreatDoorTie
import Derived.ProofKit
import Derived.OpenShut
import Derived.Deep.DeepHandedRow
import Derived.Test.YtdlnnlglmifceaaGreatDoorQ24
set_option maxHeartbeats 1000000
set_option linter.unusedVariables false
set_option linter.unusedSimpArgs false
namespace Go.Proofs.YtdlnnlglmifceaaGreatDoor
open Go.ChangeShapes Go.WideShapes Go.ChangeAt Go.RowKit
attribute [local irreducible] wpList Calls Code.wp
theorem own : ownKnob Tryz.prog.godebug = none:=by kernel_rfl
theorem laidOut' : laidOutB Tryz.prog = true:=by kernel_rfl
theorem gPow : Tryz.prog.globalNamed "internal/strconv.uint64pow10" = some 1 := by kernel_rfl
theorem gErrR : Tryz.prog.globalNamed "strconv.ErrRange" = some 3 := by kernel_rfl
theorem gErrS : Tryz.prog.globalNamed "strconv.ErrSyntax" = some 2 := by kernel_rfl
theorem gErrRT : (Tryz.prog.globals[3]?).map (·.type) = some 116:=by kernel_rfl
theorem gErrST : (Tryz.prog.globals[2]?).map (·.type) = some 116:=by kernel_rfl
theorem tab_of_row {P : Program} {W : World} {g : Nat} {n : String} {t e : TypeId} {m : Nat} {k : IntKind} {zs : List Int} (hg : P.globalNamed n = some g) (hty : (P.globals[g]?).map (·.type) = some t) (ht : P.underlying t = some (.array m e)) (he : P.underlying e = some (.int k)) (hce : P.cellsOf e = 1) (hct : P.cellsOf t = m)
 (h : ∃ g t cs fuel p,P.globalNamed n = some g /\ (P.globals[g]?).map (·.type) = some t /\ W.var? P n = some cs /\ DataW.trod (fun _ => ()) P W 0 (fun _ => true) false fuel t cs.toList = some (Lib.tabData k zs,p)) : Lib.TabIs P W n k zs:=by
 obtain ⟨g',t',cs,fuel,p,hg',ht',hvar,hd⟩:=h
 obtain rfl:=Option.some.inj (hg.symm.trans hg')
 obtain rfl:=Option.some.inj (hty.symm.trans ht')
 unfold Lib.TabIs
 rw [hvar,<- Lib.cells_of_tab ht he hce hct hd]
theorem zE6 {P : Program} {W : World} {g : Nat} {n nm : String} {t : TypeId} {ms : Array (String × TypeId)} {d : DataW Unit} (hg : P.globalNamed n = some g) (hty : (P.globals[g]?).map (·.type) = some t) (ht : P.underlying t = some (.interface ms))
 (h : ∃ g t cs fuel p,P.globalNamed n = some g /\ (P.globals[g]?).map (·.type) = some t /\ W.var? P n = some cs /\ DataW.trod (fun _ => ()) P W 0 (fun _ => true) false fuel t cs.toList = some (.iface nm d,p)) : ∃ tp p,W.var? P n = some #[.iface tp p]:=by
 obtain ⟨g',t',cs,fuel,p,hg',ht',hvar,hd⟩:=h
 obtain rfl:=Option.some.inj (hg.symm.trans hg')
 obtain rfl:=Option.some.inj (hty.symm.trans ht')
 obtain ⟨_,u,v,hc,_⟩:=iface_of_trod ht hd
 refine ⟨u,v,?_⟩
 rw [hvar]
 cases cs; simp_all
theorem gPowT : (Tryz.prog.globals[1]?).map (·.type) = some 241:=by kernel_rfl
def laidL : List (String × DataW Unit) := [("math/bits.deBruijn32tab", Rows.laid_math_bits_deBruijn32tab), ("math/bits.deBruijn64tab", Rows.laid_math_bits_deBruijn64tab), ("internal/strconv.uint64pow10", Rows.laid_internal_strconv_uint64pow10), ("strconv.ErrRange", Rows.laid_strconv_ErrRange), ("strconv.ErrSyntax", Rows.laid_strconv_ErrSyntax)]
theorem zHG {W : World} (h : laidMetH Tryz.prog laidL W) : Env W:=by
 have h' : laidMet Tryz.prog laidL W:=h
 obtain ⟨ps,⟨_,_,_,_,_,_,_,_,_,_,⟨_,_,_,_,_,_,_,_,_,_,⟨g3,t3,c3,f3,p3,q3,a3,b3,e3,d3,⟨g4,t4,c4,f4,p4,q4,a4,b4,e4,d4,⟨g5,t5,c5,f5,p5,q5,a5,b5,e5,d5,_⟩,_⟩,_⟩,_⟩,_⟩,_⟩:=h'
 exact ⟨tab_of_row gPow gPowT Tryz.underlying241 Tryz.underlying219 (by kernel_rfl) (by kernel_rfl) ⟨g3,t3,c3,f3,p3,a3,b3,e3,d3⟩,
  zE6 gErrR gErrRT Tryz.underlying116 ⟨g4,t4,c4,f4,p4,a4,b4,e4,d4⟩,
  zE6 gErrS gErrST Tryz.underlying116 ⟨g5,t5,c5,f5,p5,a5,b5,e5,d5⟩⟩
theorem types_ok (ts : List TypeId) (h : (ts.all fun t => Tryz.prog.readableRec t && decide (t < Tryz.prog.types.size)) = true) : ∀ t ∈ ts,Tryz.prog.readableRec t = true /\ t < Tryz.prog.types.size:=by
 intro t ht
 have:=List.all_eq_true.1 h t ht
 simpa using this
def tab32 : List Int:=[0,1,28,2,29,14,24,3,30,22,20,15,25,17,4,8,31,27,13,23,21,19,16,7,26,12,18,6,11,5,10,9]
def tab64 : List Int:=[0,1,56,2,57,49,28,3,61,58,42,50,38,29,17,4,62,47,59,36,45,43,51,22,53,39,33,30,24,18,12,5,63,55,48,27,60,41,37,16,46,35,44,21,52,32,23,11,54,26,40,15,34,20,31,10,25,14,19,9,13,8,7,6]
def relay (cs : Array Value) : Obj -> Obj
 | .cells _ t frozen => .cells cs t frozen
 | o => o
noncomputable def laidWorld (os : Os) : World:=
 let w:=World.holding Tryz.prog os ⟨#[],#[],[]⟩
 let n:=w.heap.size
 { w with heap:=((((((w.heap.modify 4 (relay (tab32.map fun z => Value.int .u8 z).toArray)).modify 5 (relay (tab64.map fun z => Value.int .u8 z).toArray)).modify 1 (relay (Lib.pow10Tab.map fun z => Value.int .u64 z).toArray)).modify 3
     (relay #[.iface 257 (.pointer (some ⟨n,0,none⟩))])).modify 2 (relay #[.iface 257 (.pointer (some ⟨n + 1,0,none⟩))])).push
     (.cells #[.string ⟨#[118,97,108,117,101,32,111,117,116,32,111,102,32,114,97,110,103,101]⟩] 259)).push (.cells #[.string ⟨#[105,110,118,97,108,105,100,32,115,121,110,116,97,120]⟩] 259) }
end Go.Proofs.YtdlnnlglmifceaaGreatDoor
namespace Go.Proofs.YtdlnnlglmifceaaGreatDoor
open Go.RowKit
attribute [local irreducible] wpList Calls Code.wp
structure Rn (l : List UInt8) (d : ByteArray) (ng : Bool) : Prop where
 empty : d.size = 0 -> numU l = Lib.NumEnd.syntax
 zero : 0 < d.size -> bV d 0 = 48 -> (1 < d.size \/ ng = true) -> numU l = Lib.NumEnd.syntax
 bad : ∀ x,x < d.size -> digB (bV d x) = false -> numU l = Lib.NumEnd.syntax
 good : 0 < d.size -> ¬ (bV d 0 = 48 /\ (1 < d.size \/ ng = true)) -> (∀ k,k < d.size -> digB (bV d k) = true) ->
  numU l = if ng = true then (if decV 0 (tk d d.size) <= 9223372036854775808 then .ok (-(decV 0 (tk d d.size) : Int)) else .range) else if decV 0 (tk d d.size) < 9223372036854775808 then .ok (decV 0 (tk d d.size)) else .range
 mono : ∀ m,decV 0 (tk d m) <= decV 0 (tk d d.size)
def simV : Option UInt8 -> Value
 | some x => .tuple #[.int .u8 (x.toNat : Int),.bool true]
 | none => .tuple #[.int .u8 0,.bool false]
def Sm (r : Option UInt8) (w : World) (e : Ending) (w' : World) : Prop:=e = .returned (simV r) /\ w = w'
theorem sim_cases (c : UInt8) : c = 34 \/ c = 92 \/ c = 47 \/ c = 98 \/ c = 102 \/ c = 110 \/ c = 114 \/ c = 116 \/ (simU c = none /\ (c.toNat : Int) ≠ 34 /\ (c.toNat : Int) ≠ 92 /\ (c.toNat : Int) ≠ 47 /\ (c.toNat : Int) ≠ 98 /\ (c.toNat : Int) ≠ 102 /\ (c.toNat : Int) ≠ 110 /\ (c.toNat : Int) ≠ 114 /\ (c.toNat : Int) ≠ 116):=by
 by_cases h1 : c = 34
 . exact .inl h1
 by_cases h2 : c = 92
 . exact .inr (.inl h2)
 by_cases h3 : c = 47
 . exact .inr (.inr (.inl h3))
 by_cases h4 : c = 98
 . exact .inr (.inr (.inr (.inl h4)))
 by_cases h5 : c = 102
 . exact .inr (.inr (.inr (.inr (.inl h5))))
 by_cases h6 : c = 110
 . exact .inr (.inr (.inr (.inr (.inr (.inl h6)))))
 by_cases h7 : c = 114
 . exact .inr (.inr (.inr (.inr (.inr (.inr (.inl h7))))))
 by_cases h8 : c = 116
 . exact .inr (.inr (.inr (.inr (.inr (.inr (.inr (.inl h8)))))))
 refine .inr (.inr (.inr (.inr (.inr (.inr (.inr (.inr ⟨?_,zDz (n:=34) (by omega) h1,zDz (n:=92) (by omega) h2,zDz (n:=47) (by omega) h3,zDz (n:=98) (by omega) h4,zDz (n:=102) (by omega) h5,zDz (n:=110) (by omega) h6,zDz (n:=114) (by omega) h7,zDz (n:=116) (by omega) h8⟩)))))))
 unfold simU
 rw [if_neg (by rintro (h | h | h) <;> contradiction),if_neg h4,if_neg h5,if_neg h6,if_neg h7,if_neg h8]
theorem plainP (c : UInt8) (v : Int) (hv : v = (c.toNat : Int)) (w : World) : Calls Tryz.prog 150 #[.int .u8 v] w (Sm (simU c) w):=by
 rcases sim_cases c with rfl | rfl | rfl | rfl | rfl | rfl | rfl | rfl | ⟨h,n1,n2,n3,n4,n5,n6,n7,n8⟩
 all_goals first
  | (subst hv
     go_enter Tryz.func150,Tryz.ntmps150
     go_wp2
     go_ret2
     exact ⟨rfl,rfl⟩)
  | (rw [<- hv] at n1 n2 n3 n4 n5 n6 n7 n8
     have H:=Lib.hid h
     have q1:=beq_false_of_ne n1
     have q2:=beq_false_of_ne n2
     have q3:=beq_false_of_ne n3
     have q4:=beq_false_of_ne n4
     have q5:=beq_false_of_ne n5
     have q6:=beq_false_of_ne n6
     have q7:=beq_false_of_ne n7
     have q8:=beq_false_of_ne n8
     clear h hv
     go_enter Tryz.func150,Tryz.ntmps150
     go_wp2
     go_ret2
     exact ⟨by rw [H.out]; rfl,rfl⟩)
theorem code_some {c : UInt8} {d n : Nat} {r : List UInt8} (h : valU c = some d) : codeFrom n (c :: r) = codeFrom (16 * n + d) r:=by show (valU c).bind _ = _; rw [h]; rfl
theorem code_none {c : UInt8} {n : Nat} {r : List UInt8} (h : valU c = none) : codeFrom n (c :: r) = none:=by show (valU c).bind _ = _; rw [h]; rfl
theorem val_lt {c : UInt8} {d : Nat} (h : valU c = some d) : d < 16:=by
 unfold valU at h
 split at h
 . injection h; omega
 . split at h
   . injection h; omega
   . split at h
     . injection h; omega
     . cases h
theorem zHH {s : ByteArray} {x : Nat} (h : x < s.size) : s.data.toList.drop x = bC s x :: s.data.toList.drop (x + 1):=by
 have h' : x < s.data.toList.length:=by simpa using h
 rw [List.drop_eq_getElem_cons h']
 unfold bC
 simp [List.getElem?_eq_getElem h']
theorem zFP {L acc : List UInt8} {m m' : Nat} {y : UInt8} (h : unqU L = (unqU (L.drop m)).map (acc ++ ·)) (h2 : unqU (L.drop m) = (unqU (L.drop m')).map (y :: ·)) : unqU L = (unqU (L.drop m')).map ((acc ++ [y]) ++ ·):=by
 rw [h,h2,Option.map_map]
 congr 1
 funext r
 simp
theorem zCR {L acc : List UInt8} {m : Nat} (h : unqU L = (unqU (L.drop m)).map (acc ++ ·)) (h2 : unqU (L.drop m) = none) : unqU L = none:=by rw [h,h2]; rfl
theorem unq_end {L acc : List UInt8} {m : Nat} (h : unqU L = (unqU (L.drop m)).map (acc ++ ·)) (hm : L.length <= m) : unqU L = some acc:=by rw [h,List.drop_of_length_le hm,unqU_nil]; simp
def uqV : Option (List UInt8) -> Value
 | some x => .tuple #[.string (bs x),.int .i64 0]
 | none => .tuple #[.string ⟨#[]⟩,.int .i64 3]
def Uq (r : Option (List UInt8)) (w : World) (e : Ending) (w' : World) : Prop:=e = .returned (uqV r) /\ Below w.heap.size w w'
theorem mid_bs (s : ByteArray) : s.extract 1 (s.size - 1) = bs ((s.data.toList.drop 1).take (s.data.toList.length - 2)):=by
 apply ByteArray.ext
 apply Array.toList_inj.1
 simp [bs,List.extract]
 omega
theorem cut_list (d : ByteArray) (x : Nat) : (d.extract (x + 2) (x + 6)).data.toList = (d.data.toList.drop (x + 2)).take 4:=by
 simp [List.extract]
theorem zIO {s : ByteArray} {k : Nat} (h : k < s.size) : s.data.toList.getD k 0 = 34 ↔ bV s k = 34:=by
 unfold bV
 constructor
 . intro e; rw [e]; rfl
 . intro e
   apply UInt8.toNat_inj.1
   have : UInt8.toNat 34 = 34:=rfl
   omega
theorem unq_of {s : ByteArray} (h0 : 2 <= s.size) (h1 : bV s 0 = 34) (h2 : bV s (s.size - 1) = 34) : unquoteU s.data.toList = unqU (s.extract 1 (s.size - 1)).data.toList:=by
 have hl : s.data.toList.length = s.size:=by simp
 rw [mid_bs,zA2]
 unfold unquoteU
 rw [if_pos ⟨by rw [hl]; exact h0,(zIO (by omega)).2 h1,by rw [hl]; exact (zIO (by omega)).2 h2⟩]
theorem zGp {s : ByteArray} (h : ¬ (2 <= s.size /\ bV s 0 = 34 /\ bV s (s.size - 1) = 34)) : unquoteU s.data.toList = none:=by
 have hl : s.data.toList.length = s.size:=by simp
 unfold unquoteU
 rw [if_neg]
 rintro ⟨h0,h1,h2⟩
 rw [hl] at h0 h2
 exact h ⟨h0,(zIO (by omega)).1 h1,(zIO (by omega)).1 h2⟩
end Go.Proofs.YtdlnnlglmifceaaGreatDoor
