import Derived.Test.YtdlnnlglmifceaaGreatDoorQ19
set_option linter.unusedVariables false
set_option linter.unusedSimpArgs false
namespace Go.Proofs.YtdlnnlglmifceaaGreatDoor
open Go.RowKit
attribute [local irreducible] wpList Calls Code.wp
section
variable {X : Cx} {nn : Nat} {st : Vst nn}
def stS (nn : Nat) (cs : List (Nat × V)) (R : List (Nat × Res)) : Vst nn:=
 ⟨fun i => match cs.find? (fun p => p.1 == i) with | some p => p.2 | none => .any,fun m => match R.find? (fun p => p.1 == m) with | some p => some p.2 | none => none⟩
def tmOk (st : Vst nn) : List (Nat × V) -> Prop
 | [] => True
 | (i,v) :: l => st.tm i = v /\ tmOk st l
def rsOk (st : Vst nn) : List (Nat × Res) -> Prop
 | [] => True
 | (m,ρ) :: l => st.rs m = some ρ /\ rsOk st l
theorem zHY : ∀ {l : List (Nat × V)},tmOk st l -> ∀ p ∈ l,st.tm p.1 = p.2
 | [],_,p,h => by simp at h
 | x :: l,hh,p,h => by
   rcases List.mem_cons.1 h with rfl | h
   . exact hh.1
   . exact zHY hh.2 p h
theorem zFY : ∀ {l : List (Nat × Res)},rsOk st l -> ∀ p ∈ l,st.rs p.1 = some p.2
 | [],_,p,h => by simp at h
 | x :: l,hh,p,h => by
   rcases List.mem_cons.1 h with rfl | h
   . exact hh.1
   . exact zFY hh.2 p h
theorem Sub.live {cs : List (Nat × V)} {R : List (Nat × Res)} (h1 : tmOk st cs) (h2 : rsOk st R) : Sub X st (stS nn cs R):=by
 refine Sub.drop (fun i _ => ?_) fun m ρ h => ?_
 . simp only [stS]
   split
   . rename_i p hp
     have hm:=List.mem_of_find?_eq_some hp
     have he:=List.find?_some hp
     simp at he
     subst he
     exact .inl (zHY h1 p hm).symm
   . exact .inr rfl
 . simp only [stS] at h
   split at h
   . rename_i p hp
     have hm:=List.mem_of_find?_eq_some hp
     have he:=List.find?_some hp
     simp at he
     cases h
     subst he
     exact zFY h2 p hm
   . cases h
theorem zh {j j' : Nat} {I : Nat -> Vst nn -> Prop} {K : Exit -> Vst nn -> Prop} (hj : j' < j) (h : I j' st) : loopK j I K .normal st:=⟨j',hj,h⟩
theorem Sub.bld {m : Nat} {t e : TypeId} (hr : st.rs m = some (.box t [.c (.pointer none),.c (.slice none 0 0)])) : Sub X st (st.res m (.bld t e [])):=fun s w a hI => by
 let s' : Sg:={ s with tb:=fun q => if q = m then none else s.tb q }
 have hx : Ext (fun _ => False) s w s' w:=⟨Keeps.refl,fun _ _ => rfl,fun _ _ => .inl rfl⟩
 obtain ⟨b,cs,h1,h2,h3,h4⟩:=hI.mem.ho m _ hr
 have hcs : cs = #[.pointer none,.slice none 0 0]:=by
  apply Array.ext'
  cases hl : cs.toList with
  | nil => rw [hl] at h3; simp [relL] at h3
  | cons x xs =>
    rw [hl,relL,rel] at h3
    cases xs with
    | nil => simp [relL] at h3
    | cons y ys =>
      rw [relL,rel] at h3
      cases ys with
      | nil => rw [h3.1.1,h3.2.1.1]
      | cons z zs => simp [relL] at h3
 subst hcs
 have hb0 : s.bk m (.box t [.c (.pointer none),.c (.slice none 0 0)]) b:=h1
 have hbk : ∀ q ρ x,updR st.rs m (.bld t e []) q = some ρ -> s'.bk q ρ x -> ∃ ρ',st.rs q = some ρ' /\ s.bk q ρ' x:=fun q ρ x hq hx => by
  by_cases e' : q = m
  . subst e'
    simp only [updR,if_true] at hq
    cases hq
    rcases hx with hx | hx
    . exact ⟨_,hr,hx⟩
    . simp [s'] at hx
  . simp only [updR,if_neg e'] at hq
    refine ⟨ρ,hq,?_⟩
    cases ρ <;> simpa [Sg.bk,s',e'] using hx
 refine ⟨s',hI.sz,fun i hi => (hI.tm i hi).ext0 hx,hI.df,hI.fr,hI.kp,hI.nf,⟨hI.mem.fx,fun q ρ (hq : updR st.rs m (.bld t e []) q = some ρ) => ?_,fun q ρ b' (hq : updR st.rs m (.bld t e []) q = some ρ) hqb => ?_,fun q r ρ ρ' b' (hq : updR st.rs m (.bld t e []) q = some ρ) (hq' : updR st.rs m (.bld t e []) r = some ρ') hqb hrb => ?_⟩,hI.pe.ext0 hx⟩
 . by_cases e' : q = m
   . subst e'
     simp only [updR,if_true] at hq
     cases hq
     exact ⟨b,.slice none 0 0,.pointer none,h1,h2,.inl rfl,⟨by simp [Lib.byteCells],.inl ⟨rfl,rfl⟩⟩,by simp [Value.ownBlock],by simp [s',Value.ownBlock],h4,fun g o hg => by simp [Value.ownBlock] at hg⟩
   . simp only [updR,if_neg e'] at hq
     exact (hI.mem.ho q ρ hq).keep hx (fun h => h) rfl (by simp [s',e']) (fun _ h => h.elim) (fun _ _ => rfl) (fun _ _ _ h => h)
 . obtain ⟨ρ',h5,h6⟩:=hbk q ρ b' hq hqb
   exact hI.mem.bs q ρ' b' h5 h6
 . obtain ⟨ρ1,h5,h6⟩:=hbk q ρ b' hq hqb
   obtain ⟨ρ2,h7,h8⟩:=hbk r ρ' b' hq' hrb
   exact hI.mem.dj q r ρ1 ρ2 b' h5 h7 h6 h8
theorem zCT {m : Nat} {ρ : Res} : st.resN [m] [ρ] = st.res m ρ:=by
 unfold Vst.resN Vst.res
 congr 1
 funext q
 unfold updN updR
 by_cases h : q = m
 . subst h; simp [List.idxOf?,List.findIdx?_cons]
 . have : ¬ (m == q) = true:=by simp; exact fun e => h e.symm
   simp [List.idxOf?,List.findIdx?_cons,this,h]
theorem φin_one (m : Nat) : φin [m] m = some (pn 0):=by simp [φin,List.idxOf?,List.findIdx?_cons]
variable {ops : Array Oper} {l : List Oper} {o : Oper} {KK : Vst nn -> Prop} {d : Option Tmp}
end
end Go.Proofs.YtdlnnlglmifceaaGreatDoor
