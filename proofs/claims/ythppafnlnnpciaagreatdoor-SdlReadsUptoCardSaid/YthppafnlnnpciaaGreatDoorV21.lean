import Derived.Test.YthppafnlnnpciaaGreatDoorV20
set_option linter.unusedVariables false
set_option linter.unusedSimpArgs false
namespace Go.Proofs.YthppafnlnnpciaaGreatDoor
open Go.RowKit
attribute [local irreducible] wpList Calls Code.wp
section
variable {X:Cx} {nn:Nat} {st:Vst nn}
def stS (nn:Nat) (cs:List (Nat × V)) (R:List (Nat × Res)):Vst nn:=
 ⟨fun i=>match cs.find? (fun p=>p.1==i) with | some p=>p.2 | none => .any,fun m=>match R.find? (fun p=>p.1==m) with | some p=>some p.2 | none=>none⟩
def tmOk (st:Vst nn):List (Nat × V)->Prop
 |[]=>True
 |(i,v)::l=>st.tm i=v/\tmOk st l
def rsOk (st:Vst nn):List (Nat × Res)->Prop
 |[]=>True
 |(m,ρ)::l=>st.rs m=some ρ/\rsOk st l
theorem zKO : ∀ {l:List (Nat × V)},tmOk st l -> ∀ p∈l,st.tm p.1=p.2
 |[],_,p,h=>by simp at h
 |x::l,hh,p,h=>by
  rcases List.mem_cons.1 h with rfl | h
  . exact hh.1
  . exact zKO hh.2 p h
theorem zHB : ∀ {l:List (Nat × Res)},rsOk st l -> ∀ p∈l,st.rs p.1=some p.2
 |[],_,p,h=>by simp at h
 |x::l,hh,p,h=>by
  rcases List.mem_cons.1 h with rfl | h
  . exact hh.1
  . exact zHB hh.2 p h
theorem Sub.live {cs:List (Nat × V)} {R:List (Nat × Res)} (h1:tmOk st cs) (h2:rsOk st R):Sub X st (stS nn cs R):=by
 refine Sub.drop (fun i _ => ?_) fun m ρ h => ?_
 . simp only [stS]
   split
   . rename_i p hp
     have hm:=List.mem_of_find?_eq_some hp
     have he:=List.find?_some hp
     simp at he
     subst he
     exact .inl (zKO h1 p hm).symm
   . exact .inr rfl
 . simp only [stS] at h
   split at h
   . rename_i p hp
     have hm:=List.mem_of_find?_eq_some hp
     have he:=List.find?_some hp
     simp at he
     cases h
     subst he
     exact zHB h2 p hm
   . cases h
theorem zH {j j':Nat} {I:Nat->Vst nn->Prop} {K:Exit->Vst nn->Prop} (hj:j'<j) (h:I j' st):loopK j I K .normal st:=⟨j',hj,h⟩
theorem zCJ {m:Nat} {ρ:Res}:st.resN [m] [ρ]=st.res m ρ:=by
 unfold Vst.resN Vst.res
 congr 1
 funext q
 unfold updN updR
 by_cases h:q=m
 . subst h;simp [List.idxOf?,List.findIdx?_cons]
 . have : ¬ (m==q)=true:=by simp;exact fun e=>h e.symm
   simp [List.idxOf?,List.findIdx?_cons,this,h]
theorem φin_one (m:Nat):φin [m] m=some (pn 0):=by simp [φin,List.idxOf?,List.findIdx?_cons]
variable {ops:Array Oper} {l:List Oper} {o:Oper} {KK:Vst nn->Prop} {d:Option Tmp}
end
end Go.Proofs.YthppafnlnnpciaaGreatDoor
