import Derived.WalkSmall
import Derived.Test.YtdlnnlglmifceaaGreatDoorV13
set_option linter.unusedVariables false
set_option linter.unusedSimpArgs false
namespace Go.Proofs.YtdlnnlglmifceaaGreatDoor
open Go.RowKit
attribute [local irreducible] wpList Calls Code.wp
inductive Out where
 | ret (r : V) (bs : List Res)
 | die (v : Value)
def ACX (e : Ge) (P : Program) (f : FuncId) (args : List V) (bs : List Res) (pv : Value) : Prop:=
 ∀ (pas : Nat -> Prop) (s : Sg) (w : World) (us : Array Value),relL P s w args us.toList -> MemOk P pas w.heap.size (rsOf bs) s w -> e.E w -> (∀ k,k < e.G -> ¬ pas k) ->
   Calls P f us w fun en w' => en = .panicked [{ v:=pv,recovered:=false }] /\ ∃ F',Frm pas w w' /\ Keeps s.F F' w w' /\ (∀ b o,b < w.heap.size -> ¬ pas b -> F' b o -> s.F b o) /\ (∀ b o,F' b o -> (w'.cell? ⟨b,o,none⟩).isSome)
def forgetN (rs : Nat -> Option Res) (ns : List Nat) : Nat -> Option Res:=fun m => if m ∈ ns then none else rs m
section
variable {X : Cx} {nn : Nat} {st : Vst nn} {o : Oper} {K : Vst nn -> Prop}
theorem opOk_callX {f : FuncId} {vargs args : List V} {bs : List Res} {pv : Value} (ns : List Nat) (h : act1 X.P st.rs (ev st) o.op = .call f vargs) (hc : ACX X.e X.P f args bs pv) (hnd : ns.Nodup) (ha : renL (φin ns) vargs = args)
 (hb : ns.map (fun n => (st.rs n).map (renR (φin ns))) = bs.map some) (hK : X.pk pv st.tm (forgetN st.rs ns)) : OpOk X o st K:=by
 intro s w a hI N Q hP hN
 obtain ⟨us,h1,h2⟩:=zFj h hI.ev (fun _ => rfl)
 unfold Oper.wp
 rw [h1,Oper.upon_enter]
 let sc : Sg:={ F:=s.F,bx:=fun n => (φout ns n).bind s.bx,tb:=fun n => (φout ns n).bind s.tb,tk:=fun n => match φout ns n with | some m => s.tk m | none => (.tuple #[],0) }
 have hin : ∀ n m,φin ns n = some m -> ∃ i,m = pn i /\ ns[i]? = some n:=fun n m hm => by
  obtain ⟨i,hi,rfl⟩:=Option.map_eq_some_iff.1 hm
  exact ⟨i,rfl,zB2 hi⟩
 have hsc : ∀ (i q : Nat),ns[i]? = some q -> sc.bx (pn i) = s.bx q /\ sc.tb (pn i) = s.tb q /\ sc.tk (pn i) = s.tk q:=fun i q hq => by
  have e : φout ns (pn i) = some q:=(φout_pn ns i).trans hq
  refine ⟨?_,?_,?_⟩
  . show (φout ns (pn i)).bind s.bx = _; rw [e]; rfl
  . show (φout ns (pn i)).bind s.tb = _; rw [e]; rfl
  . show (match φout ns (pn i) with | some m => s.tk m | none => (.tuple #[],0)) = _; rw [e]
 have hφ1 : ∀ n m,φin ns n = some m -> sc.bx m = s.bx n /\ sc.tk m = s.tk n:=fun n m hm => by
  obtain ⟨i,rfl,hi⟩:=hin n m hm
  exact ⟨(hsc i n hi).1,(hsc i n hi).2.2⟩
 have hargs : relL X.P sc w args us.toList:=by rw [<- ha]; exact relL.ren (s:=s) (s2:=sc) rfl hφ1 _ _ h2
 have hbs : ∀ (i : Nat) (ρ : Res),bs[i]? = some ρ -> ∃ q ρ0,ns[i]? = some q /\ st.rs q = some ρ0 /\ ρ = renR (φin ns) ρ0:=fun i ρ hi => by
  have h3 : (ns.map (fun n => (st.rs n).map (renR (φin ns))))[i]? = (bs.map some)[i]?:=by rw [hb]
  rw [List.getElem?_map,List.getElem?_map,hi] at h3
  obtain ⟨q,hq,h4⟩:=Option.map_eq_some_iff.1 h3
  obtain ⟨ρ0,h5,h6⟩:=Option.map_eq_some_iff.1 h4
  exact ⟨q,ρ0,hq,h5,h6.symm⟩
 let pas : Nat -> Prop:=fun b => ∃ n ρ,n ∈ ns /\ st.rs n = some ρ /\ s.bk n ρ b
 have hpas : ∀ b,pas b -> X.w0.heap.size <= b \/ X.pas b:=fun b ⟨n,ρ,_,hn,hbk⟩ => hI.mem.bs n ρ b hn hbk
 have hmem : MemOk X.P pas w.heap.size (rsOf bs) sc w:=by
  refine ⟨hI.mem.fx,fun n ρ hn => ?_,fun n ρ b hn hbk => ?_,fun n m ρ ρ' b hn hm hnb hmb => ?_⟩
  . obtain ⟨i,rfl,hi⟩:=zAk hn
    obtain ⟨q,ρ0,hq,h3,rfl⟩:=hbs i ρ hi
    exact Holds.ren (s:=s) (s2:=sc) rfl hφ1 (hsc i q hq).1 (hsc i q hq).2.1 (hsc i q hq).2.2 (hI.mem.ho q ρ0 h3)
  . obtain ⟨i,rfl,hi⟩:=zAk hn
    obtain ⟨q,ρ0,hq,h3,rfl⟩:=hbs i ρ hi
    exact .inr ⟨q,ρ0,List.mem_of_getElem? hq,h3,(bk_ren (hsc i q hq).1 (hsc i q hq).2.1).1 hbk⟩
  . obtain ⟨i,rfl,hi⟩:=zAk hn
    obtain ⟨j,rfl,hj⟩:=zAk hm
    obtain ⟨q,ρ0,hq,h3,rfl⟩:=hbs i ρ hi
    obtain ⟨q',ρ1,hq',h3',rfl⟩:=hbs j ρ' hj
    have e:=hI.mem.dj q q' _ _ b h3 h3' ((bk_ren (hsc i q hq).1 (hsc i q hq).2.1).1 hnb) ((bk_ren (hsc j q' hq').1 (hsc j q' hq').2.1).1 hmb)
    subst e
    have:=(zGM hnd hq).symm.trans (zGM hnd hq')
    cases this; rfl
 refine (hc pas sc w us hargs hmem hI.en fun k hk hp => (hpas k hp).elim (fun h => by have:=X.e.le _ X.he; omega) (X.hp k hk)).mono ?_
 rintro e w' ⟨rfl,F',hfr,hk,hnf,hfx⟩
 have hx : Ext (fun _ => False) s w { s with F:=F' } w':=⟨hk,fun _ _ => rfl,fun _ _ => .inl rfl⟩
 have hnp : ∀ m ρ b,m ∉ ns -> st.rs m = some ρ -> s.bk m ρ b -> ¬ pas b:=fun m ρ b hi hm hbk ⟨n,ρ',hn,hn2,hbk2⟩ => by
  have:=hI.mem.dj m n ρ ρ' b hm hn2 hbk hbk2
  subst this
  exact hi hn
 have hget : ∀ m ρ,forgetN st.rs ns m = some ρ -> m ∉ ns /\ st.rs m = some ρ:=fun m ρ hm => by
  unfold forgetN at hm
  split at hm
  . cases hm
  . rename_i hn; exact ⟨hn,hm⟩
 have bk2 : ∀ m ρ,({ s with F:=F' } : Sg).bk m ρ = s.bk m ρ:=fun m ρ => by funext x; cases ρ <;> simp [Sg.bk]
 refine hP pv ⟨st.tm,forgetN st.rs ns⟩ { s with F:=F' } w' a ⟨hI.sz,fun i hi => (hI.tm i hi).ext0 hx,hI.df,hI.fr.trans hfr hpas,hI.kp.trans hk,fun b o hb' hnp' hF => hI.nf b o hb' hnp' (hnf b o (Nat.lt_of_lt_of_le hb' hI.base) (fun hp => (hpas b hp).elim (fun h => by omega) hnp') hF),?_,hI.pe.ext0 hx⟩ hK
 refine ⟨hfx,fun m ρ hm => ?_,fun m ρ b hm hbk => ?_,fun m q ρ ρ' b hm hq hmb hqb => ?_⟩
 . obtain ⟨hn,hm⟩:=hget m ρ hm
   exact (hI.mem.ho m ρ hm).keep hx (fun h => h) rfl rfl (fun _ h => h.elim) (fun b hb' => hfr.block b ((hI.mem.ho m ρ hm).lt hb') (hnp m ρ b hn hm hb')) (fun b o hb' hF => hnf b o ((hI.mem.ho m ρ hm).lt hb') (hnp m ρ b hn hm hb') hF)
 . rw [bk2] at hbk
   exact hI.mem.bs m ρ b (hget m ρ hm).2 hbk
 . rw [bk2] at hmb hqb
   exact hI.mem.dj m q ρ ρ' b (hget m ρ hm).2 (hget q ρ' hq).2 hmb hqb
end
theorem awo_sub {X : Cx} {nn : Nat} {st st' : Vst nn} {ops : Array Oper} {l : List Oper} {KK : Vst nn -> Prop} (hs : Sub X st st') (h : AWo X ops l st' KK) : AWo X ops l st KK:=fun s w a hI => by
 obtain ⟨s',hI'⟩:=hs s w a hI
 exact h s' w a hI'
end Go.Proofs.YtdlnnlglmifceaaGreatDoor
