import Derived.Laws.IdiomCopy
import Derived.Lib.EndianMore
import Derived.Lib.Builder
import Derived.Test.YtdlnnlglmifceaaGreatDoorQ31
set_option maxHeartbeats 8000000
set_option maxRecDepth 100000
set_option linter.unusedVariables false
set_option linter.unusedSimpArgs false
namespace Go.Proofs.YtdlnnlglmifceaaGreatDoor
open Go.RowKit
attribute [local irreducible] wpList Calls Code.wp
def isStrB (P : Program) (t : TypeId) : Bool:=match P.underlying t with | some .string => true | _ => false
theorem isStrB_ok {P : Program} {t : TypeId} (h : isStrB P t = true) : P.underlying t = some .string:=by
 unfold isStrB at h
 split at h
 . assumption
 . cases h
def flatB (P : Program) (e : TypeId) : Option Nat:=
 match P.underlying e with
 | some (.struct fs) =>
   if fs.toList.all (fun f => P.cellsOf f.type == 1 && match P.underlying f.type with | some .bool => true | some (.int _) => true | some .string => true | _ => false) = true then
    (fs.toList.find? fun f => isStrB P f.type).map (·.offset)
   else none
 | _ => none
def rvV (P : Program) (k : Nat) (e : TypeId) (l : List D) : V -> V
 | .c v => .c v
 | .bx n o => .bx n o
 | .sl e' l' => if (flatB P e').isSome then .sl e' l' else .any
 | .own k' _ l' => if k' = k /\ l'.length = l.length then .own k e l.reverse else .any
 | _ => .any
def rvR (P : Program) (k : Nat) (e : TypeId) (l : List D) (m : Nat) : Res -> Option Res
 | .box t vs => some (.box t (vs.map (rvV P k e l)))
 | .tok e' n => if m = k then some (.tok e' n) else none
 | .bld _ _ _ => none
 | .blk _ => none
def Vst.rv {nn : Nat} (P : Program) (st : Vst nn) (k : Nat) (e : TypeId) (l : List D) : Vst nn:=⟨fun i => rvV P k e l (st.tm i),fun m => (st.rs m).bind (rvR P k e l m)⟩
section
variable {P : Program} {s : Sg} {w w' : World}
theorem find_mem {α : Type} {p : α -> Bool} {l : List α} {a : α} (h : l.find? p = some a) : ∃ j : Nat,l[j]? = some a /\ p a = true:=by
 have h1:=List.mem_of_find?_eq_some h
 obtain ⟨j,hj,rfl⟩:=List.getElem_of_mem h1
 exact ⟨j,List.getElem?_eq_getElem hj,List.find?_some h⟩
theorem flat_apart {k e : Nat} {q : Nat} {A : Option Addr} {l : List D} {F : Nat -> Nat -> Prop} {g : Nat} (h : SlF P w F k e A l) (hq : flatB P e = some q) (hg : ∀ o,F g o -> ∃ n,w.cell? ⟨g,o,none⟩ = some (.int .i64 n)) : SlF P w (fun b o => F b o /\ b ≠ g) k e A l:=fun hl hc => by
 obtain ⟨b,off,hA,hi⟩:=h hl hc
 unfold flatB at hq
 split at hq
 . rename_i fs hu
   split at hq
   . rename_i hall
     obtain ⟨f,hf,rfl⟩:=Option.map_eq_some_iff.1 hq
     obtain ⟨j,hj,hs⟩:=find_mem hf
     have hs:=isStrB_ok hs
     have hbg : b ≠ g:=by
      intro e1
      subst e1
      obtain ⟨ys,y1,y2,y3⟩:=hi 0 hl
      cases k with
      | zero => exact y3.elim
      | succ k =>
        unfold RepF at y3
        simp only [hu] at y3
        have h4:=y3.2 j f (by simpa using hj)
        cases k with
        | zero => exact h4.elim
        | succ k =>
          unfold RepF at h4
          simp only [hs] at h4
          have h5 : ys[f.offset]? = some (.string (((gD l 0).f j).s)):=by
           have h6 : ((ys.drop f.offset).take (P.cellsOf f.type))[0]? = some (.string (((gD l 0).f j).s)):=by rw [h4.1]; rfl
           rw [List.getElem?_take] at h6
           split at h6
           . rwa [List.getElem?_drop] at h6
           . cases h6
          obtain ⟨h7,h8⟩:=y2 _ _ h5
          obtain ⟨n,hn⟩:=hg _ h8
          rw [hn] at h7
          cases h7
     refine ⟨b,off,hA,fun i hil => ?_⟩
     obtain ⟨ys,y1,y2,y3⟩:=hi i hil
     refine ⟨ys,y1,fun j u hu => ⟨(y2 j u hu).1,(y2 j u hu).2,hbg⟩,?_⟩
     cases k with
     | zero => exact y3.elim
     | succ k =>
       unfold RepF at y3 |-
       simp only [hu] at y3 |-
       refine ⟨y3.1,fun j' f' hf' => ?_⟩
       have h4:=y3.2 j' f' hf'
       have hm : f' ∈ fs.toList:=List.mem_of_getElem? (by simpa using hf')
       have h5:=(List.all_eq_true.1 hall) f' hm
       cases k with
       | zero => exact h4.elim
       | succ k =>
         unfold RepF at h4 |-
         split at h4 <;> rename_i hu' <;> simp only [hu'] at h5 |- <;> first | exact h4 | (simp at h5; done) | trivial
   . cases hq
 . cases hq
end
section
variable {X : Cx} {nn : Nat} {st : Vst nn} {o : Oper} {ops : Array Oper} {rest : List Oper} {d : Option Tmp} {KK : Vst nn -> Prop}
theorem cells_int (k : Nat) (q : IntKind) {P : Program} {w : World} {F : Nat -> Nat -> Prop} {e : TypeId} {ys : List Value} {x : D} (hu : P.underlying e = some (.int q)) (h : RepF P w F k e ys x) : ys = [.int q x.n] /\ (Lit.int q x.n).wf = true:=by
 cases k with
 | zero => exact h.elim
 | succ k => unfold RepF at h; simp only [hu] at h; exact h
theorem gD_reverse {l : List D} {i : Nat} (h : i < l.length) : gD l.reverse i = gD l (l.length - 1 - i):=by
 rw [zBr (by simpa using h),zBr (by omega),List.getElem_reverse]
theorem zHj {P : Program} {s s' : Sg} {w w' : World} {f : V -> V} (h : ∀ v x,rel P s w v x -> rel P s' w' (f v) x) : ∀ (vs : List V) (us : List Value),relL P s w vs us -> relL P s' w' (vs.map f) us
 | [],[],_ => by simp [relL]
 | [],_ :: _,hh => by simp [relL] at hh
 | _ :: _,[],hh => by simp [relL] at hh
 | v :: vs,u :: us,hh => by
   rw [relL] at hh
   rw [List.map_cons,relL]
   exact ⟨h v u hh.1,zHj h vs us hh.2⟩
theorem rv_inv {k : Nat} {e : TypeId} {l : List D} {s s' : Sg} {w w' : World} {a : Act} {u : Value} (hX : ∀ b o,X.s0.F b o -> b < X.w0.heap.size /\ ¬ X.pas b) (hI : Inv X st s w a) (g : Nat -> Prop) (hg : ∀ b,g b -> s.tb k = some b)
 (hr : st.rs k = some (.tok e l.length)) (hu : u = (s.tk k).1) (hsame : ∀ b,¬ g b -> w'.heap[b]? = w.heap[b]?) (hfr : Frm g w w') (hgF : ∀ b o,g b -> s.F b o -> ∃ n,w.cell? ⟨b,o,none⟩ = some (.int .i64 n))
 (hbx : s'.bx = s.bx) (htb : s'.tb = s.tb) (htk : s'.tk = s.tk) (hF1 : ∀ b o,¬ g b -> (s'.F b o ↔ s.F b o)) (hF2 : ∀ b o,s'.F b o -> (w'.cell? ⟨b,o,none⟩).isSome) (htok : Holds X.P s' w' k (.tok e l.length)) (hsl : SlV X.P w' s'.F e l.reverse u) :
 Inv X (st.rv X.P k e l) s' w' a:=by
 have hgb : ∀ b,g b -> X.w0.heap.size <= b \/ X.pas b:=fun b hb => hI.mem.bs k _ b hr (hg b hb)
 have hkeep : Keeps (fun b o => s.F b o /\ ¬ g b) s'.F w w':=fun b o hb => ⟨World.cell?_of_block (w:=w) (hsame b hb.2),(hF1 b o hb.2).2 hb.1⟩
 have hone : ∀ b b',g b -> g b' -> b = b':=fun b b' h h' => by have:=(hg b h).symm.trans (hg b' h'); cases this; rfl
 have hrel : ∀ v x,rel X.P s w v x -> rel X.P s' w' (rvV X.P k e l v) x:=fun v x h => by
  cases v with
  | c y => simpa [rvV,rel] using h
  | bx n o => simp only [rvV]; rw [rel] at h |-; rw [hbx]; exact h
  | sl e' l' =>
    simp only [rvV]
    split
    . rename_i hf
      obtain ⟨q,hq⟩:=Option.isSome_iff_exists.1 hf
      rw [rel] at h |-
      obtain ⟨k',A,c,h1,h2,h3,h4,h5⟩:=h
      refine ⟨k',A,c,h1,h2,h3,h4,?_⟩
      by_cases hgx : ∃ b,g b
      . obtain ⟨b,hb⟩:=hgx
        have h6:=flat_apart h5 hq (g:=b) fun o ho => hgF b o hb ho
        exact h6.turn fun b' o' hb' => hkeep b' o' ⟨hb'.1,fun hc => hb'.2 (hone _ _ hc hb)⟩
      . exact h5.turn fun b' o' hb' => hkeep b' o' ⟨hb',fun hc => hgx ⟨_,hc⟩⟩
    . simp [rel]
  | own k' e' l' =>
    simp only [rvV]
    split
    . rename_i hc
      obtain ⟨rfl,hc⟩:=hc
      rw [rel] at h |-
      obtain ⟨h1,h2,h3⟩:=h
      have ht:=(hI.mem.ho k' _ hr).1
      have hx : x = u:=by rw [hu]; exact h3 (by omega)
      subst hx
      refine ⟨hsl,?_,?_⟩ <;> rw [htk,List.length_reverse]
      . omega
      . intro _; exact hu
    . simp [rel]
  | _ => simp [rvV,rel]
 have hget : ∀ m ρ',(st.rv X.P k e l).rs m = some ρ' -> ∃ ρ,st.rs m = some ρ /\ rvR X.P k e l m ρ = some ρ' /\ s'.bk m ρ' = s.bk m ρ:=fun m ρ' h => by
  obtain ⟨ρ,h1,h2⟩:=Option.bind_eq_some_iff.1 h
  refine ⟨ρ,h1,h2,?_⟩
  cases ρ with
  | box t vs => simp only [rvR,Option.some.injEq] at h2; subst h2; funext x; simp [Sg.bk,hbx]
  | tok e' n => simp only [rvR] at h2; split at h2 <;> cases h2; funext x; simp [Sg.bk,htb]
  | bld _ _ _ => simp [rvR] at h2
  | blk _ => simp [rvR] at h2
 refine ⟨hI.sz,fun i hi => hrel _ _ (hI.tm i hi),hI.df,hI.fr.trans hfr hgb,?_,?_,⟨hF2,?_,?_,?_⟩,?_⟩
 . intro b o hb
   have h1:=hX b o hb
   have hng : ¬ g b:=fun hgb' => (hgb b hgb').elim (fun h => by omega) h1.2
   have h2:=hI.kp b o hb
   exact ⟨(World.cell?_of_block (w:=w) (hsame b hng)).trans h2.1,(hF1 b o hng).2 h2.2⟩
 . intro b o hb hnp hF
   have hng : ¬ g b:=fun hgb' => (hgb b hgb').elim (fun h => by omega) hnp
   exact hI.nf b o hb hnp ((hF1 b o hng).1 hF)
 . intro m ρ' hm
   obtain ⟨ρ,h1,h2,-⟩:=hget m ρ' hm
   cases ρ with
   | box t vs =>
     simp only [rvR,Option.some.injEq] at h2
     subst h2
     obtain ⟨b,cs,q1,q2,q3,q4⟩:=hI.mem.ho m _ h1
     have hng : ¬ g b:=fun hgb' => by
      have:=hI.mem.dj m k _ _ b h1 hr q1 (hg b hgb')
      subst this
      rw [h1] at hr; cases hr
     exact ⟨b,cs,by rw [hbx]; exact q1,(hsame b hng).trans q2,zHj hrel _ _ q3,fun o ho => q4 o ((hF1 b o hng).1 ho)⟩
   | tok e' n =>
     simp only [rvR] at h2
     split at h2
     . rename_i hmk; subst hmk; cases h2; rw [h1] at hr; cases hr; exact htok
     . cases h2
   | bld _ _ _ => simp [rvR] at h2
   | blk _ => simp [rvR] at h2
 . intro m ρ' b hm hb
   obtain ⟨ρ,h1,-,h3⟩:=hget m ρ' hm
   exact hI.mem.bs m ρ b h1 (by rw [<- h3]; exact hb)
 . intro m m' ρ ρ' b hm hm' hb hb'
   obtain ⟨ρ1,h1,-,h3⟩:=hget m ρ hm
   obtain ⟨ρ2,h4,-,h5⟩:=hget m' ρ' hm'
   exact hI.mem.dj m m' ρ1 ρ2 b h1 h4 (by rw [<- h3]; exact hb) (by rw [<- h5]; exact hb')
 . intro i
   have:=hI.pe i
   rw [hbx,htk]; exact this
theorem opOk_rev {K : Vst nn -> Prop} {k : Nat} {e : TypeId} {l : List D} (hX : ∀ b o,X.s0.F b o -> b < X.w0.heap.size /\ ¬ X.pas b) (hP : X.P = Tryz.prog) (he : X.P.underlying e = some (.int .i64)) (hec : X.P.cellsOf e = 1) (h : act1 X.P st.rs (ev st) o.op = .call 184 [.own k e l])
 (hr : st.rs k = some (.tok e l.length)) (hl : l.length <= 1000000000) (hK : K ((st.rv X.P k e l).put o.dst (.tup []))) : OpOk X o st K:=by
 intro s w a hI N Q hPQ hN
 obtain ⟨us,h1,h2⟩:=zDr h hI.ev (fun _ => rfl)
 obtain ⟨u,rfl,h3⟩:=zG1 h2
 rw [rel] at h3
 obtain ⟨h4,h5,h6⟩:=h3
 obtain ⟨t1,t2⟩:=hI.mem.ho k _ hr
 have hu : u = (s.tk k).1:=h6 t1.symm
 unfold Oper.wp
 rw [h1,Oper.upon_enter]
 obtain ⟨k0,A,c,hua,q2,q3,q4,q5⟩:=h4
 rw [hP]
 have htup : ∀ s' w',rel X.P s' w' (.tup []) (.tuple #[]):=fun s' w' => by rw [rel]; exact ⟨#[],rfl,by simp [relL]⟩
 by_cases hl0 : l.length = 0
 . have hcall:=Tryz.slices_Reverse_int_empty A c w
   rw [hua,hl0]
   refine hcall.mono ?_
   rintro _ w' ⟨rfl,rfl⟩
   have hnil : l = []:=List.eq_nil_of_length_eq_zero hl0
   refine hN _ s w' _ ((rv_inv hX hI (fun _ => False) (fun _ h => h.elim) hr hu (fun _ _ => rfl) (Frm.refl _ _) (fun _ _ h => h.elim) rfl rfl rfl (fun _ _ _ => Iff.rfl) hI.mem.fx (hI.mem.ho k _ hr) ?_).put o.dst (htup _ _)) hK
   refine ⟨k0,A,c,?_,?_,q3,q4,fun h => ?_⟩
   . rw [hua,List.length_reverse]
   . rw [List.length_reverse]; exact q2
   . rw [List.length_reverse] at h; omega
 . rcases t2 with ⟨-,-,t3⟩ | ⟨g,c',cur,t3,t4,t5,t6,t7,t8,t9⟩
   . exact (hl0 t3).elim
   . rw [hu,t4] at hua
     injection hua with e1 e2 e3
     subst e3
     obtain ⟨b,off,e4,hat⟩:=q5 (by omega) (by rw [hec]; omega)
     rw [e4] at e1
     injection e1 with e1
     injection e1 with e5 e6
     subst e5 e6
     have hcell : ∀ i,i < l.length -> w.cell? ⟨g,i,none⟩ = some (.int .i64 (gD l i).n) /\ (Lit.int .i64 (gD l i).n).wf = true:=fun i hi => by
      obtain ⟨ys,y1,y2,y3⟩:=hat i hi
      obtain ⟨rfl,hw⟩:=cells_int _ _ he y3
      have:=(y2 0 _ rfl).1
      rw [hec] at this
      simp only [Nat.zero_add,Nat.mul_one,Nat.add_zero] at this
      exact ⟨this,hw⟩
     have hz : (l.map (·.n)).length = l.length:=List.length_map ..
     have hget : ∀ j,j < l.length -> (l.map (·.n)).getD j 0 = (gD l j).n:=fun j hj => by
      rw [List.getD_eq_getElem?_getD,List.getElem?_map,List.getElem?_eq_getElem hj,zBr hj]; rfl
     have hcall:=Tryz.slices_Reverse_int_cells g 0 l.length c' (l.map (·.n)) w (by rw [hz]; exact Nat.le_refl _) (by omega) (fun j hj => by rw [hz] at hj; rw [Nat.zero_add,hget j hj]; exact (hcell j hj).1) (fun j hj => Lib.frozen_of_heap t5 _)
     rw [hu,t4]
     refine hcall.mono ?_
     rintro _ w' ⟨rfl,q,rfl⟩
     have hvs : ((l.map (·.n)).take l.length).reverse.map (Value.int .i64) = l.reverse.map fun x => Value.int .i64 x.n:=by
      rw [List.take_of_length_le (by rw [hz]; exact Nat.le_refl _),<- List.map_reverse,List.map_map]; rfl
     rw [hvs]
     have hlen : (l.reverse.map fun x => Value.int .i64 x.n).length = l.length:=by simp
     have hoth : ∀ (vs : List Value) (o : Nat) (w : World) (k : Nat),k ≠ g -> (w.setCells g o vs).heap[k]? = w.heap[k]?:=fun vs => by
      induction vs with
      | nil => intro _ _ _ _; rfl
      | cons v r ih => intro o w k hk; rw [World.setCells,ih _ _ _ hk,heap_setCell_other _ _ _ _ hk]
     have hrow : ∀ (vs : List Value) (o : Nat) (w : World) (cur : Array Value),w.heap[g]? = some (.cells cur e (0,0)) -> ∃ cur',(w.setCells g o vs).heap[g]? = some (.cells cur' e (0,0)) /\ cur'.size = cur.size:=fun vs => by
      induction vs with
      | nil => intro _ _ cur h; exact ⟨cur,h,rfl⟩
      | cons v r ih =>
        intro o w cur h
        obtain ⟨cur',h1,h2⟩:=ih (o + 1) _ _ (heap_setCell_same w g o cur e v h)
        exact ⟨cur',h1,by rw [h2]; simp⟩
     have hrest : ∀ (vs : List Value) (o : Nat) (w : World),(w.setCells g o vs).os = w.os /\ (w.setCells g o vs).tape = w.tape /\ (w.setCells g o vs).output = w.output /\ (w.setCells g o vs).heap.size = w.heap.size:=fun vs => by
      induction vs with
      | nil => intro _ _; exact ⟨rfl,rfl,rfl,rfl⟩
      | cons v r ih =>
        intro o w
        obtain ⟨h1,h2,h3,h4⟩:=ih (o + 1) (w.setCell ⟨g,o,none⟩ v)
        exact ⟨h1,h2,h3,by rw [World.setCells,h4]; simp [World.setCell]⟩
     have t5' : (w.drewN q).heap[g]? = some (.cells cur e (0,0)):=t5
     obtain ⟨cur',r1,r2⟩:=hrow (l.reverse.map fun x => Value.int .i64 x.n) 0 (w.drewN q) cur t5'
     obtain ⟨z1,z2,z3,z4⟩:=hrest (l.reverse.map fun x => Value.int .i64 x.n) 0 (w.drewN q)
     have hin:=World.cell?_setCells_in g (l.reverse.map fun x => Value.int .i64 x.n) 0 (w.drewN q) (fun j hj => by
      rw [hlen] at hj
      have : (w.drewN q).cell? ⟨g,0 + j,none⟩ = w.cell? ⟨g,j,none⟩:=by rw [Nat.zero_add]; rfl
      rw [this,(hcell j hj).1]; rfl)
     have hin2 : ∀ i,i < l.length -> ((w.drewN q).setCells g 0 (l.reverse.map fun x => Value.int .i64 x.n)).cell? ⟨g,i,none⟩ = some (.int .i64 (gD l.reverse i).n):=fun i hi => by
      have:=hin i (by rw [hlen]; exact hi)
      rw [Nat.zero_add] at this
      rw [this,List.getElem_map,zBr (by simpa using hi)]
     have hother : ∀ b,¬ b = g -> ((w.drewN q).setCells g 0 (l.reverse.map fun x => Value.int .i64 x.n)).heap[b]? = w.heap[b]?:=fun b hb => hoth _ _ _ _ hb
     generalize (w.drewN q).setCells g 0 (l.reverse.map fun x => Value.int .i64 x.n) = w' at *
     have hF : ∀ b o,¬ b = g -> ((if b = g then o < l.length else s.F b o) ↔ s.F b o):=fun b o hb => by rw [if_neg hb]
     refine hN _ { s with F:=fun b o => if b = g then o < l.length else s.F b o } w' _ ((rv_inv (s':={ s with F:=fun b o => if b = g then o < l.length else s.F b o }) (w':=w') hX hI (fun b => b = g) (fun b hb => by rw [hb]; exact t3) hr hu hother ⟨z1,z2,z3,by rw [z4]; exact Nat.le_refl _,fun k _ hk => hother k hk⟩ ?_ rfl rfl rfl hF ?_ ?_ ?_).put o.dst (htup _ _)) hK
     . rintro b oo rfl hFo
       have hlt : oo < l.length:=by
        rcases Nat.lt_or_ge oo l.length with h | h
        . exact h
        . exact (t9 oo (by rw [hec]; omega) hFo).elim
       exact ⟨_,(hcell oo hlt).1⟩
     . intro b oo hb
       by_cases e7 : b = g
       . subst e7
         have hb : oo < l.length:=by simpa using hb
         rw [hin2 oo hb]; rfl
       . rw [World.cell?_of_block (w:=w) (hother b e7)]
         exact hI.mem.fx b oo ((hF b oo e7).1 hb)
     . refine ⟨t1,.inr ⟨g,c',cur',t3,t4,r1,t6,t7,by rw [r2]; exact t8,fun oo ho hb => ?_⟩⟩
       have hb : oo < l.length:=by simpa using hb
       rw [hec] at ho; omega
     . rw [hu,t4]
       refine ⟨1,some ⟨g,0,none⟩,c',by rw [List.length_reverse],by rw [List.length_reverse]; exact q2,q3,fun h => (by cases h),fun _ _ => ⟨g,0,rfl,fun i hi => ?_⟩⟩
       rw [List.length_reverse] at hi
       refine ⟨[.int .i64 (gD l.reverse i).n],by rw [hec]; rfl,fun j v hj => ?_,?_⟩
       . cases j with
         | zero =>
           simp only [List.getElem?_cons_zero,Option.some.injEq] at hj
           subst hj
           rw [hec]
           simp only [Nat.zero_add,Nat.mul_one,Nat.add_zero]
           exact ⟨hin2 i hi,by simpa using hi⟩
         | succ j => simp at hj
       . unfold RepF
         simp only [he]
         refine ⟨trivial,?_⟩
         rw [gD_reverse hi]
         exact (hcell _ (by omega)).2
theorem s_rev {k : Nat} {e : TypeId} {l : List D} (hX : ∀ b o,X.s0.F b o -> b < X.w0.heap.size /\ ¬ X.pas b) (hP : X.P = Tryz.prog) (he : X.P.underlying e = some (.int .i64)) (hec : X.P.cellsOf e = 1) (hg : o.guard = none) (hd : o.dst = d) (h : act1 X.P st.rs (ev st) o.op = .call 184 [.own k e l])
 (hr : st.rs k = some (.tok e l.length)) (hK : AWo X ops rest ((st.rv X.P k e l).put d (.tup [])) KK) (hl : l.length <= 1000000000) : AWo X ops (o :: rest) st KK:=
 zAO hg (opOk_rev hX hP he hec h hr hl (by rw [hd]; exact hK))
end
theorem ace_enter1 {e : Ge} {P : Program} {f : FuncId} {fn : Func} {c : Code} {args : List V} {tR : TypeId} {cs : List V} {out : Out} (nn : Nat) (hf : P.funcs[f]? = some fn) (hb : fn.body = some c) (hnn : args.length + (fn.ntmps - args.length) = nn)
 (h : ∀ pas s w he hp,(∀ b o,s.F b o -> b < w.heap.size /\ ¬ pas b) -> AW ⟨P,pas,s,w,e,he,hp,fun pv _ _ => out = .die pv,[]⟩ c (st0b nn args [.box tR cs]) (zGa P fn.results out)) : ACE e P f args [.box tR cs] out:=by
 have hI : ∀ (pas : Nat -> Prop) (s : Sg) (w : World) (us : Array Value) (he : e.E w) (hp : ∀ k,k < e.G -> ¬ pas k),relL P s w args us.toList -> MemOk P pas w.heap.size (rsOf [.box tR cs]) s w ->
  Inv ⟨P,pas,s,w,e,he,hp,fun pv _ _ => out = .die pv,[]⟩ (st0b nn args [.box tR cs]) s w { tmps:=us ++ Array.replicate (fn.ntmps - us.size) undef,defers:=[] }:=by
  intro pas s w us he hp hus hmem
  have hlen:=hus.length
  have hl2 : us.toList.length = us.size:=by simp
  refine ⟨by simp; omega,fun i hi => ?_,rfl,Frm.refl _ _,Keeps.refl,fun _ _ _ _ h => h,hmem,PE.refl _⟩
  show rel P s w (args.getD i .any) _
  by_cases hi2 : i < args.length
  . have h1 : args[i]? = some args[i]:=List.getElem?_eq_getElem hi2
    have hi3 : i < us.size:=by omega
    have h2 : us.toList[i]? = some us[i]:=by rw [Array.getElem?_toList]; exact Array.getElem?_eq_getElem hi3
    rw [List.getD_eq_getElem?_getD,h1]
    have : (us ++ Array.replicate (fn.ntmps - us.size) undef).getD i undef = us[i]:=by
     rw [Array.getD_eq_getD_getElem?,Array.getElem?_append_left hi3,Array.getElem?_eq_getElem hi3]; rfl
    rw [this]
    exact hus.get i _ _ h1 h2
  . rw [List.getD_eq_getElem?_getD,List.getElem?_eq_none (by omega)]
    simp [rel]
 -- only the box may turn
 have hnar : ∀ (pas : Nat -> Prop) (s : Sg) (w : World),MemOk P pas w.heap.size (rsOf [.box tR cs]) s w -> MemOk P (fun b => pas b /\ ∀ o,¬ s.F b o) w.heap.size (rsOf [.box tR cs]) s w:=fun pas s w hm => by
  refine ⟨hm.fx,hm.ho,fun n ρ b hn hb => ?_,hm.dj⟩
  refine (hm.bs n ρ b hn hb).imp id fun hp => ⟨hp,?_⟩
  obtain ⟨i,rfl,hi⟩:=zAZ hn
  cases i with
  | zero =>
    simp only [List.getElem?_cons_zero,Option.some.injEq] at hi
    subst hi
    obtain ⟨b',cs',h1,-,-,h4⟩:=hm.ho _ _ hn
    rw [show s.bx (pn 0) = some b from hb] at h1
    cases h1
    exact h4
  | succ i => simp at hi
 have hFX : ∀ (pas : Nat -> Prop) (s : Sg) (w : World),MemOk P pas w.heap.size (rsOf [.box tR cs]) s w -> ∀ b o,s.F b o -> b < w.heap.size /\ ¬ (pas b /\ ∀ o,¬ s.F b o):=fun pas s w hm b o hF => by
  obtain ⟨v,hv⟩:=Option.isSome_iff_exists.1 (hm.fx b o hF)
  exact ⟨block_lt_of_cell hv,fun hh => hh.2 o hF⟩
 have hwide : ∀ (pas : Nat -> Prop) (s : Sg) (w w' : World),Frm (fun b => pas b /\ ∀ o,¬ s.F b o) w w' -> Frm pas w w':=fun pas s w w' h => ⟨h.os,h.tape,h.output,h.size,fun k hk hp => h.block k hk fun hh => hp hh.1⟩
 cases out with
 | ret r bs' =>
   intro pas s w us hus hmem he hp
   have hmem':=hnar pas s w hmem
   have hp' : ∀ k,k < e.G -> ¬ (pas k /\ ∀ o,¬ s.F k o):=fun k hk hh => hp k hk hh.1
   refine calls_of_wp hf hb (Code.wp_mono (fun en a' w' ⟨st',s',hI',hK⟩ => ?_) (h _ s w he hp' (hFX pas s w hmem) s w _ (hI _ s w us he hp' hus hmem')))
   have fin : (∃ r' bs2,Out.ret r bs' = .ret r' bs2 /\ retV P st' fn.results.toList r' /\ zDO st' 0 bs2) -> a'.defers = [] /\ ∃ v,(results fn a'.tmps).run P w' = .ok v w' /\ ∃ v' s2,Ending.returned v = .returned v' /\ Frm pas w w' /\ Keeps s.F s2.F w w' /\ (∀ b o,b < w.heap.size -> ¬ pas b -> s2.F b o -> s.F b o) /\ MemOk P pas w.heap.size (rsOf bs') s2 w' /\ PE s s2 /\ rel P s2 w' r v':=fun ⟨r',bs2,e1,hv,hh⟩ => by
    cases e1
    obtain ⟨u,h1,h2⟩:=zD8 (X:=⟨P,fun b => pas b /\ ∀ o,¬ s.F b o,s,w,e,he,hp',fun pv _ _ => Out.ret r bs' = .die pv,[]⟩) hv hI'
    have hm2 : MemOk P (fun b => pas b /\ ∀ o,¬ s.F b o) w.heap.size (rsOf bs') s' w':=hI'.mem.sub fun n ρ hn => by
     obtain ⟨i,rfl,hi⟩:=zAZ hn
     have:=zC2 hh i ρ hi
     rwa [Nat.zero_add] at this
    refine ⟨hI'.df,u,h1,u,s',rfl,hwide _ _ _ _ hI'.fr,hI'.kp,fun b o hb' hnp hF => hI'.nf b o hb' (fun hh => hnp hh.1) hF,⟨hm2.fx,hm2.ho,fun n ρ b hn hb => (hm2.bs n ρ b hn hb).imp id fun hh => hh.1,hm2.dj⟩,hI'.pe,h2⟩
   rcases hK with hK | ⟨_,_,hK⟩
   . cases en
     case normal => exact fin hK
     case ret => exact fin hK
     all_goals exact hK.elim
   . cases hK
 | die pv =>
   intro pas s w us hus hmem he hp
   have hmem':=hnar pas s w hmem
   have hp' : ∀ k,k < e.G -> ¬ (pas k /\ ∀ o,¬ s.F k o):=fun k hk hh => hp k hk hh.1
   refine calls_of_wp hf hb (Code.wp_mono (fun en a' w' ⟨st',s',hI',hK⟩ => ?_) (h _ s w he hp' (hFX pas s w hmem) s w _ (hI _ s w us he hp' hus hmem')))
   rcases hK with hK | ⟨pv',rfl,hK⟩
   . cases en
     case normal => obtain ⟨_,_,e1,_⟩:=hK; cases e1
     case ret => obtain ⟨_,_,e1,_⟩:=hK; cases e1
     all_goals exact hK.elim
   . cases hK
     exact ⟨hI'.df,rfl,s'.F,hwide _ _ _ _ hI'.fr,hI'.kp,fun b o hb' hnp hF => hI'.nf b o hb' (fun hh => hnp hh.1) hF,hI'.mem.fx⟩
end Go.Proofs.YtdlnnlglmifceaaGreatDoor
namespace Go.Proofs.YtdlnnlglmifceaaGreatDoor
open Go.RowKit
attribute [local irreducible] wpList Calls Code.wp AW AWo OpOk seqK zAP zAR loopK endK AC zy Yld Sub
attribute [local irreducible] ACB ACX ACE absLexG YldG
theorem zC4 : zAS Tryz.prog 38 = some (3,8):=by kernel_rfl
theorem zAv {x : PS} (h : En x) (s : List UInt8) : ACB EN5 Tryz.prog 76 [.bx (pn 0) 0,.c (.string (bs s))] [boxP x] (.c (.bool (isS x s))) [boxP x]:=by
 obtain ⟨t,r,ht⟩:=h.cons
 exact zHd x t r ht s
theorem zBC {x : PS} (h : En x) : ACB EN5 Tryz.prog 80 [.bx (pn 0) 0] [boxP x] (.agg (tokC (hdT x))) [boxP (nxT x)]:=by
 obtain ⟨t,r,ht⟩:=h.cons
 rw [zAu ht]
 exact zFe x t r ht
theorem zEq {x : PS} (h : En x) (s : List UInt8) : ACE EN5 Tryz.prog 116 [.bx (pn 0) 0,.c (.string (bs s))] [boxP x] (outQ (fun _ => .agg (tokC (hdT x))) (takeQ s x)):=by
 obtain ⟨t,r,ht⟩:=h.cons
 rw [zAu ht]
 exact take_ace x t r ht s
theorem zCH {x : PS} (h : En x) : ACE EN5 Tryz.prog 118 [.bx (pn 0) 0] [boxP x] (outQ (fun n => .c (.string (bs n))) (nameQ x)):=by
 obtain ⟨t,r,ht⟩:=h.cons
 exact name_ace x t r ht
theorem zDL {x : PS} (h : En x) (n most : Nat) : ACE EN5 Tryz.prog 78 [.bx (pn 0) 0,.c (.int .i64 n),.c (.int .i64 most)] [boxP x] (outQ (fun _ => .tup []) (limQ n most x)):=by
 obtain ⟨t,r,ht⟩:=h.cons
 exact limit_ace x t r ht n most
noncomputable def HiO (y : PS) (n : Nat) : Vst 38:=
 stS 38 [(0,.bx (pn 0) 0),(2,.bx 2 0),(3,.bx 3 0),(4,.c (.int .i64 (n : Int)))] [(pn 0,boxP y),(2,.box 59 [.c (.string ⟨#[]⟩),.c (.slice none 0 0)]),(3,.box 59 [.c (.string ⟨#[]⟩),.c (.slice none 0 0)])]
noncomputable def HiC (y : PS) (nm : List UInt8) (n : Nat) (w : List Int) : Vst 38:=
 stS 38 [(0,.bx (pn 0) 0),(2,.bx 2 0),(3,.bx 3 0),(4,.c (.int .i64 (n : Int)))] [(pn 0,boxP y),(2,.box 59 [.c (.string ⟨#[]⟩),.c (.slice none 0 0)]),(3,.box 59 [.c (.string (bs nm)),.own 900 3 ((w.map D.int).reverse)]),(900,.tok 3 ((w.map D.int).reverse).length)]
noncomputable def HiE (y : PS) (nm : List UInt8) (w : List Int) : Vst 38:=
 stS 38 [(0,.bx (pn 0) 0),(2,.bx 2 0),(3,.bx 3 0)] [(pn 0,boxP y),(2,.box 59 [.c (.string ⟨#[]⟩),.c (.slice none 0 0)]),(3,.box 59 [.c (.string (bs nm)),.own 900 3 (w.map D.int)])]
theorem flat_tok : (flatB Tryz.prog 134).isSome = true:=by kernel_rfl
theorem inner_ace (x : PS) (h : En x) (hlen : x.ts.length <= 100000) : ACE EN5 Tryz.prog 154 [.bx (pn 0) 0] [boxP x] (outQ (fun t => .agg [.c (.string (bs t.1)),.sl 3 (t.2.map D.int)]) (innerQ x)):=by
 refine ace_enter1 (fn:=Tryz.f154) 38 Tryz.func154 rfl rfl ?_
 intro pas w0 w he hp hX
 have hs:=zAv h [91]
 repeat' (first
|refine zA ?_
|refine zI ?_
|refine zb ?_
|refine zU ?_
|refine za ?_
|apply aw_1
 conv => whnf
 refine ⟨?_,trivial⟩
|apply s_1
 conv => whnf; arg 1; arg 4; arg 3; whnf
 refine ⟨?_,?_⟩
|apply zt rfl
 . conv => lhs; whnf
 . conv => lhs; whnf; arg 2; whnf
|apply zd rfl
 . conv => lhs; whnf
 . conv => lhs; whnf
 . first | fail
|apply zAA rfl rfl rfl rfl
 . conv => lhs; whnf; arg 1; whnf
 . rfl
|apply zr rfl rfl rfl
 . conv => lhs; whnf
 . conv => lhs; whnf; arg 1; whnf
 . conv => lhs; whnf; arg 1; whnf
 . exact ⟨by kernel_rfl,by kernel_rfl⟩
 . rfl
|apply zBK rfl rfl
 . conv => lhs; whnf
 . first | (conv => lhs; whnf; arg 1; whnf)
 . first | exact fun _ => rfl | (intro _; kernel_rfl)
 . conv => lhs; whnf
 . conv => lhs; whnf; arg 1; whnf
 . conv => lhs; whnf
|apply zAJ rfl rfl rfl rfl
 . first | (conv => lhs; whnf; arg 1; whnf)
 . first | exact fun _ => rfl | (intro _; kernel_rfl)
 . conv => lhs; whnf
 . conv => lhs; whnf
|apply zAr rfl rfl
 . conv => lhs; whnf
 . first | (conv => lhs; whnf; arg 1; whnf)
|apply zAn rfl rfl
 . conv => lhs; whnf
 . first | (conv => lhs; whnf; arg 1; whnf)
 . conv => lhs; whnf; arg 1; whnf
 . rfl
 . rfl
|apply zAc rfl rfl
 . conv => lhs; whnf
 . first | (conv => lhs; whnf; arg 1; whnf)
 . first | exact fun _ => rfl | (intro _; kernel_rfl)
 . conv => lhs; whnf
 . conv => lhs; whnf
|apply zN
 . conv => lhs; whnf; arg 1; arg 1; whnf
|apply zO
 . conv => lhs; whnf; arg 1; arg 1; whnf
|refine zT (by conv => lhs; whnf) ?_ ?_ <;> intro hb
|refine zj ?_
|refine zZ ?_
|refine zG ?_
|refine zK ?_
|refine zC ?_
|refine zB rfl ?_
|refine zE rfl ?_
|refine zF ?_
|refine zJ ?_
|refine zD ?_
|refine zL ?_
|apply zAB rfl
 . conv => lhs; whnf; arg 2; whnf
 . conv => lhs; whnf; arg 1; whnf
|apply zAN rfl
 . conv => lhs; whnf; arg 1; whnf
|apply zAE rfl
 . conv => lhs; whnf; arg 2; whnf
 . conv => lhs; whnf; arg 1; whnf
|apply zAF rfl
 . conv => lhs; whnf; arg 1; whnf
|refine ⟨_,by conv => lhs; whnf; arg 2; whnf,?_⟩; conv => rhs; whnf
|exact trivial
|intro hg)
 refine z7 (fun j st => ∃ y n,En y /\ y.ts.length <= j /\ n + y.ts.length <= x.ts.length /\ openQ x.ts.length x = ((openQ j y).1 + n,(openQ j y).2) /\ Sub (cxE EN5 Tryz.prog pas w0 w he hp (outQ (fun t => V.agg [.c (.string (bs t.1)),.sl 3 (t.2.map D.int)]) (innerQ x))) st (HiO y n)) x.ts.length ⟨x,0,h,Nat.le_refl _,by omega,rfl,?_⟩ ?_
 . exact Sub.live ⟨rfl,rfl,rfl,rfl,trivial⟩ ⟨rfl,rfl,rfl,trivial⟩
 rintro j st ⟨y,n,hy,hyj,hyl,hO,hsub⟩
 refine z8 hsub ?_
 have hs:=zAv hy [91]
 have hn:=zBC hy
 have hnm:=zCH hy
 clear hsub
 obtain ⟨t0,r0,ht0⟩:=hy.cons
 cases j with
 | zero => rw [ht0] at hyj; simp at hyj
 | succ j =>
 repeat' (first
|apply s_m zv zY rfl
 . conv => lhs; whnf
 . conv => lhs; whnf
 . rfl
 . conv => lhs; whnf; arg 1; whnf
 . first | exact zAD _
 . first | exact hs | exact hn
 . exact fun _ => rfl
 . exact fun _ => rfl
|apply s_pr zv zY rfl
 . conv => lhs; whnf
 . conv => lhs; whnf
 . rfl
 . conv => lhs; whnf; arg 1; whnf
 . first | exact zAD _
 . first | exact hnm
 . exact fun _ => rfl
 . first | (intro _ _; simp only [renL,renV,ren_cells]; done) | exact fun _ _ => rfl
 refine fun ee hq => ?_
 change _ = Out.die _
 rotate_left 1
 refine fun aa xx hq => ?_
 first | (replace hq:=zAp hq; obtain ⟨hq,rfl⟩:=hq) | (cases hq; have hq:=True.intro) | skip
|refine zA ?_
|refine zI ?_
|refine zb ?_
|refine zU ?_
|refine za ?_
|apply aw_1
 conv => whnf
 refine ⟨?_,trivial⟩
|apply s_1
 conv => whnf; arg 1; arg 4; arg 3; whnf
 refine ⟨?_,?_⟩
|apply zt rfl
 . conv => lhs; whnf
 . conv => lhs; whnf; arg 2; whnf
|apply zd rfl
 . conv => lhs; whnf
 . conv => lhs; whnf
 . first | fail
|apply zAA rfl rfl rfl rfl
 . conv => lhs; whnf; arg 1; whnf
 . rfl
|apply zr rfl rfl rfl
 . conv => lhs; whnf
 . conv => lhs; whnf; arg 1; whnf
 . conv => lhs; whnf; arg 1; whnf
 . exact ⟨by kernel_rfl,by kernel_rfl⟩
 . rfl
|apply zBK rfl rfl
 . conv => lhs; whnf
 . first | (conv => lhs; whnf; arg 1; whnf)
 . first | exact fun _ => rfl | (intro _; kernel_rfl)
 . conv => lhs; whnf
 . conv => lhs; whnf; arg 1; whnf
 . conv => lhs; whnf
|apply zAJ rfl rfl rfl rfl
 . first | (conv => lhs; whnf; arg 1; whnf)
 . first | exact fun _ => rfl | (intro _; kernel_rfl)
 . conv => lhs; whnf
 . conv => lhs; whnf
|apply zAr rfl rfl
 . conv => lhs; whnf
 . first | (conv => lhs; whnf; arg 1; whnf)
|apply zAn rfl rfl
 . conv => lhs; whnf
 . first | (conv => lhs; whnf; arg 1; whnf)
 . conv => lhs; whnf; arg 1; whnf
 . rfl
 . rfl
|apply zAc rfl rfl
 . conv => lhs; whnf
 . first | (conv => lhs; whnf; arg 1; whnf)
 . first | exact fun _ => rfl | (intro _; kernel_rfl)
 . conv => lhs; whnf
 . conv => lhs; whnf
|apply zN
 . conv => lhs; whnf; arg 1; arg 1; whnf
|apply zO
 . conv => lhs; whnf; arg 1; arg 1; whnf
|refine zT (by conv => lhs; whnf) ?_ ?_ <;> intro hb
|refine zj ?_
|refine zZ ?_
|refine zG ?_
|refine zK ?_
|refine zC ?_
|refine zB rfl ?_
|refine zE rfl ?_
|refine zF ?_
|refine zJ ?_
|refine zD ?_
|refine zL ?_
|apply zAB rfl
 . conv => lhs; whnf; arg 2; whnf
 . conv => lhs; whnf; arg 1; whnf
|apply zAN rfl
 . conv => lhs; whnf; arg 1; whnf
|apply zAE rfl
 . conv => lhs; whnf; arg 2; whnf
 . conv => lhs; whnf; arg 1; whnf
|apply zAF rfl
 . conv => lhs; whnf; arg 1; whnf
|refine ⟨_,by conv => lhs; whnf; arg 2; whnf,?_⟩; conv => rhs; whnf
|exact trivial
|intro hg)
 . have hsg:=hy.sg hb
   refine zh (j':=j) (by omega) ⟨nxT y,n + 1,hsg.1,by omega,by omega,?_,Sub.live ⟨rfl,rfl,rfl,rfl,trivial⟩ ⟨rfl,rfl,rfl,trivial⟩⟩
   rw [hO,openQ,if_pos hb]
   show ((openQ j (nxT y)).1 + 1 + n,_) = ((openQ j (nxT y)).1 + (n + 1),_)
   rw [Nat.add_assoc,Nat.add_comm 1 n]
 . exact zo (by omega)
 . have hO2 : openQ x.ts.length x = (n,y):=by rw [hO,openQ,if_neg (by rw [hb]; decide)]; simp
   have hI : innerQ x = zw (closeQ n [] xx) fun w z => .ok ((aa,w),z):=by
    unfold innerQ
    rw [hO2]
    show zw (nameQ y) _ = _
    rw [hq]; rfl
   have hxx:=hy.name hq
   clear hs hn hnm hO hO2
   refine z8 (Sub.ownF (m:=3) (q:=900) (i:=1) (e:=3) rfl (by decide) rfl rfl rfl) ?_
   refine z7 (fun j st => ∃ z w',En z /\ w'.length + 2 * j <= 2 * n /\ innerQ x = zw (closeQ j w' z) (fun w u => .ok ((aa,w),u)) /\ Sub (cxE EN5 Tryz.prog pas w0 w he hp (outQ (fun t => V.agg [.c (.string (bs t.1)),.sl 3 (t.2.map D.int)]) (innerQ x))) st (HiC z aa j w')) n ⟨xx,[],hxx.1,by simp,hI,?_⟩ ?_
   . exact Sub.live ⟨rfl,rfl,rfl,rfl,trivial⟩ ⟨rfl,rfl,rfl,rfl,trivial⟩
   rintro j st ⟨z,w',hz,hwl,hI2,hsub⟩
   refine z8 hsub ?_
   clear hsub hI
   have hs:=zAv hz [33]
   have hn:=zBC hz
   obtain ⟨z2,hz2⟩ : ∃ z2,z2 = if isS z [33] = true then nxT z else z:=⟨_,rfl⟩
   obtain ⟨w2,hw2⟩ : ∃ w2,w2 = if isS z [33] = true then 1 :: w' else w':=⟨_,rfl⟩
   have hen2 : En z2:=by rw [hz2]; split <;> first | exact hz.nx0 | exact hz
   have hwl2 : w2.length <= w'.length + 1:=by rw [hw2]; split <;> simp
   have ht2:=zEq hen2 [93]
   repeat' (first
|apply s_m zv zY rfl
 . conv => lhs; whnf
 . conv => lhs; whnf
 . rfl
 . conv => lhs; whnf; arg 1; whnf
 . first | exact zAD _
 . first | exact hs | exact hn
 . exact fun _ => rfl
 . exact fun _ => rfl
|apply s_pr zv zY rfl
 . conv => lhs; whnf
 . conv => lhs; whnf
 . rfl
 . conv => lhs; whnf; arg 1; whnf
 . first | exact zAD _
 . first | exact ht2
 . exact fun _ => rfl
 . first | (intro _ _; simp only [renL,renV,ren_cells]; done) | exact fun _ _ => rfl
 refine fun ee hq => ?_
 change _ = Out.die _
 rotate_left 1
 refine fun aa xx hq => ?_
 first | (replace hq:=zAp hq; obtain ⟨hq,rfl⟩:=hq) | (cases hq; have hq:=True.intro) | skip
|apply zCZ 10 (HiC z2 aa j w2) rfl
|refine zi ?_
|refine zf ?_
|refine zAH ?_
|refine zA ?_
|refine zI ?_
|refine zb ?_
|refine zU ?_
|refine za ?_
|apply aw_1
 conv => whnf
 refine ⟨?_,trivial⟩
|apply s_1
 conv => whnf; arg 1; arg 4; arg 3; whnf
 refine ⟨?_,?_⟩
|apply zt rfl
 . conv => lhs; whnf
 . conv => lhs; whnf; arg 2; whnf
|apply zd rfl
 . conv => lhs; whnf
 . conv => lhs; whnf
 . first | fail
|apply zAA rfl rfl rfl rfl
 . conv => lhs; whnf; arg 1; whnf
 . rfl
|apply zr rfl rfl rfl
 . conv => lhs; whnf
 . conv => lhs; whnf; arg 1; whnf
 . conv => lhs; whnf; arg 1; whnf
 . exact ⟨by kernel_rfl,by kernel_rfl⟩
 . rfl
|apply zBK rfl rfl
 . conv => lhs; whnf
 . first | exact zC4 | (conv => lhs; whnf; arg 1; whnf)
 . first | exact fun _ => rfl | (intro _; kernel_rfl)
 . conv => lhs; whnf
 . conv => lhs; whnf; arg 1; whnf
 . conv => lhs; whnf
|apply zAJ rfl rfl rfl rfl
 . first | exact zC4 | (conv => lhs; whnf; arg 1; whnf)
 . first | exact fun _ => rfl | (intro _; kernel_rfl)
 . conv => lhs; whnf
 . conv => lhs; whnf
|apply zAr rfl rfl
 . conv => lhs; whnf
 . first | exact zC4 | (conv => lhs; whnf; arg 1; whnf)
|apply zAn rfl rfl
 . conv => lhs; whnf
 . first | exact zC4 | (conv => lhs; whnf; arg 1; whnf)
 . conv => lhs; whnf; arg 1; whnf
 . rfl
 . rfl
|apply zAc rfl rfl
 . conv => lhs; whnf
 . first | exact zC4 | (conv => lhs; whnf; arg 1; whnf)
 . first | exact fun _ => rfl | (intro _; kernel_rfl)
 . conv => lhs; whnf
 . conv => lhs; whnf
|apply zN
 . conv => lhs; whnf; arg 1; arg 1; whnf
|apply zO
 . conv => lhs; whnf; arg 1; arg 1; whnf
|refine zT (by conv => lhs; whnf) ?_ ?_ <;> intro hb
|refine zj ?_
|refine zZ ?_
|refine zG ?_
|refine zK ?_
|refine zC ?_
|refine zB rfl ?_
|refine zE rfl ?_
|refine zF ?_
|refine zJ ?_
|refine zD ?_
|refine zL ?_
|apply zAB rfl
 . conv => lhs; whnf; arg 2; whnf
 . conv => lhs; whnf; arg 1; whnf
|apply zAN rfl
 . conv => lhs; whnf; arg 1; whnf
|apply zAE rfl
 . conv => lhs; whnf; arg 2; whnf
 . conv => lhs; whnf; arg 1; whnf
|apply zAF rfl
 . conv => lhs; whnf; arg 1; whnf
|refine ⟨_,by conv => lhs; whnf; arg 2; whnf,?_⟩; conv => rhs; whnf
|exact trivial
|intro hg)
   . rw [hz2,hw2,if_pos hb,if_pos hb]
     refine Sub.live ⟨rfl,rfl,rfl,rfl,trivial⟩ ⟨rfl,rfl,?_,?_,trivial⟩
     . show some (Res.box _ [_,V.own 900 _ ((w'.map D.int).reverse ++ [D.int 1])]) = some (Res.box _ [_,V.own 900 _ (((1 :: w').map D.int).reverse)])
       rw [List.map_cons,List.reverse_cons]
     . show some (Res.tok _ ((w'.map D.int).reverse.length + 1)) = some (Res.tok _ (((1 :: w').map D.int).reverse).length)
       rw [List.map_cons,List.reverse_cons,List.length_append]; rfl
   . refine ⟨by simp,?_,?_⟩ <;> simp only [List.length_reverse,List.length_map,List.length_cons,List.length_nil,maxLen] <;> omega
   . have hb' : ¬ isS z [33] = true:=by rw [hb]; decide
     rw [hz2,hw2,if_neg hb',if_neg hb']
     exact Sub.live ⟨rfl,rfl,rfl,rfl,trivial⟩ ⟨rfl,rfl,rfl,rfl,trivial⟩
   . have hj : j = 0:=by simpa using hb
     subst hj
     have c0 : closeQ 0 w' z = .ok (w2,z2):=by unfold closeQ; rw [hz2,hw2]; split <;> rfl
     rw [c0] at hI2
     have hI3 : innerQ x = .ok ((aa,w2),z2):=hI2
     rw [hI3]
     refine s_rev (k:=900) (e:=3) (l:=(w2.map D.int).reverse) hX rfl (by kernel_rfl) (by kernel_rfl) rfl rfl rfl rfl ?_ (by simp; omega)
     refine awo_sub (st':=HiE z2 aa w2) (Sub.live ⟨rfl,rfl,rfl,trivial⟩ ⟨?_,rfl,?_,trivial⟩) ?_
     . show some (Res.box _ [if (flatB Tryz.prog 134).isSome then V.sl 134 (z2.ts.map tokD) else V.any,V.c (.bool z2.vr),V.c (.int .i64 (z2.nd : Int))]) = _
       rw [if_pos flat_tok]; rfl
     . show some (Res.box _ [V.c (.string (bs aa)),if 900 = 900 /\ ((w2.map D.int).reverse).length = ((w2.map D.int).reverse).length then V.own 900 _ ((w2.map D.int).reverse).reverse else V.any]) = _
       rw [if_pos ⟨rfl,rfl⟩,List.reverse_reverse]
     repeat' (first
|refine zA ?_
|refine zI ?_
|refine zb ?_
|refine zU ?_
|refine za ?_
|apply aw_1
 conv => whnf
 refine ⟨?_,trivial⟩
|apply s_1
 conv => whnf; arg 1; arg 4; arg 3; whnf
 refine ⟨?_,?_⟩
|apply zt rfl
 . conv => lhs; whnf
 . conv => lhs; whnf; arg 2; whnf
|apply zd rfl
 . conv => lhs; whnf
 . conv => lhs; whnf
 . first | fail
|apply zAA rfl rfl rfl rfl
 . conv => lhs; whnf; arg 1; whnf
 . rfl
|apply zr rfl rfl rfl
 . conv => lhs; whnf
 . conv => lhs; whnf; arg 1; whnf
 . conv => lhs; whnf; arg 1; whnf
 . exact ⟨by kernel_rfl,by kernel_rfl⟩
 . rfl
|apply zBK rfl rfl
 . conv => lhs; whnf
 . first | (conv => lhs; whnf; arg 1; whnf)
 . first | exact fun _ => rfl | (intro _; kernel_rfl)
 . conv => lhs; whnf
 . conv => lhs; whnf; arg 1; whnf
 . conv => lhs; whnf
|apply zAJ rfl rfl rfl rfl
 . first | (conv => lhs; whnf; arg 1; whnf)
 . first | exact fun _ => rfl | (intro _; kernel_rfl)
 . conv => lhs; whnf
 . conv => lhs; whnf
|apply zAr rfl rfl
 . conv => lhs; whnf
 . first | (conv => lhs; whnf; arg 1; whnf)
|apply zAn rfl rfl
 . conv => lhs; whnf
 . first | (conv => lhs; whnf; arg 1; whnf)
 . conv => lhs; whnf; arg 1; whnf
 . rfl
 . rfl
|apply zAc rfl rfl
 . conv => lhs; whnf
 . first | (conv => lhs; whnf; arg 1; whnf)
 . first | exact fun _ => rfl | (intro _; kernel_rfl)
 . conv => lhs; whnf
 . conv => lhs; whnf
|apply zN
 . conv => lhs; whnf; arg 1; arg 1; whnf
|apply zO
 . conv => lhs; whnf; arg 1; arg 1; whnf
|refine zT (by conv => lhs; whnf) ?_ ?_ <;> intro hb
|refine zj ?_
|refine zZ ?_
|refine zG ?_
|refine zK ?_
|refine zC ?_
|refine zB rfl ?_
|refine zE rfl ?_
|refine zF ?_
|refine zJ ?_
|refine zD ?_
|refine zL ?_
|apply zAB rfl
 . conv => lhs; whnf; arg 2; whnf
 . conv => lhs; whnf; arg 1; whnf
|apply zAN rfl
 . conv => lhs; whnf; arg 1; whnf
|apply zAE rfl
 . conv => lhs; whnf; arg 2; whnf
 . conv => lhs; whnf; arg 1; whnf
|apply zAF rfl
 . conv => lhs; whnf; arg 1; whnf
|refine ⟨_,by conv => lhs; whnf; arg 2; whnf,?_⟩; conv => rhs; whnf
|exact trivial
|intro hg)
     rfl
   . have hj : j ≠ 0:=by rintro rfl; simp at hb
     have c1 : closeQ j w' z = closeQ (j - 1) (2 :: w2) xx:=by
      obtain ⟨j',rfl⟩ : ∃ j',j = j' + 1:=⟨j - 1,by omega⟩
      rw [closeQ,<- hz2,<- hw2]
      show zw (takeQ [93] z2) _ = _
      rw [hq]; rfl
     refine zh (j':=j - 1) (by omega) ⟨xx,2 :: w2,(hen2.take hq).1,by simp only [List.length_cons]; omega,by rw [hI2,c1],Sub.live ⟨rfl,rfl,rfl,?_,trivial⟩ ⟨rfl,rfl,?_,?_,trivial⟩⟩
     . show V.c (.int .i64 ((j : Int) - 1)) = V.c (.int .i64 ((j - 1 : Nat) : Int))
       rw [show ((j - 1 : Nat) : Int) = (j : Int) - 1 by omega]
     . show some (Res.box _ [_,V.own 900 _ ((w2.map D.int).reverse ++ [D.int 2])]) = some (Res.box _ [_,V.own 900 _ (((2 :: w2).map D.int).reverse)])
       rw [List.map_cons,List.reverse_cons]
     . show some (Res.tok _ ((w2.map D.int).reverse.length + 1)) = some (Res.tok _ (((2 :: w2).map D.int).reverse).length)
       rw [List.map_cons,List.reverse_cons,List.length_append]; rfl
   . exact zo (by omega)
   . refine ⟨by simp,?_,?_⟩ <;> simp only [List.length_reverse,List.length_map,List.length_cons,List.length_nil,maxLen] <;> omega
   . have hj : j ≠ 0:=by rintro rfl; simp at hb
     have c1 : closeQ j w' z = .error ee:=by
      obtain ⟨j',rfl⟩ : ∃ j',j = j' + 1:=⟨j - 1,by omega⟩
      rw [closeQ,<- hz2,<- hw2]
      show zw (takeQ [93] z2) _ = _
      rw [hq]; rfl
     rw [hI2,c1]; rfl
 . have hO2 : openQ x.ts.length x = (n,y):=by rw [hO,openQ,if_neg (by rw [hb]; decide)]; simp
   have hI : innerQ x = .error ee:=by
    unfold innerQ
    rw [hO2]
    show zw (nameQ y) _ = _
    rw [hq]; rfl
   rw [hI]; rfl
theorem typ_ace (x : PS) (h : En x) (hlen : x.ts.length <= 100000) : ACE EN5 Tryz.prog 119 [.bx (pn 0) 0] [boxP x] (outQ (fun d => .agg (cellsV Tryz.prog 12 59 d)) (typQ x)):=by
 have hi:=inner_ace x h hlen
 obtain ⟨t,r,ht⟩:=h.cons
 have hf:=zA8 t 5
 have hh:=zAu ht
 obtain ⟨ts,vr,nd⟩:=x
 cases ht
 refine zAX (fn:=Tryz.f119) 20 Tryz.func119 rfl rfl ?_
 intro pas w0 w he hp
 repeat' (first
|apply s_pr zv zY rfl
 . conv => lhs; whnf
 . conv => lhs; whnf
 . rfl
 . conv => lhs; whnf; arg 1; whnf
 . first | exact zAD _
 . first | exact hi
 . exact fun _ => rfl
 . first | (intro _ _; simp only [renL,renV,ren_cells]; done) | exact fun _ _ => rfl
 refine fun ee hq => ?_
 change _ = Out.die _
 rotate_left 1
 refine fun aa xx hq => ?_
 first | (replace hq:=zAp hq; obtain ⟨hq,rfl⟩:=hq) | (cases hq; have hq:=True.intro) | skip
|apply zCE rfl
 . conv => lhs; whnf
 . first | exact hf
 . first | exact fun _ => rfl | (intro _; simp only [renL,renV,ren_cells])
 change _ = Out.die _
|refine zA ?_
|refine zI ?_
|refine zb ?_
|refine zU ?_
|refine za ?_
|apply aw_1
 conv => whnf
 refine ⟨?_,trivial⟩
|apply s_1
 conv => whnf; arg 1; arg 4; arg 3; whnf
 refine ⟨?_,?_⟩
|apply zt rfl
 . conv => lhs; whnf
 . conv => lhs; whnf; arg 2; whnf
|apply zd rfl
 . conv => lhs; whnf
 . conv => lhs; whnf
 . first | fail
|apply zAA rfl rfl rfl rfl
 . conv => lhs; whnf; arg 1; whnf
 . rfl
|apply zr rfl rfl rfl
 . conv => lhs; whnf
 . conv => lhs; whnf; arg 1; whnf
 . conv => lhs; whnf; arg 1; whnf
 . exact ⟨by kernel_rfl,by kernel_rfl⟩
 . rfl
|apply zN
 . conv => lhs; whnf; arg 1; arg 1; whnf
|apply zO
 . conv => lhs; whnf; arg 1; arg 1; whnf
|refine zT (by conv => lhs; whnf) ?_ ?_ <;> intro hb
|refine zj ?_
|refine zZ ?_
|refine zG ?_
|refine zK ?_
|refine zC ?_
|refine zB rfl ?_
|refine zE rfl ?_
|refine zF ?_
|refine zJ ?_
|refine zD ?_
|refine zL ?_
|apply zAB rfl
 . conv => lhs; whnf; arg 2; whnf
 . conv => lhs; whnf; arg 1; whnf
|apply zAN rfl
 . conv => lhs; whnf; arg 1; whnf
|apply zAE rfl
 . conv => lhs; whnf; arg 2; whnf
 . conv => lhs; whnf; arg 1; whnf
|apply zAF rfl
 . conv => lhs; whnf; arg 1; whnf
|refine ⟨_,by conv => lhs; whnf; arg 2; whnf,?_⟩; conv => rhs; whnf
|exact trivial
|intro hg)
 . have hb : 24 < aa.2.length:=by simp at hb; omega
   unfold typQ zw
   rw [hq,hh]
   dsimp only
   rw [if_pos hb]; rfl
 . have hb : ¬ 24 < aa.2.length:=by simp at hb; omega
   unfold typQ zw
   rw [hq]
   dsimp only
   rw [if_neg hb]; rfl
 . unfold typQ zw
   rw [hq]; rfl
 . exact zBf _ _
theorem zDG {s : List UInt8} {a : Array UInt8} (h : ((bs s).toList == (⟨a⟩ : ByteArray).toList) = true) : s = a.toList:=by
 rw [Lib.toList_data,Lib.toList_data,zA2] at h
 simpa using h
theorem zBO {s : List UInt8} {a : Array UInt8} (h : ((bs s).toList == (⟨a⟩ : ByteArray).toList) = false) : s ≠ a.toList:=by
 rw [Lib.toList_data,Lib.toList_data,zA2] at h
 simpa using h
noncomputable def VV (d : D) : V:=.agg (cellsV Tryz.prog 12 62 d)
theorem vInt_ac (n : Int) : AC EN5 Tryz.prog 140 [.c (.int .i64 n)] (VV (valD 2 n [] [] [])):=by
 refine zX 5 Tryz.func140 rfl rfl rfl rfl ?_
 intro s w he
 repeat' (first
|apply zA5 (VV (valD 2 n [] [] [])) rfl rfl
 . conv => lhs; whnf; arg 2; whnf
 . repeat' (first | exact VLe.refl _ | exact VLe.nil _ | exact VLe.lit _ _ | exact VLe.own _ _ _ | apply VLe.agg | apply VLeL.cons | exact VLeL.nil)
|refine zA ?_
|refine zI ?_
|refine zb ?_
|refine zU ?_
|refine za ?_
|apply aw_1
 conv => whnf
 refine ⟨?_,trivial⟩
|apply s_1
 conv => whnf; arg 1; arg 4; arg 3; whnf
 refine ⟨?_,?_⟩
|apply zt rfl
 . conv => lhs; whnf
 . conv => lhs; whnf; arg 2; whnf
|apply zAA rfl rfl rfl rfl
 . conv => lhs; whnf; arg 1; whnf
 . rfl
|apply zr rfl rfl rfl
 . conv => lhs; whnf
 . conv => lhs; whnf; arg 1; whnf
 . conv => lhs; whnf; arg 1; whnf
 . exact ⟨by kernel_rfl,by kernel_rfl⟩
 . rfl
|apply zN
 . conv => lhs; whnf; arg 1; arg 1; whnf
|apply zO
 . conv => lhs; whnf; arg 1; arg 1; whnf
|refine zT (by conv => lhs; whnf) ?_ ?_ <;> intro hb
|refine zj ?_
|refine zZ ?_
|refine zG ?_
|refine zK ?_
|refine zC ?_
|refine zB rfl ?_
|refine zE rfl ?_
|refine zF ?_
|refine zJ ?_
|refine zD ?_
|refine zL ?_
|refine z6 ?_
|refine zH ?_
|refine ⟨_,by conv => lhs; whnf; arg 2; whnf,?_⟩; conv => rhs; whnf
|exact trivial
|intro hg)
 rfl
theorem vText_ac (t : List UInt8) : AC EN5 Tryz.prog 105 [.c (.string (bs t))] (VV (valD 3 0 t [] [])):=by
 refine zX 5 Tryz.func105 rfl rfl rfl rfl ?_
 intro s w he
 repeat' (first
|apply zA5 (VV (valD 3 0 t [] [])) rfl rfl
 . conv => lhs; whnf; arg 2; whnf
 . repeat' (first | exact VLe.refl _ | exact VLe.nil _ | exact VLe.lit _ _ | exact VLe.own _ _ _ | apply VLe.agg | apply VLeL.cons | exact VLeL.nil)
|refine zA ?_
|refine zI ?_
|refine zb ?_
|refine zU ?_
|refine za ?_
|apply aw_1
 conv => whnf
 refine ⟨?_,trivial⟩
|apply s_1
 conv => whnf; arg 1; arg 4; arg 3; whnf
 refine ⟨?_,?_⟩
|apply zt rfl
 . conv => lhs; whnf
 . conv => lhs; whnf; arg 2; whnf
|apply zAA rfl rfl rfl rfl
 . conv => lhs; whnf; arg 1; whnf
 . rfl
|apply zr rfl rfl rfl
 . conv => lhs; whnf
 . conv => lhs; whnf; arg 1; whnf
 . conv => lhs; whnf; arg 1; whnf
 . exact ⟨by kernel_rfl,by kernel_rfl⟩
 . rfl
|apply zN
 . conv => lhs; whnf; arg 1; arg 1; whnf
|apply zO
 . conv => lhs; whnf; arg 1; arg 1; whnf
|refine zT (by conv => lhs; whnf) ?_ ?_ <;> intro hb
|refine zj ?_
|refine zZ ?_
|refine zG ?_
|refine zK ?_
|refine zC ?_
|refine zB rfl ?_
|refine zE rfl ?_
|refine zF ?_
|refine zJ ?_
|refine zD ?_
|refine zL ?_
|refine z6 ?_
|refine zH ?_
|refine ⟨_,by conv => lhs; whnf; arg 2; whnf,?_⟩; conv => rhs; whnf
|exact trivial
|intro hg)
 rfl
theorem vEnum_ac (t : List UInt8) : AC EN5 Tryz.prog 185 [.c (.string (bs t))] (VV (valD 4 0 t [] [])):=by
 refine zX 5 Tryz.func185 rfl rfl rfl rfl ?_
 intro s w he
 repeat' (first
|apply zA5 (VV (valD 4 0 t [] [])) rfl rfl
 . conv => lhs; whnf; arg 2; whnf
 . repeat' (first | exact VLe.refl _ | exact VLe.nil _ | exact VLe.lit _ _ | exact VLe.own _ _ _ | apply VLe.agg | apply VLeL.cons | exact VLeL.nil)
|refine zA ?_
|refine zI ?_
|refine zb ?_
|refine zU ?_
|refine za ?_
|apply aw_1
 conv => whnf
 refine ⟨?_,trivial⟩
|apply s_1
 conv => whnf; arg 1; arg 4; arg 3; whnf
 refine ⟨?_,?_⟩
|apply zt rfl
 . conv => lhs; whnf
 . conv => lhs; whnf; arg 2; whnf
|apply zAA rfl rfl rfl rfl
 . conv => lhs; whnf; arg 1; whnf
 . rfl
|apply zr rfl rfl rfl
 . conv => lhs; whnf
 . conv => lhs; whnf; arg 1; whnf
 . conv => lhs; whnf; arg 1; whnf
 . exact ⟨by kernel_rfl,by kernel_rfl⟩
 . rfl
|apply zN
 . conv => lhs; whnf; arg 1; arg 1; whnf
|apply zO
 . conv => lhs; whnf; arg 1; arg 1; whnf
|refine zT (by conv => lhs; whnf) ?_ ?_ <;> intro hb
|refine zj ?_
|refine zZ ?_
|refine zG ?_
|refine zK ?_
|refine zC ?_
|refine zB rfl ?_
|refine zE rfl ?_
|refine zF ?_
|refine zJ ?_
|refine zD ?_
|refine zL ?_
|refine z6 ?_
|refine zH ?_
|refine ⟨_,by conv => lhs; whnf; arg 2; whnf,?_⟩; conv => rhs; whnf
|exact trivial
|intro hg)
 rfl
theorem vBool_ac (b : Bool) : AC EN5 Tryz.prog 68 [.c (.bool b)] (VV (valD 1 (if b = true then 1 else 0) [] [] [])):=by
 refine zX 8 Tryz.func68 rfl rfl rfl rfl ?_
 intro s w he
 repeat' (first
|apply zA5 (VV (valD 1 0 [] [] [])) rfl rfl
 . conv => lhs; whnf; arg 2; whnf
 . repeat' (first | exact VLe.refl _ | exact VLe.nil _ | exact VLe.lit _ _ | exact VLe.own _ _ _ | apply VLe.agg | apply VLeL.cons | exact VLeL.nil)
|refine zA ?_
|refine zI ?_
|refine zb ?_
|refine zU ?_
|refine za ?_
|apply aw_1
 conv => whnf
 refine ⟨?_,trivial⟩
|apply s_1
 conv => whnf; arg 1; arg 4; arg 3; whnf
 refine ⟨?_,?_⟩
|apply zt rfl
 . conv => lhs; whnf
 . conv => lhs; whnf; arg 2; whnf
|apply zAA rfl rfl rfl rfl
 . conv => lhs; whnf; arg 1; whnf
 . rfl
|apply zr rfl rfl rfl
 . conv => lhs; whnf
 . conv => lhs; whnf; arg 1; whnf
 . conv => lhs; whnf; arg 1; whnf
 . exact ⟨by kernel_rfl,by kernel_rfl⟩
 . rfl
|apply zN
 . conv => lhs; whnf; arg 1; arg 1; whnf
|apply zO
 . conv => lhs; whnf; arg 1; arg 1; whnf
|refine zT (by conv => lhs; whnf) ?_ ?_ <;> intro hb
|refine zj ?_
|refine zZ ?_
|refine zG ?_
|refine zK ?_
|refine zC ?_
|refine zB rfl ?_
|refine zE rfl ?_
|refine zF ?_
|refine zJ ?_
|refine zD ?_
|refine zL ?_
|refine z6 ?_
|refine zH ?_
|refine ⟨_,by conv => lhs; whnf; arg 2; whnf,?_⟩; conv => rhs; whnf
|exact trivial
|intro hg)
 . rw [if_pos hb]; rfl
 . rw [if_neg (by rw [hb]; decide)]; rfl
def eqS (k : ByteArray) (d : D) : Bool:=k.toList == d.s.toList
def idxL (l : List D) (k : ByteArray) : Int:=match l.findIdx? (eqS k) with | some i => (i : Int) | none => -1
def hasL (l : List D) (k : ByteArray) : Bool:=l.any (eqS k)
theorem idxL_at {l : List D} {k : ByteArray} {i : Nat} (hi : i < l.length) (h : ∀ m,m < i -> eqS k (gD l m) = false) (he : eqS k (gD l i) = true) : idxL l k = i:=by
 unfold idxL
 have : l.findIdx? (eqS k) = some i:=by
  rw [List.findIdx?_eq_some_iff_getElem]
  refine ⟨hi,by rw [<- zBr hi]; exact he,fun j hj => ?_⟩
  have hj2 : j < l.length:=by omega
  have:=h j hj
  rw [zBr hj2] at this
  simp [this]
 rw [this]
theorem idxL_no {l : List D} {k : ByteArray} (h : ∀ m,m < l.length -> eqS k (gD l m) = false) : idxL l k = -1:=by
 unfold idxL
 have : l.findIdx? (eqS k) = none:=by
  rw [List.findIdx?_eq_none_iff]
  intro x hx
  obtain ⟨i,hi,rfl⟩:=List.getElem_of_mem hx
  rw [<- zBr hi]; exact h i hi
 rw [this]
theorem idxL_has (l : List D) (k : ByteArray) : decide (idxL l k >= 0) = hasL l k:=by
 unfold idxL hasL
 cases hx : l.findIdx? (eqS k) with
 | none =>
   rw [List.findIdx?_eq_none_iff] at hx
   have : l.any (eqS k) = false:=by rw [List.any_eq_false]; exact fun x hm => by rw [hx x hm]; decide
   rw [this]; rfl
 | some i =>
   rw [List.findIdx?_eq_some_iff_getElem] at hx
   obtain ⟨h1,h2,-⟩:=hx
   have : l.any (eqS k) = true:=List.any_eq_true.2 ⟨_,List.getElem_mem h1,h2⟩
   rw [this]
   exact decide_eq_true (Int.natCast_nonneg i)
noncomputable def HiS (l : List D) (k : ByteArray) (i : Nat) : Vst 19:=
 stS 19 [(0,.sl 9 l),(1,.c (.string k)),(7,.c (.int .i64 l.length)),(8,.c (.int .i64 i))] []
theorem indexS_ac (l : List D) (k : ByteArray) (hn : l.length <= 1000000000) : AC EN5 Tryz.prog 206 [.sl 9 l,.c (.string k)] (.c (.int .i64 (idxL l k))):=by
 refine zX 19 Tryz.func206 rfl rfl rfl rfl ?_
 intro s w he
 repeat' (first
|refine zA ?_
|refine zI ?_
|refine zb ?_
|refine zU ?_
|refine za ?_
|apply aw_1
 conv => whnf
 refine ⟨?_,trivial⟩
|apply s_1
 conv => whnf; arg 1; arg 4; arg 3; whnf
 refine ⟨?_,?_⟩
|apply zt rfl
 . conv => lhs; whnf
 . conv => lhs; whnf; arg 2; whnf
|apply zN
 . conv => lhs; whnf; arg 1; arg 1; whnf
|apply zO
 . conv => lhs; whnf; arg 1; arg 1; whnf
|refine zT (by conv => lhs; whnf) ?_ ?_ <;> intro hb
|refine zj ?_
|refine zZ ?_
|refine zG ?_
|refine zK ?_
|refine zC ?_
|refine zB rfl ?_
|refine zE rfl ?_
|refine zF ?_
|refine zJ ?_
|refine zD ?_
|refine zL ?_
|refine z6 ?_
|refine zH ?_
|refine ⟨_,by conv => lhs; whnf; arg 2; whnf,?_⟩; conv => rhs; whnf
|exact trivial
|intro hg)
 refine z7 (fun j st => ∃ i,i + j = l.length /\ (∀ m,m < i -> eqS k (gD l m) = false) /\ Sub (cx EN5 Tryz.prog s w he) st (HiS l k i)) l.length ⟨0,by omega,fun m hm => absurd hm (Nat.not_lt_zero m),?_⟩ ?_
 . exact Sub.live ⟨rfl,rfl,rfl,rfl,trivial⟩ trivial
 . rintro j st ⟨i,hij,hno,hs2⟩
   refine z8 hs2 ?_
   clear hs2
   repeat' (first
|refine zA ?_
|refine zI ?_
|refine zb ?_
|refine zU ?_
|refine za ?_
|apply aw_1
 conv => whnf
 refine ⟨?_,trivial⟩
|apply s_1
 conv => whnf; arg 1; arg 4; arg 3; whnf
 refine ⟨?_,?_⟩
|apply zt rfl
 . conv => lhs; whnf
 . conv => lhs; whnf; arg 2; whnf
|apply zN
 . conv => lhs; whnf; arg 1; arg 1; whnf
|apply zO
 . conv => lhs; whnf; arg 1; arg 1; whnf
|refine zT (by conv => lhs; whnf) ?_ ?_ <;> intro hb
|refine zj ?_
|refine zZ ?_
|refine zG ?_
|refine zK ?_
|refine zC ?_
|refine zB rfl ?_
|refine zE rfl ?_
|refine zF ?_
|refine zJ ?_
|refine zD ?_
|refine zL ?_
|refine z6 ?_
|refine zH ?_
|refine ⟨_,by conv => lhs; whnf; arg 2; whnf,?_⟩; conv => rhs; whnf
|exact trivial
|intro hg)
   all_goals
    first
     | exact zo (by omega)
     | (have g0 : decide ((i : Int) < (l.length : Int)) = true:=by assumption
        have g0 : i < l.length:=by simpa using g0
        first
         | exact (⟨by omega,by omega⟩ : 0 <= (i : Int) /\ (i : Int) < (l.length : Int))
         | (have g1 : eqS k (gD l i) = true:=by assumption
            rw [idxL_at g0 hno g1])
         | (have g1 : eqS k (gD l i) = false:=by assumption
            refine zh (j':=j - 1) (by omega) ⟨i + 1,by omega,fun m hm => ?_,Sub.live ⟨rfl,rfl,rfl,rfl,trivial⟩ trivial⟩
            by_cases e : m = i
            . subst e; exact g1
            . exact hno m (by omega)))
     | (have g0 : decide ((i : Int) < (l.length : Int)) = false:=by assumption
        have g0 : ¬ (i : Int) < (l.length : Int):=of_decide_eq_false g0
        rw [idxL_no fun m hm => hno m (by omega)])
theorem zGe (l : List D) (k : ByteArray) (hn : l.length <= 1000000000) : AC EN5 Tryz.prog 186 [.sl 9 l,.c (.string k)] (.c (.bool (hasL l k))):=by
 have h1:=indexS_ac l k hn
 rw [<- idxL_has]
 refine zX 9 Tryz.func186 rfl rfl rfl rfl ?_
 intro s w he
 repeat' (first
|refine zA ?_
|refine zI ?_
|refine zb ?_
|refine zU ?_
|refine za ?_
|apply aw_1
 conv => whnf
 refine ⟨?_,trivial⟩
|apply s_1
 conv => whnf; arg 1; arg 4; arg 3; whnf
 refine ⟨?_,?_⟩
|apply zt rfl
 . conv => lhs; whnf
 . conv => lhs; whnf; arg 2; whnf
|apply zd rfl
 . conv => lhs; whnf
 . conv => lhs; whnf
 . first | exact h1
|apply zN
 . conv => lhs; whnf; arg 1; arg 1; whnf
|apply zO
 . conv => lhs; whnf; arg 1; arg 1; whnf
|refine zT (by conv => lhs; whnf) ?_ ?_ <;> intro hb
|refine zj ?_
|refine zZ ?_
|refine zG ?_
|refine zK ?_
|refine zC ?_
|refine zB rfl ?_
|refine zE rfl ?_
|refine zF ?_
|refine zJ ?_
|refine zD ?_
|refine zL ?_
|refine z6 ?_
|refine zH ?_
|refine ⟨_,by conv => lhs; whnf; arg 2; whnf,?_⟩; conv => rhs; whnf
|exact trivial
|intro hg)
 all_goals rfl
theorem zDo (ks : List (List UInt8)) (u : List UInt8) : hasL (ks.map strD) (bs u) = ks.contains u:=by
 unfold hasL
 rw [List.any_map,List.contains_eq_any_beq]
 congr 1
 funext x
 show ((bs u).toList == (bs x).toList) = (u == x)
 rw [Lib.toList_data,Lib.toList_data,zA2,zA2]
theorem etaP2 (l : List Tok) (v : Bool) (n : Nat) : [V.sl 134 (l.map tokD),.c (.bool v),.c (.int .i64 ((n : Int) + 1))] = zv ⟨l,v,n + 1⟩:=rfl
theorem etaP3 (l : List Tok) (v : Bool) : [V.sl 134 (l.map tokD),.c (.bool v),.c (.int .i64 0)] = zv ⟨l,v,0⟩:=rfl
def zVal : List V:=[.c (.int .i64 0),.c (.int .i64 0),.c (.string ⟨#[]⟩),.c (.slice none 0 0),.c (.slice none 0 0)]
noncomputable def HvL (lv : Nat) (y : PS) (acc : List D) : Vst 165:=
 stS 165 [(0,.bx (pn 0) 0),(1,.c (.int .i64 (lv : Int))),(4,.bx 4 0),(8,.bx 8 0)] [(pn 0,boxP y),(4,.box 62 zVal),(8,.box 62 [.c (.int .i64 5),.c (.int .i64 0),.c (.string ⟨#[]⟩),.own 901 62 acc,.c (.slice none 0 0)]),(901,.tok 62 acc.length)]
noncomputable def HvO (lv : Nat) (y : PS) (ks : List (List UInt8)) (acc : List D) : Vst 165:=
 stS 165 [(0,.bx (pn 0) 0),(1,.c (.int .i64 (lv : Int))),(4,.bx 4 0),(9,.bx 9 0)] [(pn 0,boxP y),(4,.box 62 zVal),(9,.box 62 [.c (.int .i64 6),.c (.int .i64 0),.c (.string ⟨#[]⟩),.own 901 62 acc,.own 902 9 (ks.map strD)]),(901,.tok 62 acc.length),(902,.tok 9 (ks.map strD).length)]
theorem nx_nd (x : PS) (n : Nat) : ({ nxT x with nd:=n } : PS) = nxT ⟨x.ts,x.vr,n⟩:=by
 unfold nxT hdT
 split <;> rfl
theorem En.nd {x : PS} (h : En x) (n : Nat) (v : Bool) : En ⟨x.ts,v,n⟩:=h
theorem zCM : zAS Tryz.prog 60 = some (62,80):=by kernel_rfl
noncomputable def HvA (lv : Nat) (x : PS) (t : Tok) : Vst 165:=
 stS 165 [(0,.bx (pn 0) 0),(1,.c (.int .i64 (lv : Int))),(4,.bx 4 0),(5,.bx 5 0)] [(pn 0,boxP x),(4,.box 62 zVal),(5,.box 134 (tokC t))]
theorem nx_len (x : PS) : (nxT x).ts.length <= x.ts.length:=by
 unfold nxT
 split
 . exact Nat.le_refl _
 . show (x.ts.drop 1).length <= _
   rw [List.length_drop]; omega
theorem zHq (t : Tok) (r : List Tok) (vr : Bool) (nd : Nat) : zCG ⟨t :: r,vr,nd⟩ = (t.k == 5 || (t.k == 1 && !isS ⟨t :: r,vr,nd⟩ [91] && !isS ⟨t :: r,vr,nd⟩ [123] && !(vr && isS ⟨t :: r,vr,nd⟩ [36]))):=rfl
theorem value_bad {f lv : Nat} {x : PS} (h : zCG x = true) : valueQ (f + 1) lv x = .error ((hdT x).i,3):=by rw [valueQ,if_pos h]
theorem value_deep {f lv : Nat} {x : PS} (h : zCG x = false) (h2 : 24 < lv) : valueQ (f + 1) lv x = .error ((hdT x).i,5):=by rw [valueQ,if_neg (by rw [h]; decide),if_pos h2]
theorem value_big {f lv : Nat} {x : PS} (h : zCG x = false) (h2 : ¬ 24 < lv) (h3 : 4096 <= x.nd) : valueQ (f + 1) lv x = .error ((hdT x).i,4):=by rw [valueQ,if_neg (by rw [h]; decide),if_neg h2,if_pos h3]
def zBD (f lv : Nat) (t : Tok) (y : PS) : PR D:=
 if t.k = 3 then .ok (valD 2 (numQ t.s) [] [] [],y)
 else if t.k = 4 then .ok (valD 3 0 t.s [] [],y)
 else if t.k = 2 then .ok (zDu t.s,y)
 else if t.s = [36] then zw (nameQ y) fun n z => .ok (valD 7 0 n [] [],z)
 else if t.s = [91] then zw (itemsQ (valueQ f (lv + 1)) (y.ts.length + 1) [] y) fun l z => .ok (valD 5 0 [] l [],z)
 else zw (zAV (valueQ f (lv + 1)) (y.ts.length + 1) [] [] y) fun l z => .ok (valD 6 0 [] l.2 l.1,z)
theorem value_go {f lv : Nat} {x : PS} (h : zCG x = false) (h2 : ¬ 24 < lv) (h3 : ¬ 4096 <= x.nd) : valueQ (f + 1) lv x = zBD f lv (hdT x) (nxT ⟨x.ts,x.vr,x.nd + 1⟩):=by
 have e:=(nx_nd x (x.nd + 1)).symm
 rw [valueQ,if_neg (by rw [h]; decide),if_neg h2,if_neg h3,e]
 rfl
theorem zA1 {n most : Nat} {x : PS} {e : Nat × Int} (h : limQ n most x = .error e) : most <= n /\ e = ((hdT x).i,4):=by
 unfold limQ at h
 split at h
 . cases h; exact ⟨by assumption,rfl⟩
 . cases h
section
variable {f lv : Nat} {t : Tok} {y : PS}
theorem vt_3 (h : (t.k == 3) = true) : zBD f lv t y = .ok (valD 2 (numQ t.s) [] [] [],y):=by rw [zBD,if_pos (by simpa using h)]
theorem vt_4 (h3 : (t.k == 3) = false) (h : (t.k == 4) = true) : zBD f lv t y = .ok (valD 3 0 t.s [] [],y):=by rw [zBD,if_neg (by simpa using h3),if_pos (by simpa using h)]
theorem vt_2 (h3 : (t.k == 3) = false) (h4 : (t.k == 4) = false) (h : (t.k == 2) = true) : zBD f lv t y = .ok (zDu t.s,y):=by rw [zBD,if_neg (by simpa using h3),if_neg (by simpa using h4),if_pos (by simpa using h)]
theorem vt_v (h3 : (t.k == 3) = false) (h4 : (t.k == 4) = false) (h2 : (t.k == 2) = false) (h : ((bs t.s).toList == (⟨#[36]⟩ : ByteArray).toList) = true) : zBD f lv t y = zw (nameQ y) fun n z => .ok (valD 7 0 n [] [],z):=by
 rw [zBD,if_neg (by simpa using h3),if_neg (by simpa using h4),if_neg (by simpa using h2),if_pos (zDG h)]
theorem vt_l (h3 : (t.k == 3) = false) (h4 : (t.k == 4) = false) (h2 : (t.k == 2) = false) (h7 : ((bs t.s).toList == (⟨#[36]⟩ : ByteArray).toList) = false) (h : ((bs t.s).toList == (⟨#[91]⟩ : ByteArray).toList) = true) : zBD f lv t y = zw (itemsQ (valueQ f (lv + 1)) (y.ts.length + 1) [] y) fun l z => .ok (valD 5 0 [] l [],z):=by
 rw [zBD,if_neg (by simpa using h3),if_neg (by simpa using h4),if_neg (by simpa using h2),if_neg (zBO h7),if_pos (zDG h)]
theorem vt_o (h3 : (t.k == 3) = false) (h4 : (t.k == 4) = false) (h2 : (t.k == 2) = false) (h7 : ((bs t.s).toList == (⟨#[36]⟩ : ByteArray).toList) = false) (h : ((bs t.s).toList == (⟨#[91]⟩ : ByteArray).toList) = false) : zBD f lv t y = zw (zAV (valueQ f (lv + 1)) (y.ts.length + 1) [] [] y) fun l z => .ok (valD 6 0 [] l.2 l.1,z):=by
 rw [zBD,if_neg (by simpa using h3),if_neg (by simpa using h4),if_neg (by simpa using h2),if_neg (zBO h7),if_neg (zBO h)]
end
section
variable {s : List UInt8}
theorem w_true (h : ((bs s).toList == (⟨#[116,114,117,101]⟩ : ByteArray).toList) = true) : zDu s = valD 1 (if ((bs s).toList == (⟨#[116,114,117,101]⟩ : ByteArray).toList) = true then 1 else 0) [] [] []:=by
 rw [zDu,if_pos (zDG h),if_pos h]
theorem w_false (h0 : ((bs s).toList == (⟨#[116,114,117,101]⟩ : ByteArray).toList) = false) (h : ((bs s).toList == (⟨#[102,97,108,115,101]⟩ : ByteArray).toList) = true) : zDu s = valD 1 (if ((bs s).toList == (⟨#[116,114,117,101]⟩ : ByteArray).toList) = true then 1 else 0) [] [] []:=by
 rw [zDu,if_neg (zBO h0),if_pos (zDG h),if_neg (by rw [h0]; decide)]
theorem w_null (h0 : ((bs s).toList == (⟨#[116,114,117,101]⟩ : ByteArray).toList) = false) (h1 : ((bs s).toList == (⟨#[102,97,108,115,101]⟩ : ByteArray).toList) = false) (h : ((bs s).toList == (⟨#[110,117,108,108]⟩ : ByteArray).toList) = true) : zDu s = zFd:=by
 rw [zDu,if_neg (zBO h0),if_neg (zBO h1),if_pos (zDG h)]
theorem w_enum (h0 : ((bs s).toList == (⟨#[116,114,117,101]⟩ : ByteArray).toList) = false) (h1 : ((bs s).toList == (⟨#[102,97,108,115,101]⟩ : ByteArray).toList) = false) (h : ((bs s).toList == (⟨#[110,117,108,108]⟩ : ByteArray).toList) = false) : zDu s = valD 4 0 s [] []:=by
 rw [zDu,if_neg (zBO h0),if_neg (zBO h1),if_neg (zBO h)]
theorem w_no {a : Bool} (h : a = true) (h2 : a = false) : False:=by rw [h] at h2; cases h2
end
theorem items_end {v : PS -> PR D} {j : Nat} {acc : List D} {z : PS} (h : (!isS z [93]) = false) : itemsQ v (j + 1) acc z = .ok (acc,nxT z):=by rw [itemsQ,if_pos (by simpa using h)]
theorem zHz {v : PS -> PR D} {j : Nat} {acc : List D} {z : PS} (h : (!isS z [93]) = true) : itemsQ v (j + 1) acc z = zw (v z) fun a y => itemsQ v j (acc ++ [a]) y:=by rw [itemsQ,if_neg (by simpa using h)]
theorem zm {α β : Type} {r : PR α} {f : α -> PS -> PR β} {a : α} {x : PS} (h : r = .ok (a,x)) : zw r f = f a x:=by rw [h]; rfl
theorem then_err {α β : Type} {r : PR α} {f : α -> PS -> PR β} {e : Nat × Int} (h : r = .error e) : zw r f = .error e:=by rw [h]; rfl
theorem fields_end {v : PS -> PR D} {j : Nat} {ks : List (List UInt8)} {acc : List D} {z : PS} (h : (!isS z [125]) = false) : zAV v (j + 1) ks acc z = .ok ((ks,acc),nxT z):=by rw [zAV,if_pos (by simpa using h)]
theorem zCK {v : PS -> PR D} {j : Nat} {ks : List (List UInt8)} {acc : List D} {z : PS} (h : (!isS z [125]) = true) : zAV v (j + 1) ks acc z = zw (nameQ z) fun k y => if ks.contains k = true then .error ((hdT z).i,7) else zw (takeQ [58] y) fun _ z => zw (v z) fun a u => zAV v j (ks ++ [k]) (acc ++ [a]) u:=by rw [zAV,if_neg (by simpa using h)]
section
variable {v : PS -> PR D} {j : Nat} {ks : List (List UInt8)} {acc : List D} {z y z2 u2 : PS} {k : List UInt8} {e : Nat × Int} {u : Unit} {a : D}
theorem fl_nm (h : (!isS z [125]) = true) (h1 : nameQ z = .error e) : zAV v (j + 1) ks acc z = .error e:=by rw [zCK h,then_err h1]
theorem fl_dup (h : (!isS z [125]) = true) (h1 : nameQ z = .ok (k,y)) (h2 : hasL (ks.map strD) (bs k) = true) : zAV v (j + 1) ks acc z = .error ((hdT z).i,7):=by
 rw [zDo] at h2
 rw [zCK h,zm h1,if_pos h2]
theorem fl_col (h : (!isS z [125]) = true) (h1 : nameQ z = .ok (k,y)) (h2 : hasL (ks.map strD) (bs k) = false) (h3 : takeQ [58] y = .error e) : zAV v (j + 1) ks acc z = .error e:=by
 rw [zDo] at h2
 rw [zCK h,zm h1,if_neg (by rw [h2]; decide),then_err h3]
theorem fl_val (h : (!isS z [125]) = true) (h1 : nameQ z = .ok (k,y)) (h2 : hasL (ks.map strD) (bs k) = false) (h3 : takeQ [58] y = .ok (u,z2)) (h4 : v z2 = .error e) : zAV v (j + 1) ks acc z = .error e:=by
 rw [zDo] at h2
 rw [zCK h,zm h1,if_neg (by rw [h2]; decide),zm h3,then_err h4]
theorem fl_ok (h : (!isS z [125]) = true) (h1 : nameQ z = .ok (k,y)) (h2 : hasL (ks.map strD) (bs k) = false) (h3 : takeQ [58] y = .ok (u,z2)) (h4 : v z2 = .ok (a,u2)) : zAV v (j + 1) ks acc z = zAV v j (ks ++ [k]) (acc ++ [a]) u2:=by
 rw [zDo] at h2
 rw [zCK h,zm h1,if_neg (by rw [h2]; decide),zm h3,zm h4]
end
theorem zFx : ∀ (f lv : Nat) (x : PS),En x -> x.ts.length <= 100000 -> f + lv = 26 -> lv <= 25 -> ACE EN5 Tryz.prog 155 [.bx (pn 0) 0,.c (.int .i64 (lv : Int))] [boxP x] (outQ VV (valueQ f lv x))
 | 0,lv,x,h,hlen,hf,h25 => by omega
 | f + 1,lv,x,h,hlen,hf,h25 => by
   have ih:=zFx f
   have hs1:=zAv h [91]
   have hs2:=zAv h [123]
   have hs3:=zAv h [36]
   have hli:=zDL h x.nd 4096
   obtain ⟨y,hy⟩ : ∃ y,y = nxT ⟨x.ts,x.vr,x.nd + 1⟩:=⟨_,rfl⟩
   have hn:=zBC (h.nd (x.nd + 1) x.vr)
   rw [<- hy] at hn
   have hnu:=zE0 (bs (hdT x).s) (by rw [zAL]; have:=h.hd; omega)
   have hvt:=vText_ac (hdT x).s
   have hve:=vEnum_ac (hdT x).s
   have hvi:=vInt_ac (numQ (hdT x).s)
   have hvb:=vBool_ac
   have hen : En y:=by rw [hy]; exact (h.nd (x.nd + 1) x.vr).nx0
   have hyl : y.ts.length <= 100000:=by rw [hy]; exact Nat.le_trans (nx_len _) hlen
   have hnm:=zCH hen
   have hf3:=zA8 (hdT x) 3
   have hf5:=zA8 (hdT x) 5
   obtain ⟨t,r,ht⟩:=h.cons
   have hh:=zAu ht
   rw [hh] at hnu hvt hve hvi hf3 hf5
   obtain ⟨ts,vr,nd⟩:=x
   cases ht
   refine zAX (fn:=Tryz.f155) 165 Tryz.func155 rfl rfl ?_
   intro pas w0 w he hp
   by_cases hnv : zCG ⟨t :: r,vr,nd⟩ = true
   . have hv:=value_bad (f:=f) (lv:=lv) hnv
     rw [hh] at hv
     rw [zHq] at hnv
     have k1 : ((t.k == 5) == false) = true -> ((t.k == 1) == true) = false -> False:=fun a b => by simp_all
     have k2 : ((t.k == 5) == false) = true -> ((!isS ⟨t :: r,vr,nd⟩ [91]) == true) = false -> False:=fun a b => by simp_all
     have k3 : ((t.k == 5) == false) = true -> ((!isS ⟨t :: r,vr,nd⟩ [123]) == true) = false -> False:=fun a b => by simp_all
     have k4 : ((t.k == 5) == false) = true -> (vr == true) = true -> (!isS ⟨t :: r,vr,nd⟩ [36]) = false -> False:=fun a b c => by simp_all
     rw [hv]
     repeat' (first
|apply zq rfl rfl rfl
 . conv => lhs; whnf
 . first | rfl | assumption
 . conv => lhs; whnf
 . first | exact bT1 ‹_› | exact bT2 ‹_› | rfl
|apply zu rfl rfl rfl
 . conv => lhs; whnf
 . first | rfl | assumption
 . conv => lhs; whnf
 . first | exact bF1 ‹_› | exact bF2 ‹_› | rfl
|apply zAT zv zY rfl
 . conv => lhs; whnf
 . conv => lhs; whnf
 . first | rfl | assumption
 . conv => lhs; whnf
 . rfl
 . conv => lhs; whnf; arg 1; whnf
 . first | exact zAD _
 . first | exact hs1 | exact hs2 | exact hs3
 . exact fun _ => rfl
 . exact fun _ => rfl
|apply zl rfl
 . conv => lhs; whnf
 . conv => lhs; whnf
 . first | rfl | assumption
|apply zAI rfl
 . conv => lhs; whnf
 . rfl
 . rfl
|apply zCE rfl
 . conv => lhs; whnf
 . first | exact hf3
 . first | exact fun _ => rfl | (intro _; simp only [renL,renV,ren_cells])
 change _ = Out.die _
|exact (k1 ‹_› ‹_›).elim
|exact (k2 ‹_› ‹_›).elim
|exact (k3 ‹_› ‹_›).elim
|exact (k4 ‹_› ‹_› ‹_›).elim
|refine zA ?_
|refine zI ?_
|refine zb ?_
|apply aw_1
 conv => whnf
 refine ⟨?_,trivial⟩
|apply zg rfl rfl
 . conv => lhs; whnf
 . conv => lhs; whnf
 . first | exact bT1 ‹_› | exact bT2 ‹_›
|apply ze rfl rfl
 . conv => lhs; whnf
 . conv => lhs; whnf
 . first | exact bF1 ‹_› | exact bF2 ‹_›
|apply s_1
 conv => whnf; arg 1; arg 4; arg 3; whnf
 refine ⟨?_,?_⟩
|apply zr rfl rfl rfl
 . conv => lhs; whnf
 . conv => lhs; whnf; arg 1; whnf
 . conv => lhs; whnf; arg 1; whnf
 . exact ⟨by kernel_rfl,by kernel_rfl⟩
 . rfl
|apply zM rfl
 . conv => lhs; whnf
 . conv => lhs; whnf
 . first | rfl | assumption
 . conv => lhs; whnf; arg 2; whnf
|apply zP rfl
 . conv => lhs; whnf
 . conv => lhs; whnf
 . conv => lhs; whnf; arg 2; whnf
|refine zT (by conv => lhs; whnf) ?_ ?_ <;> intro hb
|exact trivial
|intro hg)
     all_goals first
      | exact zBf _ _
      | rfl
      | skip
   . have hnv : zCG ⟨t :: r,vr,nd⟩ = false:=by simpa using hnv
     have hv5:=value_deep (f:=f) (lv:=lv) hnv
     have hv4:=value_big (f:=f) (lv:=lv) hnv
     have hvg:=value_go (f:=f) (lv:=lv) hnv
     rw [zHq] at hnv
     have k1 : ((t.k == 5) == false) = false -> False:=fun a => by simp_all
     have k2 : ((t.k == 5) == false) = true -> ((t.k == 1) == true) = true -> ((!isS ⟨t :: r,vr,nd⟩ [91]) == true) = true -> ((!isS ⟨t :: r,vr,nd⟩ [123]) == true) = true -> (vr == true) = false -> False:=fun a b c d e => by simp_all
     have k3 : ((t.k == 5) == false) = true -> ((t.k == 1) == true) = true -> ((!isS ⟨t :: r,vr,nd⟩ [91]) == true) = true -> ((!isS ⟨t :: r,vr,nd⟩ [123]) == true) = true -> (!isS ⟨t :: r,vr,nd⟩ [36]) = true -> False:=fun a b c d e => by simp_all
     repeat' (first
|apply zq rfl rfl rfl
 . conv => lhs; whnf
 . first | rfl | assumption
 . conv => lhs; whnf
 . first | exact bT1 ‹_› | exact bT2 ‹_› | rfl
|apply zu rfl rfl rfl
 . conv => lhs; whnf
 . first | rfl | assumption
 . conv => lhs; whnf
 . first | exact bF1 ‹_› | exact bF2 ‹_› | rfl
|apply zA5 (VV zFd) rfl rfl
 . conv => lhs; whnf; arg 2; whnf
 . repeat' (first | exact VLe.refl _ | exact VLe.nil _ | exact VLe.lit _ _ | exact VLe.own _ _ _ | apply VLe.agg | apply VLeL.cons | exact VLeL.nil)
|apply zA5 (VV (valD 7 0 _ [] [])) rfl rfl
 . conv => lhs; whnf; arg 2; whnf
 . repeat' (first | exact VLe.refl _ | exact VLe.nil _ | exact VLe.lit _ _ | exact VLe.own _ _ _ | apply VLe.agg | apply VLeL.cons | exact VLeL.nil)
|apply s_m zv zY rfl
 . conv => lhs; whnf
 . conv => lhs; whnf
 . rfl
 . conv => lhs; whnf; arg 1; whnf
 . first | exact zAD _ | exact etaP2 _ _ _
 . first | exact hs1 | exact hs2 | exact hs3 | exact hn
 . exact fun _ => rfl
 . exact fun _ => rfl
|apply zAT zv zY rfl
 . conv => lhs; whnf
 . conv => lhs; whnf
 . first | rfl | assumption
 . conv => lhs; whnf
 . rfl
 . conv => lhs; whnf; arg 1; whnf
 . first | exact zAD _ | exact etaP2 _ _ _
 . first | exact hs1 | exact hs2 | exact hs3 | exact hn
 . exact fun _ => rfl
 . exact fun _ => rfl
|apply zl rfl
 . conv => lhs; whnf
 . conv => lhs; whnf
 . first | rfl | assumption
|apply zAI rfl
 . conv => lhs; whnf
 . rfl
 . rfl
|apply s_pr zv zY rfl
 . conv => lhs; whnf
 . conv => lhs; whnf
 . rfl
 . conv => lhs; whnf; arg 1; whnf
 . first | exact zAD _ | exact etaP2 _ _ _
 . first | exact hli | exact hnm
 . exact fun _ => rfl
 . first | (intro _ _; simp only [renL,renV,ren_cells]; done) | exact fun _ _ => rfl
 refine fun ee hq => ?_
 change _ = Out.die _
 rotate_left 1
 refine fun aa xx hq => ?_
 first | (replace hq:=zAp hq; obtain ⟨hq,rfl⟩:=hq) | (cases hq; have hq:=True.intro) | skip
|apply zCE rfl
 . conv => lhs; whnf
 . first | exact hf3 | exact hf5
 . first | exact fun _ => rfl | (intro _; simp only [renL,renV,ren_cells])
 change _ = Out.die _
|exact (k1 ‹_›).elim
|exact (k2 ‹_› ‹_› ‹_› ‹_› ‹_›).elim
|exact (k3 ‹_› ‹_› ‹_› ‹_› ‹_›).elim
|apply zCZ 4 (HvA lv ⟨t :: r,vr,nd⟩ t) rfl
|apply zCZ 9 (HvA lv y t) rfl
|refine zAH ?_
|refine zA ?_
|refine zI ?_
|refine zb ?_
|refine zU ?_
|apply aw_1
 conv => whnf
 refine ⟨?_,trivial⟩
|apply ze rfl rfl
 . conv => lhs; whnf
 . conv => lhs; whnf
 . first | exact bF1 ‹_› | exact bF2 ‹_›
|apply s_1
 conv => whnf; arg 1; arg 4; arg 3; whnf
 refine ⟨?_,?_⟩
|apply zd rfl
 . conv => lhs; whnf
 . conv => lhs; whnf
 . first | exact hnu | exact hvt | exact hve | exact hvi | exact hvb _
|apply zr rfl rfl rfl
 . conv => lhs; whnf
 . conv => lhs; whnf; arg 1; whnf
 . conv => lhs; whnf; arg 1; whnf
 . exact ⟨by kernel_rfl,by kernel_rfl⟩
 . rfl
|apply zM rfl
 . conv => lhs; whnf
 . conv => lhs; whnf
 . first | rfl | assumption
 . conv => lhs; whnf; arg 2; whnf
|apply zP rfl
 . conv => lhs; whnf
 . conv => lhs; whnf
 . conv => lhs; whnf; arg 2; whnf
|refine zT (by conv => lhs; whnf) ?_ ?_ <;> intro hb
|refine zK ?_
|refine zC ?_
|apply zAB rfl
 . conv => lhs; whnf; arg 2; whnf
 . conv => lhs; whnf; arg 1; whnf
|exact trivial
|intro hg)
     all_goals first
      | exact zBf _ _
      | exact Sub.live ⟨rfl,rfl,rfl,rfl,trivial⟩ ⟨rfl,rfl,rfl,trivial⟩
      | (exact (w_no (a:=(bs t.s).toList == (⟨#[116,114,117,101]⟩ : ByteArray).toList) ‹_› ‹_›).elim)
      | (have g : nd < 4096:=by assumption
         exact zo ⟨by show -9223372036854775808 <= (nd : Int) + 1; omega,by show (nd : Int) + 1 <= 9223372036854775807; omega⟩)
      | (have g1 : decide ((lv : Int) > 24) = true:=by assumption
         rw [hv5 (by simp at g1; omega)]; rfl)
      | (have g1 : decide ((lv : Int) > 24) = false:=by assumption
         have g1 : ¬ 24 < lv:=by simp at g1; omega
         first
          | (have g2:=zA1 hq
             rw [hv4 g1 g2.1,g2.2]; rfl)
          | (have g : nd < 4096:=by assumption
             rw [hvg g1 (by show ¬ 4096 <= nd; omega),hh,<- hy]
             first
              | (rw [vt_3 ‹_›]; rfl)
              | (rw [vt_4 ‹_› ‹_›]; rfl)
              | (rw [vt_2 ‹_› ‹_› ‹_›,w_true ‹_›]; rfl)
              | (rw [vt_2 ‹_› ‹_› ‹_›,w_false ‹_› ‹_›]; rfl)
              | (rw [vt_2 ‹_› ‹_› ‹_›,w_null ‹_› ‹_› ‹_›]; rfl)
              | (rw [vt_2 ‹_› ‹_› ‹_›,w_enum ‹_› ‹_› ‹_›]; rfl)
              | (rw [vt_v ‹_› ‹_› ‹_› ‹_›,hq]; rfl)))
      | skip
     . have g1 : ¬ 24 < lv:=by have g1 : decide ((lv : Int) > 24) = false:=by assumption
                               simp at g1; omega
       have g : nd < 4096:=by assumption
       have hgo:=hvg g1 (by show ¬ 4096 <= nd; omega)
       rw [hh,<- hy,vt_l ‹_› ‹_› ‹_› ‹_› ‹_›] at hgo
       rw [hgo]
       clear hs1 hs2 hs3 hli hn hnu hvt hve hvi hvb hnm hf3 hf5 hvg hv4 hv5 hgo k1 k2 k3
       refine z8 (Sub.ownF (m:=8) (q:=901) (i:=3) (e:=62) rfl (by decide) rfl rfl rfl) ?_
       refine z7 (fun j st => ∃ z acc,En z /\ z.ts.length < j /\ acc.length + z.ts.length <= y.ts.length /\ itemsQ (valueQ f (lv + 1)) (y.ts.length + 1) [] y = itemsQ (valueQ f (lv + 1)) j acc z /\ Sub (cxE EN5 Tryz.prog pas w0 w he hp (outQ VV (zw (itemsQ (valueQ f (lv + 1)) (y.ts.length + 1) [] y) fun l z => .ok (valD 5 0 [] l [],z)))) st (HvL lv z acc)) (y.ts.length + 1) ⟨y,[],hen,by omega,by simp,rfl,?_⟩ ?_
       . exact Sub.live ⟨rfl,rfl,rfl,rfl,trivial⟩ ⟨rfl,rfl,rfl,rfl,trivial⟩
       rintro j st ⟨z,acc,hz,hzj,hzl,hI,hsub⟩
       refine z8 hsub ?_
       clear hsub
       rw [hI]
       clear hI
       cases j with
       | zero => omega
       | succ j =>
       have hs:=zAv hz [93]
       have hn:=zBC hz
       have hv:=ih (lv + 1) z hz (by omega) (by omega) (by omega)
       repeat' (first
|apply zA5 (VV (valD 5 0 [] acc [])) rfl rfl
 . conv => lhs; whnf; arg 2; whnf
 . repeat' (first | exact VLe.refl _ | exact VLe.nil _ | exact VLe.lit _ _ | exact VLe.own _ _ _ | apply VLe.agg | apply VLeL.cons | exact VLeL.nil)
|apply zBJ 10 ([(1,[8])]) ([(5,[1000000]),(7,[901]),(9,[8])]) rfl (by kernel_rfl) (by kernel_rfl) (by kernel_rfl)
|apply zEc
|apply zEb rfl
 . conv => lhs; whnf
 . conv => lhs; whnf; arg 2; whnf
|apply g_app rfl rfl
 . conv => lhs; whnf
 . first | exact zCM | (conv => lhs; whnf; arg 1; whnf)
 . first | exact fun _ => rfl | (intro _; kernel_rfl)
 . conv => lhs; whnf
 . rfl
 . conv => lhs; whnf; arg 1; whnf
 . conv => lhs; whnf
|apply zBn rfl rfl rfl
 . conv => lhs; whnf
 . rfl
 . conv => lhs; whnf; arg 1; whnf
 . conv => lhs; whnf; arg 1; whnf
 . exact ⟨by kernel_rfl,by kernel_rfl⟩
 . rfl
|exact Or.inl ⟨pn 0,_,rfl⟩
|refine Or.inr ?_
|apply g_pr zv zY (default : D) rfl
 . conv => lhs; whnf
 . conv => lhs; whnf
 . rfl
 . conv => lhs; whnf; arg 1; whnf
 . first | exact zAD _
 . first | exact hv
 . exact fun _ => rfl
 . first | (intro _ _; simp only [renL,renV,ren_cells]; done) | exact fun _ _ => rfl
 . rfl
 refine fun ee hq tm rs => ?_
 change _ = Out.die _
 rotate_left 1
 refine fun aa xx hq => ?_
 rotate_left 1
 refine fun ee hq => ?_
|show inO _ _ = true; rfl
|apply zEd [aa] rfl rfl
 . conv => lhs; whnf
 . first | exact zCM | (conv => lhs; whnf; arg 1; whnf)
 . rfl
 . rfl
 . repeat' (first | exact trivial | apply And.intro | rfl)
|apply zEd [default] rfl rfl
 . conv => lhs; whnf
 . first | exact zCM | (conv => lhs; whnf; arg 1; whnf)
 . rfl
 . rfl
 . repeat' (first | exact trivial | apply And.intro | rfl)
|apply s_m zv zY rfl
 . conv => lhs; whnf
 . conv => lhs; whnf
 . rfl
 . conv => lhs; whnf; arg 1; whnf
 . first | exact zAD _
 . first | exact hs | exact hn
 . exact fun _ => rfl
 . exact fun _ => rfl
|refine zA ?_
|refine zI ?_
|refine zb ?_
|refine zU ?_
|apply aw_1
 conv => whnf
 refine ⟨?_,trivial⟩
|apply s_1
 conv => whnf; arg 1; arg 4; arg 3; whnf
 refine ⟨?_,?_⟩
|apply zr rfl rfl rfl
 . conv => lhs; whnf
 . conv => lhs; whnf; arg 1; whnf
 . conv => lhs; whnf; arg 1; whnf
 . exact ⟨by kernel_rfl,by kernel_rfl⟩
 . rfl
|refine zT (by conv => lhs; whnf) ?_ ?_ <;> intro hb
|refine zG ?_
|refine zK ?_
|refine zC ?_
|refine zB rfl ?_
|refine zD ?_
|apply zAB rfl
 . conv => lhs; whnf; arg 2; whnf
 . conv => lhs; whnf; arg 1; whnf
|exact trivial)
       all_goals first
        | exact zo (by omega)
        | (refine ⟨by simp,?_,?_⟩ <;> simp only [List.length_cons,List.length_nil,maxLen] <;> omega)
        | (rw [items_end ‹_›]; rfl)
        | (rw [zHz ‹_›,then_err hq]; rfl)
        | skip
       have hx:=hz.valueL hq
       refine zh (j':=j) (by omega) ⟨xx,acc ++ [aa],hx.1,by omega,by rw [List.length_append]; simp only [List.length_cons,List.length_nil]; omega,by rw [zHz ‹_›,zm hq],Sub.live ⟨rfl,rfl,rfl,rfl,trivial⟩ ⟨rfl,rfl,rfl,?_,trivial⟩⟩
       show some (Res.tok _ (acc.length + 1)) = some (Res.tok _ (acc ++ [aa]).length)
       rw [List.length_append]; rfl
     . have g1 : ¬ 24 < lv:=by have g1 : decide ((lv : Int) > 24) = false:=by assumption
                               simp at g1; omega
       have g : nd < 4096:=by assumption
       have hgo:=hvg g1 (by show ¬ 4096 <= nd; omega)
       rw [hh,<- hy,vt_o ‹_› ‹_› ‹_› ‹_› ‹_›] at hgo
       rw [hgo]
       clear hs1 hs2 hs3 hli hn hnu hvt hve hvi hvb hnm hf3 hf5 hvg hv4 hv5 hgo k1 k2 k3
       refine z8 ((Sub.ownF (m:=9) (q:=901) (i:=3) (e:=62) rfl (by decide) rfl rfl rfl).trans (Sub.ownF (m:=9) (q:=902) (i:=4) (e:=9) rfl (by decide) rfl rfl rfl)) ?_
       refine z7 (fun j st => ∃ z ks acc,En z /\ z.ts.length < j /\ acc.length + z.ts.length <= y.ts.length /\ ks.length = acc.length /\ zAV (valueQ f (lv + 1)) (y.ts.length + 1) [] [] y = zAV (valueQ f (lv + 1)) j ks acc z /\ Sub (cxE EN5 Tryz.prog pas w0 w he hp (outQ VV (zw (zAV (valueQ f (lv + 1)) (y.ts.length + 1) [] [] y) fun l z => .ok (valD 6 0 [] l.2 l.1,z)))) st (HvO lv z ks acc)) (y.ts.length + 1) ⟨y,[],[],hen,by omega,by simp,rfl,rfl,?_⟩ ?_
       . exact Sub.live ⟨rfl,rfl,rfl,rfl,trivial⟩ ⟨rfl,rfl,rfl,rfl,rfl,trivial⟩
       rintro j st ⟨z,ks,acc,hz,hzj,hzl,hka,hI,hsub⟩
       refine z8 hsub ?_
       clear hsub
       rw [hI]
       clear hI
       cases j with
       | zero => omega
       | succ j =>
       have hs:=zAv hz [125]
       have hn:=zBC hz
       have hnm:=zCH hz
       obtain ⟨t2,r2,ht2⟩:=hz.cons
       have hh2:=zAu ht2
       have hf7:=zA8 (hdT z) 7
       rw [hh2] at hf7
       have hcon : ∀ k,AC EN5 Tryz.prog 186 [.sl 9 (ks.map strD),.c (.string (bs k))] (.c (.bool (hasL (ks.map strD) (bs k)))):=fun k => zGe _ _ (by rw [List.length_map]; omega)
       have htk : ∀ {k y},nameQ z = .ok (k,y) -> ACE EN5 Tryz.prog 116 [.bx (pn 0) 0,.c (.string (bs [58]))] [boxP y] (outQ (fun _ => .agg (tokC (hdT y))) (takeQ [58] y)):=fun hq => zEq (hz.name hq).1 [58]
       have hv : ∀ {k y u z2},nameQ z = .ok (k,y) -> takeQ [58] y = .ok (u,z2) -> ACE EN5 Tryz.prog 155 [.bx (pn 0) 0,.c (.int .i64 ((lv + 1 : Nat) : Int))] [boxP z2] (outQ VV (valueQ f (lv + 1) z2)):=fun h1 h2 =>
        ih (lv + 1) _ ((hz.name h1).1.take h2).1 (by have:=hz.name h1; have:=this.1.take h2; omega) (by omega) (by omega)
       have hlz : z.ts.length <= 100000:=by omega
       obtain ⟨zts,zvr,znd⟩:=z
       cases ht2
       repeat' (first
|apply zA5 (VV (valD 6 0 [] acc ks)) rfl rfl
 . conv => lhs; whnf; arg 2; whnf
 . repeat' (first | exact VLe.refl _ | exact VLe.nil _ | exact VLe.lit _ _ | exact VLe.own _ _ _ | apply VLe.agg | apply VLeL.cons | exact VLeL.nil)
|apply zBJ 10 ([(1,[9])]) ([(5,[1000000]),(7,[901]),(9,[9])]) rfl (by kernel_rfl) (by kernel_rfl) (by kernel_rfl)
|apply zEc
|apply zEb rfl
 . conv => lhs; whnf
 . conv => lhs; whnf; arg 2; whnf
|apply g_app rfl rfl
 . conv => lhs; whnf
 . first | exact zCM | exact zEM | (conv => lhs; whnf; arg 1; whnf)
 . first | exact fun _ => rfl | (intro _; kernel_rfl)
 . conv => lhs; whnf
 . rfl
 . conv => lhs; whnf; arg 1; whnf
 . conv => lhs; whnf
|apply zBn rfl rfl rfl
 . conv => lhs; whnf
 . rfl
 . conv => lhs; whnf; arg 1; whnf
 . conv => lhs; whnf; arg 1; whnf
 . exact ⟨by kernel_rfl,by kernel_rfl⟩
 . rfl
|exact Or.inl ⟨pn 0,_,rfl⟩
|refine Or.inr ?_
|apply g_pr zv zY (default : D) rfl
 . conv => lhs; whnf
 . conv => lhs; whnf
 . rfl
 . conv => lhs; whnf; arg 1; whnf
 . first | exact zAD _
 . first | exact hv ‹_› ‹_›
 . exact fun _ => rfl
 . first | (intro _ _; simp only [renL,renV,ren_cells]; done) | exact fun _ _ => rfl
 . rfl
 refine fun ee hq tm rs => ?_
 change _ = Out.die _
 rotate_left 1
 refine fun aa xx hq => ?_
 rotate_left 1
 refine fun ee hq => ?_
|show inO _ _ = true; rfl
|apply zEd [aa] rfl rfl
 . conv => lhs; whnf
 . first | exact zCM | exact zEM | (conv => lhs; whnf; arg 1; whnf)
 . rfl
 . rfl
 . repeat' (first | exact trivial | apply And.intro | rfl)
|apply zEd [default] rfl rfl
 . conv => lhs; whnf
 . first | exact zCM | exact zEM | (conv => lhs; whnf; arg 1; whnf)
 . rfl
 . rfl
 . repeat' (first | exact trivial | apply And.intro | rfl)
|apply s_m zv zY rfl
 . conv => lhs; whnf
 . conv => lhs; whnf
 . rfl
 . conv => lhs; whnf; arg 1; whnf
 . first | exact zAD _
 . first | exact hs | exact hn
 . exact fun _ => rfl
 . exact fun _ => rfl
|apply s_pr zv zY rfl
 . conv => lhs; whnf
 . conv => lhs; whnf
 . rfl
 . conv => lhs; whnf; arg 1; whnf
 . first | exact zAD _
 . first | exact hnm | exact htk ‹_›
 . exact fun _ => rfl
 . first | (intro _ _; simp only [renL,renV,ren_cells]; done) | exact fun _ _ => rfl
 refine fun ee hq => ?_
 change _ = Out.die _
 rotate_left 1
 refine fun aa xx hq => ?_
 first | (replace hq:=zAp hq; obtain ⟨hq,rfl⟩:=hq) | (cases hq; have hq:=True.intro) | skip
|apply zCE rfl
 . conv => lhs; whnf
 . first | exact hf7
 . first | exact fun _ => rfl | (intro _; simp only [renL,renV,ren_cells])
 change _ = Out.die _
|refine zA ?_
|refine zI ?_
|refine zb ?_
|refine zU ?_
|apply aw_1
 conv => whnf
 refine ⟨?_,trivial⟩
|apply s_1
 conv => whnf; arg 1; arg 4; arg 3; whnf
 refine ⟨?_,?_⟩
|apply zd rfl
 . conv => lhs; whnf
 . conv => lhs; whnf
 . first | exact hcon _
|apply zr rfl rfl rfl
 . conv => lhs; whnf
 . conv => lhs; whnf; arg 1; whnf
 . conv => lhs; whnf; arg 1; whnf
 . exact ⟨by kernel_rfl,by kernel_rfl⟩
 . rfl
|apply zBK rfl rfl
 . conv => lhs; whnf
 . first | exact zCM | exact zEM | (conv => lhs; whnf; arg 1; whnf)
 . first | exact fun _ => rfl | (intro _; kernel_rfl)
 . conv => lhs; whnf
 . conv => lhs; whnf; arg 1; whnf
 . conv => lhs; whnf
|apply zAn rfl rfl
 . conv => lhs; whnf
 . first | exact zCM | exact zEM | (conv => lhs; whnf; arg 1; whnf)
 . conv => lhs; whnf; arg 1; whnf
 . rfl
 . rfl
|refine zT (by conv => lhs; whnf) ?_ ?_ <;> intro hb
|refine zG ?_
|refine zB rfl ?_
|refine zD ?_
|apply zAB rfl
 . conv => lhs; whnf; arg 2; whnf
 . conv => lhs; whnf; arg 1; whnf
|exact trivial)
       all_goals first
        | exact zBf _ _
        | exact zo (by omega)
        | (refine ⟨by simp,?_,?_⟩ <;> simp only [List.length_map,List.length_cons,List.length_nil,maxLen] <;> omega)
        | (rw [fields_end ‹_›]; rfl)
        | (rw [fl_nm ‹_› ‹_›]; rfl)
        | (rw [fl_dup ‹_› ‹_› ‹_›]; rfl)
        | (rw [fl_col ‹_› ‹_› ‹_› ‹_›]; rfl)
        | (rw [fl_val ‹_› ‹_› ‹_› ‹_› ‹_›]; rfl)
        | skip
       rename_i kk yy hnm1 uu zz htk1
       have l1:=hz.name hnm1
       have l2:=l1.1.take htk1
       have l3:=l2.1.valueL hq
       refine zh (j':=j) (by omega) ⟨xx,ks ++ [kk],acc ++ [aa],l3.1,by omega,by rw [List.length_append]; simp only [List.length_cons,List.length_nil]; omega,by rw [List.length_append,List.length_append,hka]; rfl,fl_ok ‹_› hnm1 hb htk1 hq,Sub.live ⟨rfl,rfl,rfl,rfl,trivial⟩ ⟨rfl,rfl,?_,?_,?_,trivial⟩⟩
       . show some (Res.box _ [_,_,_,V.own 901 _ (acc ++ [aa]),V.own 902 _ (ks.map strD ++ [D.str (bs kk)])]) = some (Res.box _ [_,_,_,V.own 901 _ (acc ++ [aa]),V.own 902 _ ((ks ++ [kk]).map strD)])
         rw [List.map_append]; rfl
       . show some (Res.tok _ (acc.length + 1)) = some (Res.tok _ (acc ++ [aa]).length)
         rw [List.length_append]; rfl
       . show some (Res.tok _ ((ks.map strD).length + 1)) = some (Res.tok _ ((ks ++ [kk]).map strD).length)
         rw [List.map_append,List.length_append]; rfl
theorem zFv (x : PS) (h : En x) (hlen : x.ts.length <= 100000) : ACE EN5 Tryz.prog 120 [.bx (pn 0) 0] [boxP x] (outQ VV (zAx x)):=by
 have hv:=zFx 25 1 ⟨x.ts,x.vr,0⟩ h hlen rfl (by omega)
 have e : zAx x = valueQ 25 1 ⟨x.ts,x.vr,0⟩:=rfl
 rw [e]
 obtain ⟨ts,vr,nd⟩:=x
 refine zAX (fn:=Tryz.f120) 8 Tryz.func120 rfl rfl ?_
 intro pas w0 w he hp
 repeat' (first
|apply s_pr zv zY rfl
 . conv => lhs; whnf
 . conv => lhs; whnf
 . rfl
 . conv => lhs; whnf; arg 1; whnf
 . first | exact zAD _ | exact etaP3 _ _
 . first | exact hv
 . exact fun _ => rfl
 . first | (intro _ _; simp only [renL,renV,ren_cells]; done) | exact fun _ _ => rfl
 refine fun ee hq => ?_
 change _ = Out.die _
 rotate_left 1
 refine fun aa xx hq => ?_
 first | (replace hq:=zAp hq; obtain ⟨hq,rfl⟩:=hq) | (cases hq; have hq:=True.intro) | skip
|refine zA ?_
|refine zI ?_
|refine zb ?_
|apply aw_1
 conv => whnf
 refine ⟨?_,trivial⟩
|apply s_1
 conv => whnf; arg 1; arg 4; arg 3; whnf
 refine ⟨?_,?_⟩
|apply zr rfl rfl rfl
 . conv => lhs; whnf
 . conv => lhs; whnf; arg 1; whnf
 . conv => lhs; whnf; arg 1; whnf
 . exact ⟨by kernel_rfl,by kernel_rfl⟩
 . rfl
|apply zAB rfl
 . conv => lhs; whnf; arg 2; whnf
 . conv => lhs; whnf; arg 1; whnf
|exact trivial)
 . rw [hq]; rfl
 . rw [hq]; rfl
end Go.Proofs.YtdlnnlglmifceaaGreatDoor
namespace Go.Proofs.YtdlnnlglmifceaaGreatDoor
open Go.RowKit
attribute [local irreducible] wpList Calls Code.wp AW AWo OpOk seqK zAP zAR loopK endK AC zy Yld Sub
attribute [local irreducible] ACB ACX ACE absLexG YldG
theorem ACE.le {e : Ge} {P : Program} {f : FuncId} {args : List V} {bs : List Res} {ε α S : Type} {tR : TypeId} {cl : S -> List V} {toV toV' : α -> V} {toP : ε -> Value} {r : Except ε (α × S)} (hle : ∀ a,VLe (toV a) (toV' a)) (h : ACE e P f args bs (outP tR cl toV toP r)) : ACE e P f args bs (outP tR cl toV' toP r):=by
 cases r with
 | error q => exact h
 | ok q =>
   obtain ⟨a,x⟩:=q
   unfold ACE outP at h |-
   exact ACB.res h (hle a)
theorem zDR : zAS Tryz.prog 54 = some (68,96):=by kernel_rfl
theorem zDQ : zAS Tryz.prog 55 = some (129,40):=by kernel_rfl
def rawA (l : List D) : V:=match l with | [] => .c (.slice none 0 0) | _ => .sl 68 l
noncomputable def HaL (y : PS) (acc : List D) : Vst 45:=
 stS 45 [(0,.bx (pn 0) 0),(3,.own 3 68 acc)] [(pn 0,boxP y),(3,.tok 68 acc.length)]
section
variable {j : Nat} {acc : List D} {z y z2 u2 : PS} {k : List UInt8} {e : Nat × Int} {u : Unit} {a : D}
theorem al_end (h0 : acc.length ≠ 0) (h : isS z [41] = true) : argsF (j + 1) acc z = .ok (acc,nxT z):=by rw [argsF,if_pos ⟨h0,h⟩]
theorem al_go (h : acc.length = 0 \/ isS z [41] = false) : argsF (j + 1) acc z = if (hdT z).k = 2 /\ 16 <= acc.length then .error ((hdT z).i,4) else zw (nameQ z) fun n y => zw (takeQ [58] y) fun _ z => zw (zAx z) fun v u => argsF j (acc ++ [argD n v]) u:=by
 rw [argsF,if_neg (fun hh => by rcases h with h | h; exact hh.1 h; rw [h] at hh; cases hh.2)]
theorem al_lim (h : acc.length = 0 \/ isS z [41] = false) (hk : (hdT z).k = 2) (hl : 16 <= acc.length) : argsF (j + 1) acc z = .error ((hdT z).i,4):=by rw [al_go h,if_pos ⟨hk,hl⟩]
theorem al_nm (h : acc.length = 0 \/ isS z [41] = false) (hl : (hdT z).k = 2 -> acc.length < 16) (h1 : nameQ z = .error e) : argsF (j + 1) acc z = .error e:=by rw [al_go h,if_neg (fun hh => by have:=hl hh.1; omega),then_err h1]
theorem al_col (h : acc.length = 0 \/ isS z [41] = false) (hl : (hdT z).k = 2 -> acc.length < 16) (h1 : nameQ z = .ok (k,y)) (h2 : takeQ [58] y = .error e) : argsF (j + 1) acc z = .error e:=by rw [al_go h,if_neg (fun hh => by have:=hl hh.1; omega),zm h1,then_err h2]
theorem al_val (h : acc.length = 0 \/ isS z [41] = false) (hl : (hdT z).k = 2 -> acc.length < 16) (h1 : nameQ z = .ok (k,y)) (h2 : takeQ [58] y = .ok (u,z2)) (h3 : zAx z2 = .error e) : argsF (j + 1) acc z = .error e:=by rw [al_go h,if_neg (fun hh => by have:=hl hh.1; omega),zm h1,zm h2,then_err h3]
theorem al_ok (h : acc.length = 0 \/ isS z [41] = false) (hl : (hdT z).k = 2 -> acc.length < 16) (h1 : nameQ z = .ok (k,y)) (h2 : takeQ [58] y = .ok (u,z2)) (h3 : zAx z2 = .ok (a,u2)) : argsF (j + 1) acc z = argsF j (acc ++ [argD k a]) u2:=by rw [al_go h,if_neg (fun hh => by have:=hl hh.1; omega),zm h1,zm h2,zm h3]
end
theorem En.wholeL {x y : PS} {v : D} (h : En x) (hq : zAx x = .ok (v,y)) : En y /\ y.ts.length < x.ts.length:=En.valueL (x:=⟨x.ts,x.vr,0⟩) h hq
theorem args_raw (x : PS) (h : En x) (hlen : x.ts.length <= 100000) : ACE EN5 Tryz.prog 152 [.bx (pn 0) 0] [boxP x] (outQ rawA (argsQ x)):=by
 have hs:=zAv h [40]
 have hn:=zBC h
 have e : isS x [40] = true -> argsQ x = argsF x.ts.length [] (nxT x):=fun h => by rw [argsQ,if_pos h]
 refine zAX (fn:=Tryz.f152) 45 Tryz.func152 rfl rfl ?_
 intro pas w0 w he hp
 repeat' (first
|apply s_m zv zY rfl
 . conv => lhs; whnf
 . conv => lhs; whnf
 . rfl
 . conv => lhs; whnf; arg 1; whnf
 . first | exact zAD _
 . first | exact hs | exact hn
 . exact fun _ => rfl
 . exact fun _ => rfl
|apply zAT zv zY rfl
 . conv => lhs; whnf
 . conv => lhs; whnf
 . first | rfl | assumption
 . conv => lhs; whnf
 . rfl
 . conv => lhs; whnf; arg 1; whnf
 . first | exact zAD _
 . first | exact hs | exact hn
 . exact fun _ => rfl
 . exact fun _ => rfl
|apply zl rfl
 . conv => lhs; whnf
 . conv => lhs; whnf
 . first | rfl | assumption
|apply zAI rfl
 . conv => lhs; whnf
 . rfl
 . rfl
|apply zAs zv zY rfl
 . conv => lhs; whnf
 . conv => lhs; whnf
 . conv => lhs; whnf
 . rfl
 . conv => lhs; whnf; arg 1; whnf
 . first | exact zAD _
 . first | exact hs | exact hn
 . exact fun _ => rfl
 . exact fun _ => rfl
|refine zA ?_
|refine zI ?_
|refine zb ?_
|refine zU ?_
|refine za ?_
|apply aw_1
 conv => whnf
 refine ⟨?_,trivial⟩
|apply zg rfl rfl
 . conv => lhs; whnf
 . conv => lhs; whnf
 . first | exact bT1 ‹_› | exact bT2 ‹_›
|apply ze rfl rfl
 . conv => lhs; whnf
 . conv => lhs; whnf
 . first | exact bF1 ‹_› | exact bF2 ‹_›
|apply s_1
 conv => whnf; arg 1; arg 4; arg 3; whnf
 refine ⟨?_,?_⟩
|apply zt rfl
 . conv => lhs; whnf
 . conv => lhs; whnf; arg 2; whnf
|apply zd rfl
 . conv => lhs; whnf
 . conv => lhs; whnf
 . first | fail
|apply zAA rfl rfl rfl rfl
 . conv => lhs; whnf; arg 1; whnf
 . rfl
|apply zr rfl rfl rfl
 . conv => lhs; whnf
 . conv => lhs; whnf; arg 1; whnf
 . conv => lhs; whnf; arg 1; whnf
 . exact ⟨by kernel_rfl,by kernel_rfl⟩
 . rfl
|apply zBK rfl rfl
 . conv => lhs; whnf
 . first | (conv => lhs; whnf; arg 1; whnf)
 . first | exact fun _ => rfl | (intro _; kernel_rfl)
 . conv => lhs; whnf
 . conv => lhs; whnf; arg 1; whnf
 . conv => lhs; whnf
|apply zAJ rfl rfl rfl rfl
 . first | (conv => lhs; whnf; arg 1; whnf)
 . first | exact fun _ => rfl | (intro _; kernel_rfl)
 . conv => lhs; whnf
 . conv => lhs; whnf
|apply zAr rfl rfl
 . conv => lhs; whnf
 . first | (conv => lhs; whnf; arg 1; whnf)
|apply zAn rfl rfl
 . conv => lhs; whnf
 . first | (conv => lhs; whnf; arg 1; whnf)
 . conv => lhs; whnf; arg 1; whnf
 . rfl
 . rfl
|apply zAc rfl rfl
 . conv => lhs; whnf
 . first | (conv => lhs; whnf; arg 1; whnf)
 . first | exact fun _ => rfl | (intro _; kernel_rfl)
 . conv => lhs; whnf
 . conv => lhs; whnf
|apply zM rfl
 . conv => lhs; whnf
 . conv => lhs; whnf
 . first | rfl | assumption
 . conv => lhs; whnf; arg 2; whnf
|apply zR rfl
 . conv => lhs; whnf
 . conv => lhs; whnf
 . first | rfl | assumption
 . conv => lhs; whnf
 . first | fail
|apply zB3 rfl
 . conv => lhs; whnf
 . conv => lhs; whnf
 . first | rfl | assumption
|apply zn rfl
 . conv => lhs; whnf
 . conv => lhs; whnf
 . conv => lhs; whnf; arg 2; whnf
|apply zk rfl
 . conv => lhs; whnf
 . conv => lhs; whnf
 . conv => lhs; whnf
 . first | fail
|apply zN
 . conv => lhs; whnf; arg 1; arg 1; whnf
|apply zO
 . conv => lhs; whnf; arg 1; arg 1; whnf
|refine zT (by conv => lhs; whnf) ?_ ?_ <;> intro hb
|refine zj ?_
|refine zZ ?_
|refine zG ?_
|refine zK ?_
|refine zC ?_
|refine zB rfl ?_
|refine zE rfl ?_
|refine zF ?_
|refine zJ ?_
|refine zD ?_
|refine zL ?_
|apply zAB rfl
 . conv => lhs; whnf; arg 2; whnf
 . conv => lhs; whnf; arg 1; whnf
|apply zAN rfl
 . conv => lhs; whnf; arg 1; whnf
|apply zAE rfl
 . conv => lhs; whnf; arg 2; whnf
 . conv => lhs; whnf; arg 1; whnf
|apply zAF rfl
 . conv => lhs; whnf; arg 1; whnf
|refine ⟨_,by conv => lhs; whnf; arg 2; whnf,?_⟩; conv => rhs; whnf
|exact trivial
|intro hg)
 . rw [argsQ,if_neg (by simpa using hb)]; rfl
 . have hb : isS x [40] = true:=by simpa using hb
   have hx:=h.sg hb
   rw [e hb]
   clear hs hn e
   refine z8 (Sub.own (t:=3) (e:=68) rfl rfl) ?_
   refine z7 (fun j st => ∃ z acc,En z /\ z.ts.length <= j /\ acc.length + z.ts.length <= x.ts.length /\ argsF x.ts.length [] (nxT x) = argsF j acc z /\ Sub (cxE EN5 Tryz.prog pas w0 w he hp (outQ rawA (argsF x.ts.length [] (nxT x)))) st (HaL z acc)) x.ts.length ⟨nxT x,[],hx.1,by omega,by simp; omega,rfl,?_⟩ ?_
   . exact Sub.live ⟨rfl,rfl,trivial⟩ ⟨rfl,rfl,trivial⟩
   rintro j st ⟨z,acc,hz,hzj,hzl,hI,hsub⟩
   refine z8 hsub ?_
   clear hsub
   rw [hI]
   clear hI
   obtain ⟨t,r,ht⟩:=hz.cons
   cases j with
   | zero => rw [ht] at hzj; simp at hzj
   | succ j =>
   have hs:=zAv hz [41]
   have hn:=zBC hz
   have hnm:=zCH hz
   have hli:=zDL hz acc.length 16
   have htk : ∀ {k y},nameQ z = .ok (k,y) -> ACE EN5 Tryz.prog 116 [.bx (pn 0) 0,.c (.string (bs [58]))] [boxP y] (outQ (fun _ => .agg (tokC (hdT y))) (takeQ [58] y)):=fun hq => zEq (hz.name hq).1 [58]
   have hw : ∀ {k y u z2},nameQ z = .ok (k,y) -> takeQ [58] y = .ok (u,z2) -> ACE EN5 Tryz.prog 120 [.bx (pn 0) 0] [boxP z2] (outQ VV (zAx z2)):=fun h1 h2 =>
    zFv _ ((hz.name h1).1.take h2).1 (by have:=hz.name h1; have:=this.1.take h2; omega)
   have hh:=zAu ht
   obtain ⟨zts,zvr,znd⟩:=z
   cases ht
   have A1 : (((acc.length : Int) == 0) == false) = false -> acc.length = 0 \/ isS ⟨t :: r,zvr,znd⟩ [41] = false:=fun h => .inl (by simp at h; simp [h])
   have A2 : (!isS ⟨t :: r,zvr,znd⟩ [41]) = true -> acc.length = 0 \/ isS ⟨t :: r,zvr,znd⟩ [41] = false:=fun h => .inr (by simpa using h)
   have L1 : acc.length < 16 -> (hdT ⟨t :: r,zvr,znd⟩).k = 2 -> acc.length < 16:=fun h _ => h
   have L2 : (t.k == 2) = false -> (hdT ⟨t :: r,zvr,znd⟩).k = 2 -> acc.length < 16:=fun h h2 => by rw [hh] at h2; rw [h2] at h; cases h
   have K1 : (t.k == 2) = true -> (hdT ⟨t :: r,zvr,znd⟩).k = 2:=fun h => by rw [hh]; simpa using h
   have E2 : (!isS ⟨t :: r,zvr,znd⟩ [41]) = false -> isS ⟨t :: r,zvr,znd⟩ [41] = true:=fun h => by simpa using h
   have E1 : (((acc.length : Int) == 0) == false) = true -> acc.length ≠ 0:=fun h => by simp at h; intro h2; rw [List.eq_nil_of_length_eq_zero h2] at h; exact h rfl
   repeat' (first
|apply s_wanted_pick_t rfl rfl rfl
 . conv => lhs; whnf
 . first | rfl | assumption
 . conv => lhs; whnf
 . first | exact bT1 ‹_› | exact bT2 ‹_› | rfl
|apply zq rfl rfl rfl
 . conv => lhs; whnf
 . first | rfl | assumption
 . conv => lhs; whnf
 . first | exact bT1 ‹_› | exact bT2 ‹_› | rfl
|apply s_wanted_pick_f rfl rfl rfl
 . conv => lhs; whnf
 . first | rfl | assumption
 . conv => lhs; whnf
 . first | exact bF1 ‹_› | exact bF2 ‹_› | rfl
|apply zu rfl rfl rfl
 . conv => lhs; whnf
 . first | rfl | assumption
 . conv => lhs; whnf
 . first | exact bF1 ‹_› | exact bF2 ‹_› | rfl
|apply s_m zv zY rfl
 . conv => lhs; whnf
 . conv => lhs; whnf
 . rfl
 . conv => lhs; whnf; arg 1; whnf
 . first | exact zAD _
 . first | exact hs | exact hn
 . exact fun _ => rfl
 . exact fun _ => rfl
|apply zAT zv zY rfl
 . conv => lhs; whnf
 . conv => lhs; whnf
 . first | rfl | assumption
 . conv => lhs; whnf
 . rfl
 . conv => lhs; whnf; arg 1; whnf
 . first | exact zAD _
 . first | exact hs | exact hn
 . exact fun _ => rfl
 . exact fun _ => rfl
|apply zl rfl
 . conv => lhs; whnf
 . conv => lhs; whnf
 . first | rfl | assumption
|apply zAI rfl
 . conv => lhs; whnf
 . rfl
 . rfl
|apply zAs zv zY rfl
 . conv => lhs; whnf
 . conv => lhs; whnf
 . conv => lhs; whnf
 . rfl
 . conv => lhs; whnf; arg 1; whnf
 . first | exact zAD _
 . first | exact hs | exact hn
 . exact fun _ => rfl
 . exact fun _ => rfl
|apply s_pr zv zY rfl
 . conv => lhs; whnf
 . conv => lhs; whnf
 . rfl
 . conv => lhs; whnf; arg 1; whnf
 . first | exact zAD _
 . first | exact hli | exact hnm | exact htk ‹_› | exact hw ‹_› ‹_›
 . exact fun _ => rfl
 . first | (intro _ _; simp only [renL,renV,ren_cells]; done) | exact fun _ _ => rfl
 refine fun ee hq => ?_
 change _ = Out.die _
 rotate_left 1
 refine fun aa xx hq => ?_
 first | (replace hq:=zAp hq; obtain ⟨hq,rfl⟩:=hq) | (cases hq; have hq:=True.intro) | skip
|apply zF8 [argD _ _] rfl rfl
 . conv => lhs; whnf
 . first | exact zDR | (conv => lhs; whnf; arg 1; whnf)
 . rfl
 . rfl
 . repeat' (first | exact trivial | apply And.intro | rfl)
|refine zA ?_
|refine zI ?_
|refine zb ?_
|refine zU ?_
|refine za ?_
|apply aw_1
 conv => whnf
 refine ⟨?_,trivial⟩
|apply zg rfl rfl
 . conv => lhs; whnf
 . conv => lhs; whnf
 . first | exact bT1 ‹_› | exact bT2 ‹_›
|apply ze rfl rfl
 . conv => lhs; whnf
 . conv => lhs; whnf
 . first | exact bF1 ‹_› | exact bF2 ‹_›
|apply s_1
 conv => whnf; arg 1; arg 4; arg 3; whnf
 refine ⟨?_,?_⟩
|apply zt rfl
 . conv => lhs; whnf
 . conv => lhs; whnf; arg 2; whnf
|apply zd rfl
 . conv => lhs; whnf
 . conv => lhs; whnf
 . first | fail
|apply zAA rfl rfl rfl rfl
 . conv => lhs; whnf; arg 1; whnf
 . rfl
|apply zr rfl rfl rfl
 . conv => lhs; whnf
 . conv => lhs; whnf; arg 1; whnf
 . conv => lhs; whnf; arg 1; whnf
 . exact ⟨by kernel_rfl,by kernel_rfl⟩
 . rfl
|apply zBK rfl rfl
 . conv => lhs; whnf
 . first | exact zDR | (conv => lhs; whnf; arg 1; whnf)
 . first | exact fun _ => rfl | (intro _; kernel_rfl)
 . conv => lhs; whnf
 . conv => lhs; whnf; arg 1; whnf
 . conv => lhs; whnf
|apply zAJ rfl rfl rfl rfl
 . first | exact zDR | (conv => lhs; whnf; arg 1; whnf)
 . first | exact fun _ => rfl | (intro _; kernel_rfl)
 . conv => lhs; whnf
 . conv => lhs; whnf
|apply zAr rfl rfl
 . conv => lhs; whnf
 . first | exact zDR | (conv => lhs; whnf; arg 1; whnf)
|apply zAn rfl rfl
 . conv => lhs; whnf
 . first | exact zDR | (conv => lhs; whnf; arg 1; whnf)
 . conv => lhs; whnf; arg 1; whnf
 . rfl
 . rfl
|apply zAc rfl rfl
 . conv => lhs; whnf
 . first | exact zDR | (conv => lhs; whnf; arg 1; whnf)
 . first | exact fun _ => rfl | (intro _; kernel_rfl)
 . conv => lhs; whnf
 . conv => lhs; whnf
|apply zM rfl
 . conv => lhs; whnf
 . conv => lhs; whnf
 . first | rfl | assumption
 . conv => lhs; whnf; arg 2; whnf
|apply zR rfl
 . conv => lhs; whnf
 . conv => lhs; whnf
 . first | rfl | assumption
 . conv => lhs; whnf
 . first | fail
|apply zl rfl
 . conv => lhs; whnf
 . conv => lhs; whnf
 . first | rfl | assumption
|apply zAI rfl
 . conv => lhs; whnf
 . rfl
 . rfl
|apply zP rfl
 . conv => lhs; whnf
 . conv => lhs; whnf
 . conv => lhs; whnf; arg 2; whnf
|apply zp rfl
 . conv => lhs; whnf
 . conv => lhs; whnf
 . conv => lhs; whnf
 . first | fail
|apply zn rfl
 . conv => lhs; whnf
 . conv => lhs; whnf
 . conv => lhs; whnf; arg 2; whnf
|apply zk rfl
 . conv => lhs; whnf
 . conv => lhs; whnf
 . conv => lhs; whnf
 . first | fail
|apply zN
 . conv => lhs; whnf; arg 1; arg 1; whnf
|apply zO
 . conv => lhs; whnf; arg 1; arg 1; whnf
|refine zT (by conv => lhs; whnf) ?_ ?_ <;> intro hb
|refine zj ?_
|refine zZ ?_
|refine zG ?_
|refine zK ?_
|refine zC ?_
|refine zB rfl ?_
|refine zE rfl ?_
|refine zF ?_
|refine zJ ?_
|refine zD ?_
|refine zL ?_
|apply zAB rfl
 . conv => lhs; whnf; arg 2; whnf
 . conv => lhs; whnf; arg 1; whnf
|apply zAN rfl
 . conv => lhs; whnf; arg 1; whnf
|apply zAE rfl
 . conv => lhs; whnf; arg 2; whnf
 . conv => lhs; whnf; arg 1; whnf
|apply zAF rfl
 . conv => lhs; whnf; arg 1; whnf
|refine ⟨_,by conv => lhs; whnf; arg 2; whnf,?_⟩; conv => rhs; whnf
|exact trivial
|intro hg)
   all_goals first
    | exact zBf _ _
    | (refine ⟨by simp,?_,?_⟩ <;> simp only [List.length_cons,List.length_nil,maxLen] <;> omega)
    | (have h0:=E1 ‹_›
       have h1:=E2 ‹_›
       rw [al_end h0 h1]
       cases acc with
       | nil => exact (h0 rfl).elim
       | cons a b => rfl)
    | (have hA : acc.length = 0 \/ isS ⟨t :: r,zvr,znd⟩ [41] = false:=by first | exact A1 ‹_› | exact A2 ‹_›
       first
        | (rw [al_lim hA (K1 ‹_›) (zA1 hq).1,(zA1 hq).2]; rfl)
        | (have hL : (hdT ⟨t :: r,zvr,znd⟩).k = 2 -> acc.length < 16:=by first | exact L1 ‹_› | exact L2 ‹_›
           first
            | (rw [al_nm hA hL ‹_›]; rfl)
            | (rw [al_col hA hL ‹_› ‹_›]; rfl)
            | (rw [al_val hA hL ‹_› ‹_› ‹_›]; rfl)
            | (rename_i kk yy hnm1 uu zz htk1
               have l1:=hz.name hnm1
               have l2:=l1.1.take htk1
               have l3:=l2.1.wholeL hq
               refine zh (j':=j) (by omega) ⟨xx,acc ++ [argD kk aa],l3.1,by omega,by rw [List.length_append]; simp only [List.length_cons,List.length_nil]; omega,al_ok hA hL hnm1 htk1 hq,Sub.live ⟨rfl,rfl,trivial⟩ ⟨rfl,?_,trivial⟩⟩
               show some (Res.tok _ (acc.length + 1)) = some (Res.tok _ (acc ++ [argD kk aa]).length)
               rw [List.length_append]; rfl)))
    | skip
theorem zIS (x : PS) (h : En x) (hlen : x.ts.length <= 100000) : ACE EN5 Tryz.prog 152 [.bx (pn 0) 0] [boxP x] (outQ (fun l => .sl 68 l) (argsQ x)):=
 ACE.le (toV:=rawA) (fun l => by cases l with | nil => exact .nil _ | cons a b => exact .refl _) (args_raw x h hlen)
noncomputable def HdL (y : PS) (acc : List D) : Vst 24:=
 stS 24 [(0,.bx (pn 0) 0),(3,.own 3 129 acc)] [(pn 0,boxP y),(3,.tok 129 acc.length)]
section
variable {j : Nat} {acc : List D} {z y z2 u2 : PS} {k : List UInt8} {e : Nat × Int} {u : Unit} {a : List D}
theorem dl_end (h : isS z [64] = false) : dirsF (j + 1) acc z = .ok (acc,z):=by rw [dirsF,if_neg (by rw [h]; decide)]
theorem dl_lim (h : isS z [64] = true) (hl : 16 <= acc.length) : dirsF (j + 1) acc z = .error ((hdT z).i,4):=by rw [dirsF,if_pos h,if_pos hl]
theorem dl_nm (h : isS z [64] = true) (hl : acc.length < 16) (h1 : nameQ (nxT z) = .error e) : dirsF (j + 1) acc z = .error e:=by rw [dirsF,if_pos h,if_neg (by omega),then_err h1]
theorem dl_as (h : isS z [64] = true) (hl : acc.length < 16) (h1 : nameQ (nxT z) = .ok (k,y)) (h2 : argsQ y = .error e) : dirsF (j + 1) acc z = .error e:=by rw [dirsF,if_pos h,if_neg (by omega),zm h1,then_err h2]
theorem dl_ok (h : isS z [64] = true) (hl : acc.length < 16) (h1 : nameQ (nxT z) = .ok (k,y)) (h2 : argsQ y = .ok (a,u2)) : dirsF (j + 1) acc z = dirsF j (acc ++ [dirD k a]) u2:=by rw [dirsF,if_pos h,if_neg (by omega),zm h1,zm h2]
end
theorem zDq (x : PS) (h : En x) (hlen : x.ts.length <= 100000) : ACE EN5 Tryz.prog 153 [.bx (pn 0) 0] [boxP x] (outQ (fun l => .sl 129 l) (dirsQ x)):=by
 have e0 : dirsQ x = dirsF (x.ts.length + 1) [] x:=rfl
 rw [e0]
 refine zAX (fn:=Tryz.f153) 24 Tryz.func153 rfl rfl ?_
 intro pas w0 w he hp
 repeat' (first
|refine zA ?_
|refine zI ?_
|refine zb ?_
|refine zU ?_
|refine za ?_
|apply aw_1
 conv => whnf
 refine ⟨?_,trivial⟩
|apply s_1
 conv => whnf; arg 1; arg 4; arg 3; whnf
 refine ⟨?_,?_⟩
|apply zt rfl
 . conv => lhs; whnf
 . conv => lhs; whnf; arg 2; whnf
|apply zd rfl
 . conv => lhs; whnf
 . conv => lhs; whnf
 . first | fail
|apply zAA rfl rfl rfl rfl
 . conv => lhs; whnf; arg 1; whnf
 . rfl
|apply zr rfl rfl rfl
 . conv => lhs; whnf
 . conv => lhs; whnf; arg 1; whnf
 . conv => lhs; whnf; arg 1; whnf
 . exact ⟨by kernel_rfl,by kernel_rfl⟩
 . rfl
|apply zBK rfl rfl
 . conv => lhs; whnf
 . first | (conv => lhs; whnf; arg 1; whnf)
 . first | exact fun _ => rfl | (intro _; kernel_rfl)
 . conv => lhs; whnf
 . conv => lhs; whnf; arg 1; whnf
 . conv => lhs; whnf
|apply zAJ rfl rfl rfl rfl
 . first | (conv => lhs; whnf; arg 1; whnf)
 . first | exact fun _ => rfl | (intro _; kernel_rfl)
 . conv => lhs; whnf
 . conv => lhs; whnf
|apply zAr rfl rfl
 . conv => lhs; whnf
 . first | (conv => lhs; whnf; arg 1; whnf)
|apply zAn rfl rfl
 . conv => lhs; whnf
 . first | (conv => lhs; whnf; arg 1; whnf)
 . conv => lhs; whnf; arg 1; whnf
 . rfl
 . rfl
|apply zAc rfl rfl
 . conv => lhs; whnf
 . first | (conv => lhs; whnf; arg 1; whnf)
 . first | exact fun _ => rfl | (intro _; kernel_rfl)
 . conv => lhs; whnf
 . conv => lhs; whnf
|apply zN
 . conv => lhs; whnf; arg 1; arg 1; whnf
|apply zO
 . conv => lhs; whnf; arg 1; arg 1; whnf
|refine zT (by conv => lhs; whnf) ?_ ?_ <;> intro hb
|refine zj ?_
|refine zZ ?_
|refine zG ?_
|refine zK ?_
|refine zC ?_
|refine zB rfl ?_
|refine zE rfl ?_
|refine zF ?_
|refine zJ ?_
|refine zD ?_
|refine zL ?_
|apply zAB rfl
 . conv => lhs; whnf; arg 2; whnf
 . conv => lhs; whnf; arg 1; whnf
|apply zAN rfl
 . conv => lhs; whnf; arg 1; whnf
|apply zAE rfl
 . conv => lhs; whnf; arg 2; whnf
 . conv => lhs; whnf; arg 1; whnf
|apply zAF rfl
 . conv => lhs; whnf; arg 1; whnf
|refine ⟨_,by conv => lhs; whnf; arg 2; whnf,?_⟩; conv => rhs; whnf
|exact trivial
|intro hg)
 refine z8 (Sub.own (t:=3) (e:=129) rfl rfl) ?_
 refine z7 (fun j st => ∃ z acc,En z /\ z.ts.length < j /\ acc.length + z.ts.length <= x.ts.length /\ dirsF (x.ts.length + 1) [] x = dirsF j acc z /\ Sub (cxE EN5 Tryz.prog pas w0 w he hp (outQ (fun l => V.sl 129 l) (dirsF (x.ts.length + 1) [] x))) st (HdL z acc)) (x.ts.length + 1) ⟨x,[],h,by omega,by simp,rfl,?_⟩ ?_
 . exact Sub.live ⟨rfl,rfl,trivial⟩ ⟨rfl,rfl,trivial⟩
 rintro j st ⟨z,acc,hz,hzj,hzl,hI,hsub⟩
 refine z8 hsub ?_
 clear hsub
 rw [hI]
 clear hI
 cases j with
 | zero => omega
 | succ j =>
 have hs:=zAv hz [64]
 have hn:=zBC hz
 have hli:=zDL hz acc.length 16
 have hnm:=zCH hz.nx0
 have hxl:=nx_len z
 have hargs : ∀ {k y},nameQ (nxT z) = .ok (k,y) -> ACE EN5 Tryz.prog 152 [.bx (pn 0) 0] [boxP y] (outQ (fun l => .sl 68 l) (argsQ y)):=fun hq => zIS _ (hz.nx0.name hq).1 (by have:=hz.nx0.name hq; omega)
 repeat' (first
|apply s_m zv zY rfl
 . conv => lhs; whnf
 . conv => lhs; whnf
 . rfl
 . conv => lhs; whnf; arg 1; whnf
 . first | exact zAD _
 . first | exact hs | exact hn
 . exact fun _ => rfl
 . exact fun _ => rfl
|apply s_pr zv zY rfl
 . conv => lhs; whnf
 . conv => lhs; whnf
 . rfl
 . conv => lhs; whnf; arg 1; whnf
 . first | exact zAD _
 . first | exact hli | exact hnm | exact hargs ‹_›
 . exact fun _ => rfl
 . first | (intro _ _; simp only [renL,renV,ren_cells]; done) | exact fun _ _ => rfl
 refine fun ee hq => ?_
 change _ = Out.die _
 rotate_left 1
 refine fun aa xx hq => ?_
 first | (replace hq:=zAp hq; obtain ⟨hq,rfl⟩:=hq) | (cases hq; have hq:=True.intro) | skip
|apply zF8 [dirD _ _] rfl rfl
 . conv => lhs; whnf
 . first | exact zDQ | (conv => lhs; whnf; arg 1; whnf)
 . rfl
 . rfl
 . repeat' (first | exact trivial | apply And.intro | rfl)
|refine zA ?_
|refine zI ?_
|refine zb ?_
|refine zU ?_
|refine za ?_
|apply aw_1
 conv => whnf
 refine ⟨?_,trivial⟩
|apply s_1
 conv => whnf; arg 1; arg 4; arg 3; whnf
 refine ⟨?_,?_⟩
|apply zt rfl
 . conv => lhs; whnf
 . conv => lhs; whnf; arg 2; whnf
|apply zd rfl
 . conv => lhs; whnf
 . conv => lhs; whnf
 . first | fail
|apply zAA rfl rfl rfl rfl
 . conv => lhs; whnf; arg 1; whnf
 . rfl
|apply zr rfl rfl rfl
 . conv => lhs; whnf
 . conv => lhs; whnf; arg 1; whnf
 . conv => lhs; whnf; arg 1; whnf
 . exact ⟨by kernel_rfl,by kernel_rfl⟩
 . rfl
|apply zBK rfl rfl
 . conv => lhs; whnf
 . first | exact zDQ | (conv => lhs; whnf; arg 1; whnf)
 . first | exact fun _ => rfl | (intro _; kernel_rfl)
 . conv => lhs; whnf
 . conv => lhs; whnf; arg 1; whnf
 . conv => lhs; whnf
|apply zAJ rfl rfl rfl rfl
 . first | exact zDQ | (conv => lhs; whnf; arg 1; whnf)
 . first | exact fun _ => rfl | (intro _; kernel_rfl)
 . conv => lhs; whnf
 . conv => lhs; whnf
|apply zAr rfl rfl
 . conv => lhs; whnf
 . first | exact zDQ | (conv => lhs; whnf; arg 1; whnf)
|apply zAn rfl rfl
 . conv => lhs; whnf
 . first | exact zDQ | (conv => lhs; whnf; arg 1; whnf)
 . conv => lhs; whnf; arg 1; whnf
 . rfl
 . rfl
|apply zAc rfl rfl
 . conv => lhs; whnf
 . first | exact zDQ | (conv => lhs; whnf; arg 1; whnf)
 . first | exact fun _ => rfl | (intro _; kernel_rfl)
 . conv => lhs; whnf
 . conv => lhs; whnf
|apply zN
 . conv => lhs; whnf; arg 1; arg 1; whnf
|apply zO
 . conv => lhs; whnf; arg 1; arg 1; whnf
|refine zT (by conv => lhs; whnf) ?_ ?_ <;> intro hb
|refine zj ?_
|refine zZ ?_
|refine zG ?_
|refine zK ?_
|refine zC ?_
|refine zB rfl ?_
|refine zE rfl ?_
|refine zF ?_
|refine zJ ?_
|refine zD ?_
|refine zL ?_
|apply zAB rfl
 . conv => lhs; whnf; arg 2; whnf
 . conv => lhs; whnf; arg 1; whnf
|apply zAN rfl
 . conv => lhs; whnf; arg 1; whnf
|apply zAE rfl
 . conv => lhs; whnf; arg 2; whnf
 . conv => lhs; whnf; arg 1; whnf
|apply zAF rfl
 . conv => lhs; whnf; arg 1; whnf
|refine ⟨_,by conv => lhs; whnf; arg 2; whnf,?_⟩; conv => rhs; whnf
|exact trivial
|intro hg)
 all_goals first
  | (refine ⟨by simp,?_,?_⟩ <;> simp only [List.length_cons,List.length_nil,maxLen] <;> omega)
  | (rw [dl_end ‹_›]; rfl)
  | (rw [dl_lim ‹_› (zA1 hq).1,(zA1 hq).2]; rfl)
  | (rw [dl_nm ‹_› ‹_› ‹_›]; rfl)
  | (rw [dl_as ‹_› ‹_› ‹_› ‹_›]; rfl)
  | (rename_i kk yy hnm1
     have l1:=hz.nx0.name hnm1
     have l2:=l1.1.args hq
     have l3:=(hz.sg ‹_›).2
     refine zh (j':=j) (by omega) ⟨xx,acc ++ [dirD kk aa],l2.1,by omega,by rw [List.length_append]; simp only [List.length_cons,List.length_nil]; omega,dl_ok ‹_› ‹_› hnm1 hq,Sub.live ⟨rfl,rfl,trivial⟩ ⟨rfl,?_,trivial⟩⟩
     show some (Res.tok _ (acc.length + 1)) = some (Res.tok _ (acc ++ [dirD kk aa]).length)
     rw [List.length_append]; rfl)
  | skip
end Go.Proofs.YtdlnnlglmifceaaGreatDoor
namespace Go.Proofs.YtdlnnlglmifceaaGreatDoor
open Go.RowKit
attribute [local irreducible] wpList Calls Code.wp AW AWo OpOk seqK zAP zAR loopK endK AC zy Yld Sub
attribute [local irreducible] ACB ACX ACE absLexG YldG
noncomputable def VS (d : D) : V:=.agg (cellsV Tryz.prog 12 57 d)
theorem elemSel : zAS Tryz.prog 45 = some (57,128):=by kernel_rfl
section
variable {v : PS -> PR (List D)} {x y z u o : PS} {on n m : List UInt8} {aa ds ss : List D} {e : Nat × Int}
theorem se_d0 (hd : isS x [46,46,46] = true) (hk : (hdT (nxT x)).k = 2 /\ (hdT (nxT x)).s ≠ onT) : selQ v x = zw (dirsQ (nxT (nxT x))) fun ds z => .ok (selD 2 [] (hdT (nxT x)).s [] [] ds [],z):=by
 unfold selQ
 rw [if_pos hd]
 dsimp only
 rw [if_pos hk]
theorem se_d1 (hd : isS x [46,46,46] = true) (hk : ¬ ((hdT (nxT x)).k = 2 /\ (hdT (nxT x)).s ≠ onT)) : selQ v x = zw (if (hdT (nxT x)).k = 2 then nameQ (nxT (nxT x)) else .ok ([],nxT x)) fun on z => zw (dirsQ z) fun ds u => zw (v u) fun ss o => .ok (selD 3 [] [] on [] ds ss,o):=by
 unfold selQ
 rw [if_pos hd]
 dsimp only
 rw [if_neg hk]
def selT3 (v : PS -> PR (List D)) (al n : List UInt8) (z : PS) : PR D:=
 zw (argsQ z) fun as' u => zw (dirsQ u) fun ds w => zw (if isS w [123] = true then v w else .ok ([],w)) fun ss o => .ok (selD 1 al n [] as' ds ss,o)
def zDN (x : PS) : PR (List UInt8 × List UInt8):=zw (nameQ x) fun n y => if isS y [58] = true then zw (nameQ (nxT y)) fun m z => .ok ((n,m),z) else .ok (([],n),y)
theorem se_n (hd : isS x [46,46,46] = false) : selQ v x = zw (zDN x) fun an z => selT3 v an.1 an.2 z:=by
 unfold selQ zDN
 rw [if_neg (by rw [hd]; decide)]
 cases nameQ x with
 | error q => rfl
 | ok q =>
   obtain ⟨n,y⟩:=q
   rw [zm (r:=Except.ok (n,y)) rfl,zm (r:=Except.ok (n,y)) rfl]
   by_cases h : isS y [58] = true
   . simp only [if_pos h]
     cases nameQ (nxT y) with
     | error q => rfl
     | ok q => rfl
   . simp only [if_neg h]; rfl
theorem hd_e1 {e : Nat × Int} (h1 : nameQ x = .error e) : zDN x = .error e:=by unfold zDN; rw [then_err h1]
theorem hd_e2 {e : Nat × Int} (h1 : nameQ x = .ok (n,y)) (h2 : isS y [58] = true) (h3 : nameQ (nxT y) = .error e) : zDN x = .error e:=by unfold zDN; rw [zm h1,if_pos h2,then_err h3]
theorem hd_o1 (h1 : nameQ x = .ok (n,y)) (h2 : isS y [58] = true) (h3 : nameQ (nxT y) = .ok (m,z)) : zDN x = .ok ((n,m),z):=by unfold zDN; rw [zm h1,if_pos h2,zm h3]
theorem hd_o2 (h1 : nameQ x = .ok (n,y)) (h2 : isS y [58] = false) : zDN x = .ok (([],n),y):=by unfold zDN; rw [zm h1,if_neg (by rw [h2]; decide)]
end
noncomputable def HsB (lv : Nat) (al n : List UInt8) (z : PS) : Vst 86:=
 stS 86 [(0,.bx (pn 0) 0),(1,.c (.int .i64 (lv : Int))),(4,.bx 4 0),(5,.bx 5 0)] [(pn 0,boxP z),(4,.box 57 [.c (.int .i64 0),.c (.string ⟨#[]⟩),.c (.string ⟨#[]⟩),.c (.string ⟨#[]⟩),.c (.slice none 0 0),.c (.slice none 0 0),.c (.slice none 0 0)]),
  (5,.box 57 [.c (.int .i64 1),.c (.string (bs al)),.c (.string (bs n)),.c (.string ⟨#[]⟩),.c (.slice none 0 0),.c (.slice none 0 0),.c (.slice none 0 0)])]
theorem sel_ace (f lv : Nat) (hsels : ∀ x,En x -> x.ts.length <= 100000 -> ACE EN5 Tryz.prog 79 [.bx (pn 0) 0,.c (.int .i64 ((lv + 1 : Nat) : Int))] [boxP x] (outQ (fun l => .sl 57 l) (selsQ f (lv + 1) x))) (hlv : lv <= 100) (x : PS) (h : En x) (hlen : x.ts.length <= 100000) :
 ACE EN5 Tryz.prog 117 [.bx (pn 0) 0,.c (.int .i64 (lv : Int))] [boxP x] (outQ VS (selQ (selsQ f (lv + 1)) x)):=by
 have hs0:=zAv h [46,46,46]
 by_cases hd : isS x [46,46,46] = true
 . have kd : (!isS x [46,46,46]) = true -> False:=fun hh => by rw [hd] at hh; cases hh
   have hn0:=zBC h
   obtain ⟨y,hy⟩ : ∃ y,y = nxT x:=⟨_,rfl⟩
   have hx:=h.sg hd
   rw [<- hy] at hx hn0
   have hn:=zBC hx.1
   have hdr1:=zDq (nxT y) hx.1.nx0 (by have:=nx_len y; omega)
   have hdr2 : ∀ {on z},nameQ (nxT y) = .ok (on,z) -> ACE EN5 Tryz.prog 153 [.bx (pn 0) 0] [boxP z] (outQ (fun l => .sl 129 l) (dirsQ z)):=fun hq => zDq _ (hx.1.nx0.name hq).1 (by have:=hx.1.nx0.name hq; have:=nx_len y; omega)
   have hdr3:=zDq y hx.1 (by omega)
   have hnm:=zCH hx.1.nx0
   have hss : ∀ {z u ds},dirsQ z = .ok (ds,u) -> En z -> z.ts.length <= 100000 -> ACE EN5 Tryz.prog 79 [.bx (pn 0) 0,.c (.int .i64 ((lv + 1 : Nat) : Int))] [boxP u] (outQ (fun l => .sl 57 l) (selsQ f (lv + 1) u)):=fun hq hz hl => hsels _ (hz.dirs hq).1 (by have:=hz.dirs hq; omega)
   have hz1 : ∀ {on z},nameQ (nxT y) = .ok (on,z) -> En z:=fun hq => (hx.1.nx0.name hq).1
   have hz2 : ∀ {on z},nameQ (nxT y) = .ok (on,z) -> z.ts.length <= 100000:=fun hq => by have:=hx.1.nx0.name hq; have:=nx_len y; omega
   have hy1 : En y:=hx.1
   have hy2 : y.ts.length <= 100000:=by omega
   obtain ⟨t,r,ht⟩:=hx.1.cons
   have hh:=zAu ht
   obtain ⟨yts,yvr,ynd⟩:=y
   cases ht
   refine zAX (fn:=Tryz.f117) 86 Tryz.func117 rfl rfl ?_
   intro pas w0 w he hp
   by_cases hk : t.k = 2 /\ t.s ≠ onT
   . have K1 : ((t.k == 2) == true) = false -> False:=fun hh => by simp [hk.1] at hh
     have K2 : (!(bs t.s).toList == (⟨#[111,110]⟩ : ByteArray).toList) = false -> False:=fun hh => hk.2 (zDG (by simpa using hh))
     have e0:=se_d0 (v:=selsQ f (lv + 1)) hd (by rw [<- hy,hh]; exact hk)
     rw [<- hy,hh] at e0
     rw [e0]
     repeat' (first
|apply zA5 (VS (selD 2 [] _ [] [] _ [])) rfl rfl
 . conv => lhs; whnf; arg 2; whnf
 . repeat' (first | exact VLe.refl _ | exact VLe.nil _ | exact VLe.lit _ _ | exact VLe.own _ _ _ | apply VLe.agg | apply VLeL.cons | exact VLeL.nil)
|apply s_m zv zY rfl
 . conv => lhs; whnf
 . conv => lhs; whnf
 . rfl
 . conv => lhs; whnf; arg 1; whnf
 . first | exact zAD _
 . first | exact hs0 | exact hn0 | exact hn
 . exact fun _ => rfl
 . exact fun _ => rfl
|apply zl rfl
 . conv => lhs; whnf
 . conv => lhs; whnf
 . first | rfl | assumption
|apply s_pr zv zY rfl
 . conv => lhs; whnf
 . conv => lhs; whnf
 . rfl
 . conv => lhs; whnf; arg 1; whnf
 . first | exact zAD _
 . first | exact hdr1
 . exact fun _ => rfl
 . first | (intro _ _; simp only [renL,renV,ren_cells]; done) | exact fun _ _ => rfl
 refine fun ee hq => ?_
 change _ = Out.die _
 rotate_left 1
 refine fun aa xx hq => ?_
 first | (replace hq:=zAp hq; obtain ⟨hq,rfl⟩:=hq) | (cases hq; have hq:=True.intro) | skip
|exact (kd ‹_›).elim
|exact (K1 ‹_›).elim
|exact (K2 ‹_›).elim
|refine zA ?_
|refine zI ?_
|refine zb ?_
|apply aw_1
 conv => whnf
 refine ⟨?_,trivial⟩
|apply zg rfl rfl
 . conv => lhs; whnf
 . conv => lhs; whnf
 . first | exact bT1 ‹_› | exact bT2 ‹_›
|apply s_1
 conv => whnf; arg 1; arg 4; arg 3; whnf
 refine ⟨?_,?_⟩
|apply zr rfl rfl rfl
 . conv => lhs; whnf
 . conv => lhs; whnf; arg 1; whnf
 . conv => lhs; whnf; arg 1; whnf
 . exact ⟨by kernel_rfl,by kernel_rfl⟩
 . rfl
|apply zM rfl
 . conv => lhs; whnf
 . conv => lhs; whnf
 . first | rfl | assumption
 . conv => lhs; whnf; arg 2; whnf
|apply zP rfl
 . conv => lhs; whnf
 . conv => lhs; whnf
 . conv => lhs; whnf; arg 2; whnf
|refine zT (by conv => lhs; whnf) ?_ ?_ <;> intro hb
|refine zK ?_
|apply zAB rfl
 . conv => lhs; whnf; arg 2; whnf
 . conv => lhs; whnf; arg 1; whnf
|exact trivial
|intro hg)
     all_goals first
      | exact zBf _ _
      | (rw [hq]; rfl)
      | skip
   . have K3 : ((t.k == 2) == true) = true -> (!(bs t.s).toList == (⟨#[111,110]⟩ : ByteArray).toList) = true -> False:=fun h1 h2 => hk ⟨by simpa using h1,zBO (by simpa using h2)⟩
     have K4 : ((t.k == 2) == true) = false -> (t.k == 2) = true -> False:=fun h1 h2 => by simp_all
     have K5 : ((t.k == 2) == true) = true -> (t.k == 2) = false -> False:=fun h1 h2 => by simp_all
     have e0:=se_d1 (v:=selsQ f (lv + 1)) hd (by rw [<- hy,hh]; exact hk)
     rw [<- hy,hh] at e0
     have e1 : (t.k == 2) = true -> selQ (selsQ f (lv + 1)) x = zw (nameQ (nxT ⟨t :: r,yvr,ynd⟩)) fun on z => zw (dirsQ z) fun ds u => zw (selsQ f (lv + 1) u) fun ss o => .ok (selD 3 [] [] on [] ds ss,o):=fun h => by rw [e0,if_pos (by simpa using h)]
     have e2 : (t.k == 2) = false -> selQ (selsQ f (lv + 1)) x = zw (dirsQ ⟨t :: r,yvr,ynd⟩) fun ds u => zw (selsQ f (lv + 1) u) fun ss o => .ok (selD 3 [] [] [] [] ds ss,o):=fun h => by rw [e0,if_neg (by simpa using h)]; rfl
     repeat' (first
|apply zA5 (VS (selD 3 [] [] _ [] _ _)) rfl rfl
 . conv => lhs; whnf; arg 2; whnf
 . repeat' (first | exact VLe.refl _ | exact VLe.nil _ | exact VLe.lit _ _ | exact VLe.own _ _ _ | apply VLe.agg | apply VLeL.cons | exact VLeL.nil)
|apply s_m zv zY rfl
 . conv => lhs; whnf
 . conv => lhs; whnf
 . rfl
 . conv => lhs; whnf; arg 1; whnf
 . first | exact zAD _
 . first | exact hs0 | exact hn0 | exact hn
 . exact fun _ => rfl
 . exact fun _ => rfl
|apply zl rfl
 . conv => lhs; whnf
 . conv => lhs; whnf
 . first | rfl | assumption
|apply s_pr zv zY rfl
 . conv => lhs; whnf
 . conv => lhs; whnf
 . rfl
 . conv => lhs; whnf; arg 1; whnf
 . first | exact zAD _
 . first | exact hdr2 ‹_› | exact hdr3 | exact hnm | exact hss ‹_› ‹_› ‹_› | exact hss ‹_› (hz1 ‹_›) (hz2 ‹_›)
 . exact fun _ => rfl
 . first | (intro _ _; simp only [renL,renV,ren_cells]; done) | exact fun _ _ => rfl
 refine fun ee hq => ?_
 change _ = Out.die _
 rotate_left 1
 refine fun aa xx hq => ?_
 first | (replace hq:=zAp hq; obtain ⟨hq,rfl⟩:=hq) | (cases hq; have hq:=True.intro) | skip
|exact (kd ‹_›).elim
|exact (K3 ‹_› ‹_›).elim
|exact (K4 ‹_› ‹_›).elim
|exact (K5 ‹_› ‹_›).elim
|refine zA ?_
|refine zI ?_
|refine zb ?_
|apply aw_1
 conv => whnf
 refine ⟨?_,trivial⟩
|apply zg rfl rfl
 . conv => lhs; whnf
 . conv => lhs; whnf
 . first | exact bT1 ‹_› | exact bT2 ‹_›
|apply ze rfl rfl
 . conv => lhs; whnf
 . conv => lhs; whnf
 . first | exact bF1 ‹_› | exact bF2 ‹_›
|apply s_1
 conv => whnf; arg 1; arg 4; arg 3; whnf
 refine ⟨?_,?_⟩
|apply zr rfl rfl rfl
 . conv => lhs; whnf
 . conv => lhs; whnf; arg 1; whnf
 . conv => lhs; whnf; arg 1; whnf
 . exact ⟨by kernel_rfl,by kernel_rfl⟩
 . rfl
|apply zM rfl
 . conv => lhs; whnf
 . conv => lhs; whnf
 . first | rfl | assumption
 . conv => lhs; whnf; arg 2; whnf
|apply zP rfl
 . conv => lhs; whnf
 . conv => lhs; whnf
 . conv => lhs; whnf; arg 2; whnf
|refine zT (by conv => lhs; whnf) ?_ ?_ <;> intro hb
|apply zAB rfl
 . conv => lhs; whnf; arg 2; whnf
 . conv => lhs; whnf; arg 1; whnf
|exact trivial
|intro hg)
     all_goals first
      | exact zBf _ _
      | exact zo (by omega)
      | (rw [e2 ‹_›]
         first
          | (rw [then_err (r:=dirsQ _) hq]; rfl)
          | (rename_i hq1; rw [zm (r:=dirsQ _) hq1,then_err hq]; rfl)
          | (rename_i hq1; rw [zm (r:=dirsQ _) hq1,zm hq]; rfl))
      | (rw [e1 ‹_›]
         first
          | (rw [then_err (r:=nameQ _) hq]; rfl)
          | (rename_i hq1; rw [zm (r:=nameQ _) hq1,then_err hq]; rfl)
          | (rename_i hq1 hq2; rw [zm (r:=nameQ _) hq1,zm hq2,then_err hq]; rfl)
          | (rename_i hq1 _ _ hq2; rw [zm (r:=nameQ _) hq1,zm hq2,zm hq]; rfl))
      | skip
 . have hd : isS x [46,46,46] = false:=by simpa using hd
   have kd : (!isS x [46,46,46]) = false -> False:=fun hh => by rw [hd] at hh; cases hh
   have hnm0:=zCH h
   have e0:=se_n (v:=selsQ f (lv + 1)) hd
   rw [e0]
   clear e0
   have hEn : ∀ {n y},nameQ x = .ok (n,y) -> En y /\ y.ts.length <= 99999:=fun hq => ⟨(h.name hq).1,by have:=h.name hq; omega⟩
   have hsg : ∀ {n y},nameQ x = .ok (n,y) -> ACB EN5 Tryz.prog 76 [.bx (pn 0) 0,.c (.string (bs [58]))] [boxP y] (.c (.bool (isS y [58]))) [boxP y]:=fun hq => zAv (hEn hq).1 _
   have hnx : ∀ {n y},nameQ x = .ok (n,y) -> ACB EN5 Tryz.prog 80 [.bx (pn 0) 0] [boxP y] (.agg (tokC (hdT y))) [boxP (nxT y)]:=fun hq => zBC (hEn hq).1
   have hnm : ∀ {n y},nameQ x = .ok (n,y) -> ACE EN5 Tryz.prog 118 [.bx (pn 0) 0] [boxP (nxT y)] (outQ (fun n => .c (.string (bs n))) (nameQ (nxT y))):=fun hq => zCH (hEn hq).1.nx0
   cases hh : zDN x with
   | error e =>
     have k1 : ∀ {n y m z},nameQ x = .ok (n,y) -> isS y [58] = true -> nameQ (nxT y) = .ok (m,z) -> False:=fun h1 h2 h3 => by rw [hd_o1 h1 h2 h3] at hh; cases hh
     have k2 : ∀ {n y},nameQ x = .ok (n,y) -> isS y [58] = false -> False:=fun h1 h2 => by rw [hd_o2 h1 h2] at hh; cases hh
     have g1 : ∀ {e'},nameQ x = .error e' -> e' = e:=fun h1 => by rw [hd_e1 h1] at hh; cases hh; rfl
     have g2 : ∀ {n y e'},nameQ x = .ok (n,y) -> isS y [58] = true -> nameQ (nxT y) = .error e' -> e' = e:=fun h1 h2 h3 => by rw [hd_e2 h1 h2 h3] at hh; cases hh; rfl
     refine zAX (fn:=Tryz.f117) 86 Tryz.func117 rfl rfl ?_
     intro pas w0 w he hp
     repeat' (first
|apply zBJ 8 ([(1,[5])]) ([(3,[1000000]),(5,[5]),(7,[5])]) rfl (by kernel_rfl) (by kernel_rfl) (by kernel_rfl)
|apply zEc
|apply zEb rfl
 . conv => lhs; whnf
 . conv => lhs; whnf; arg 2; whnf
|apply zBn rfl rfl rfl
 . conv => lhs; whnf
 . rfl
 . conv => lhs; whnf; arg 1; whnf
 . conv => lhs; whnf; arg 1; whnf
 . exact ⟨by kernel_rfl,by kernel_rfl⟩
 . rfl
|exact Or.inl ⟨pn 0,_,rfl⟩
|refine Or.inr ?_
|apply g_pr zv zY ([] : List UInt8) rfl
 . conv => lhs; whnf
 . conv => lhs; whnf
 . rfl
 . conv => lhs; whnf; arg 1; whnf
 . first | exact zAD _
 . first | exact hnm ‹_›
 . exact fun _ => rfl
 . first | (intro _ _; simp only [renL,renV,ren_cells]; done) | exact fun _ _ => rfl
 . rfl
 refine fun ee hq tm rs => ?_
 change _ = Out.die _
 rotate_left 1
 refine fun aa xx hq => ?_
 rotate_left 1
 refine fun ee hq => ?_
|show inO _ _ = true; rfl
|apply s_m zv zY rfl
 . conv => lhs; whnf
 . conv => lhs; whnf
 . rfl
 . conv => lhs; whnf; arg 1; whnf
 . first | exact zAD _
 . first | exact hs0 | exact hsg ‹_› | exact hnx ‹_›
 . exact fun _ => rfl
 . exact fun _ => rfl
|apply s_pr zv zY rfl
 . conv => lhs; whnf
 . conv => lhs; whnf
 . rfl
 . conv => lhs; whnf; arg 1; whnf
 . first | exact zAD _
 . first | exact hnm0
 . exact fun _ => rfl
 . first | (intro _ _; simp only [renL,renV,ren_cells]; done) | exact fun _ _ => rfl
 refine fun ee hq => ?_
 change _ = Out.die _
 rotate_left 1
 refine fun aa xx hq => ?_
 first | (replace hq:=zAp hq; obtain ⟨hq,rfl⟩:=hq) | (cases hq; have hq:=True.intro) | skip
|exact (kd ‹_›).elim
|exact (k1 ‹_› ‹_› ‹_›).elim
|exact (k2 ‹_› ‹_›).elim
|refine zA ?_
|refine zI ?_
|refine zb ?_
|apply aw_1
 conv => whnf
 refine ⟨?_,trivial⟩
|apply s_1
 conv => whnf; arg 1; arg 4; arg 3; whnf
 refine ⟨?_,?_⟩
|apply zr rfl rfl rfl
 . conv => lhs; whnf
 . conv => lhs; whnf; arg 1; whnf
 . conv => lhs; whnf; arg 1; whnf
 . exact ⟨by kernel_rfl,by kernel_rfl⟩
 . rfl
|refine zT (by conv => lhs; whnf) ?_ ?_ <;> intro hb
|exact trivial)
     all_goals first
      | (rw [g1 hq]; rfl)
      | (rename_i hq1 hb1; rw [g2 hq1 hb1 hq]; rfl)
      | (rename_i hq1; rw [g2 hq1 hb hq]; rfl)
      | skip
   | ok q =>
     obtain ⟨⟨al,nm⟩,z⟩:=q
     have k1 : ∀ {e'},nameQ x = .error e' -> False:=fun h1 => by rw [hd_e1 h1] at hh; cases hh
     have k2 : ∀ {n y e'},nameQ x = .ok (n,y) -> isS y [58] = true -> nameQ (nxT y) = .error e' -> False:=fun h1 h2 h3 => by rw [hd_e2 h1 h2 h3] at hh; cases hh
     have g1 : ∀ {n y m z'},nameQ x = .ok (n,y) -> isS y [58] = true -> nameQ (nxT y) = .ok (m,z') -> n = al /\ m = nm /\ z' = z:=fun h1 h2 h3 => by rw [hd_o1 h1 h2 h3] at hh; cases hh; exact ⟨rfl,rfl,rfl⟩
     have g2 : ∀ {n y},nameQ x = .ok (n,y) -> isS y [58] = false -> al = [] /\ n = nm /\ y = z:=fun h1 h2 => by rw [hd_o2 h1 h2] at hh; cases hh; exact ⟨rfl,rfl,rfl⟩
     have hz : En z /\ z.ts.length <= 99999:=by
      unfold zDN at hh
      cases h1 : nameQ x with
      | error e => rw [h1] at hh; cases hh
      | ok q =>
        obtain ⟨n,y⟩:=q
        rw [zm h1] at hh
        have hy:=hEn h1
        split at hh
        . rename_i hb
          cases h3 : nameQ (nxT y) with
          | error e => rw [h3] at hh; cases hh
          | ok q =>
            obtain ⟨m,z'⟩:=q
            rw [zm h3] at hh
            cases hh
            have h4:=hy.1.nx0.name h3
            exact ⟨h4.1,by have:=nx_len y; omega⟩
        . cases hh; exact hy
     have hat:=zIS z hz.1 (by omega)
     have hdt : ∀ {aa u},argsQ z = .ok (aa,u) -> ACE EN5 Tryz.prog 153 [.bx (pn 0) 0] [boxP u] (outQ (fun l => .sl 129 l) (dirsQ u)):=fun hq => zDq _ (hz.1.args hq).1 (by have:=hz.1.args hq; omega)
     have hE2 : ∀ {aa u ds o},argsQ z = .ok (aa,u) -> dirsQ u = .ok (ds,o) -> En o /\ o.ts.length <= 100000:=fun h1 h2 => ⟨((hz.1.args h1).1.dirs h2).1,by have:=hz.1.args h1; have:=this.1.dirs h2; omega⟩
     have hsg2 : ∀ {aa u ds o},argsQ z = .ok (aa,u) -> dirsQ u = .ok (ds,o) -> ACB EN5 Tryz.prog 76 [.bx (pn 0) 0,.c (.string (bs [123]))] [boxP o] (.c (.bool (isS o [123]))) [boxP o]:=fun h1 h2 => zAv (hE2 h1 h2).1 _
     have hss : ∀ {aa u ds o},argsQ z = .ok (aa,u) -> dirsQ u = .ok (ds,o) -> ACE EN5 Tryz.prog 79 [.bx (pn 0) 0,.c (.int .i64 ((lv + 1 : Nat) : Int))] [boxP o] (outQ (fun l => .sl 57 l) (selsQ f (lv + 1) o)):=fun h1 h2 => hsels _ (hE2 h1 h2).1 (hE2 h1 h2).2
     have e1 : zw (Except.ok ((al,nm),z)) (fun an z => selT3 (selsQ f (lv + 1)) an.1 an.2 z) = selT3 (selsQ f (lv + 1)) al nm z:=rfl
     rw [e1]
     clear e1
     refine zAX (fn:=Tryz.f117) 86 Tryz.func117 rfl rfl ?_
     intro pas w0 w he hp
     repeat' (first
|apply zA5 (VS (selD 1 al nm [] _ _ _)) rfl rfl
 . conv => lhs; whnf; arg 2; whnf
 . repeat' (first | exact VLe.refl _ | exact VLe.nil _ | exact VLe.lit _ _ | exact VLe.own _ _ _ | apply VLe.agg | apply VLeL.cons | exact VLeL.nil)
|apply zBJ 8 ([(1,[5])]) ([(3,[1000000]),(5,[5]),(7,[5])]) rfl (by kernel_rfl) (by kernel_rfl) (by kernel_rfl)
|apply zEc
|apply zEb rfl
 . conv => lhs; whnf
 . conv => lhs; whnf; arg 2; whnf
|apply zBn rfl rfl rfl
 . conv => lhs; whnf
 . rfl
 . conv => lhs; whnf; arg 1; whnf
 . conv => lhs; whnf; arg 1; whnf
 . exact ⟨by kernel_rfl,by kernel_rfl⟩
 . rfl
|exact Or.inl ⟨pn 0,_,rfl⟩
|refine Or.inr ?_
|apply g_pr zv zY ([] : List UInt8) rfl
 . conv => lhs; whnf
 . conv => lhs; whnf
 . rfl
 . conv => lhs; whnf; arg 1; whnf
 . first | exact zAD _
 . first | exact hnm ‹_›
 . exact fun _ => rfl
 . first | (intro _ _; simp only [renL,renV,ren_cells]; done) | exact fun _ _ => rfl
 . rfl
 refine fun ee hq tm rs => ?_
 change _ = Out.die _
 rotate_left 1
 refine fun aa xx hq => ?_
 rotate_left 1
 refine fun ee hq => ?_
|show inO _ _ = true; rfl
|apply s_m zv zY rfl
 . conv => lhs; whnf
 . conv => lhs; whnf
 . rfl
 . conv => lhs; whnf; arg 1; whnf
 . first | exact zAD _
 . first | exact hs0 | exact hsg ‹_› | exact hnx ‹_› | exact hsg2 ‹_› ‹_›
 . exact fun _ => rfl
 . exact fun _ => rfl
|apply s_pr zv zY rfl
 . conv => lhs; whnf
 . conv => lhs; whnf
 . rfl
 . conv => lhs; whnf; arg 1; whnf
 . first | exact zAD _
 . first | exact hnm0 | exact hat | exact hdt ‹_› | exact hss ‹_› ‹_›
 . exact fun _ => rfl
 . first | (intro _ _; simp only [renL,renV,ren_cells]; done) | exact fun _ _ => rfl
 refine fun ee hq => ?_
 change _ = Out.die _
 rotate_left 1
 refine fun aa xx hq => ?_
 first | (replace hq:=zAp hq; obtain ⟨hq,rfl⟩:=hq) | (cases hq; have hq:=True.intro) | skip
|exact (kd ‹_›).elim
|apply zCZ 6 (HsB lv al nm z) rfl
|refine zAH ?_
|refine zA ?_
|refine zI ?_
|refine zb ?_
|apply aw_1
 conv => whnf
 refine ⟨?_,trivial⟩
|apply s_1
 conv => whnf; arg 1; arg 4; arg 3; whnf
 refine ⟨?_,?_⟩
|apply zr rfl rfl rfl
 . conv => lhs; whnf
 . conv => lhs; whnf; arg 1; whnf
 . conv => lhs; whnf; arg 1; whnf
 . exact ⟨by kernel_rfl,by kernel_rfl⟩
 . rfl
|refine zT (by conv => lhs; whnf) ?_ ?_ <;> intro hb
|refine zK ?_
|apply zAB rfl
 . conv => lhs; whnf; arg 2; whnf
 . conv => lhs; whnf; arg 1; whnf
|exact trivial)
     all_goals first
      | exact zo (by omega)
      | exact (k1 hq).elim
      | exact (k2 ‹_› ‹_› hq).elim
      | (obtain ⟨rfl,rfl,rfl⟩:=g1 ‹_› ‹_› hq
         exact Sub.live ⟨rfl,rfl,rfl,rfl,trivial⟩ ⟨rfl,rfl,rfl,trivial⟩)
      | (obtain ⟨rfl,rfl,rfl⟩:=g2 hq ‹_›
         exact Sub.live ⟨rfl,rfl,rfl,rfl,trivial⟩ ⟨rfl,rfl,rfl,trivial⟩)
      | (unfold selT3; rw [then_err (r:=argsQ _) hq]; rfl)
      | (unfold selT3; rename_i h1; rw [zm (r:=argsQ _) h1,then_err (r:=dirsQ _) hq]; rfl)
      | (unfold selT3; rename_i h1; rw [zm (r:=argsQ _) h1,zm (r:=dirsQ _) hq,if_neg (by rw [hb]; decide)]; rfl)
      | (unfold selT3; rename_i h1 h2; rw [zm (r:=argsQ _) h1,zm (r:=dirsQ _) h2,if_pos hb,then_err hq]; rfl)
      | (unfold selT3; rename_i h1 _ _ h2; rw [zm (r:=argsQ _) h1,zm (r:=dirsQ _) h2,if_pos hb,zm hq]; rfl)
      | skip
theorem En.selL {f lv : Nat} {x y : PS} {v : D} (h : En x) (hq : selQ (selsQ f lv) x = .ok (v,y)) : En y /\ y.ts.length < x.ts.length:=by
 refine ⟨(h.sel hq).1,?_⟩
 by_cases hd : isS x [46,46,46] = true
 . have hx:=h.sg hd
   have:=(hx.1.lo (p:=fun y => if (hdT y).k = 2 /\ (hdT y).s ≠ onT then zw (dirsQ (nxT y)) fun ds z => .ok (selD 2 [] (hdT y).s [] [] ds [],z) else zw (if (hdT y).k = 2 then nameQ (nxT y) else .ok ([],y)) fun on z => zw (dirsQ z) fun ds u => zw (selsQ f lv u) fun ss o => .ok (selD 3 [] [] on [] ds ss,o)) (fun {e} {a} {x} {x'} hE h' => by
    refine .ite (fun ha => by rw [h'.hd ha]) (fun hk => ?_) fun _ => ?_
    . obtain ⟨t2,a2,rfl,h2⟩:=h'.ne_of_k hE (by rw [hk.1]; decide)
      rw [h'.hd (by simp)]
      exact LO.mono (b:=a2) (.then (zCm hE h2) fun _ _ _ _ hz => .okk hz _) ⟨[t2],rfl⟩
    . refine .then (.ite (fun ha => by rw [h'.hd ha]) (fun hk => ?_) fun _ => .okk h' _) fun _ _ _ _ hz => .then (zCm hE hz) fun _ _ _ _ hu => .then (zDH hE f lv hu).lo fun _ _ _ _ ho => .okk ho _
      obtain ⟨t2,a2,rfl,h2⟩:=h'.ne_of_k hE (by rw [hk]; decide)
      exact (zA6 hE h2).lo.mono ⟨[t2],rfl⟩) (by unfold selQ at hq; rw [if_pos hd] at hq; exact hq)).2
   exact Nat.lt_of_le_of_lt this hx.2
 . have hd : isS x [46,46,46] = false:=by simpa using hd
   rw [se_n hd] at hq
   unfold zDN at hq
   cases h1 : nameQ x with
   | error e => rw [h1] at hq; cases hq
   | ok q =>
     obtain ⟨n,y1⟩:=q
     rw [zm h1] at hq
     have hy:=h.name h1
     have h3 : ∀ {al nm z},En z -> z.ts.length < x.ts.length -> selT3 (selsQ f lv) al nm z = .ok (v,y) -> y.ts.length < x.ts.length:=fun {al nm z} hz hl hq => by
      have:=(hz.lo (p:=selT3 (selsQ f lv) al nm) (fun hE h => .then (zFs hE h) fun _ _ _ _ hu => .then (zCm hE hu) fun _ _ _ _ hw => .then (.ite (hw.sg _) (fun _ => (zDH hE f lv hw).lo) fun _ => .okk hw _) fun _ _ _ _ ho => .okk ho _) hq).2
      omega
     split at hq
     . cases h4 : nameQ (nxT y1) with
       | error e => rw [h4] at hq; cases hq
       | ok q =>
         obtain ⟨m,z⟩:=q
         rw [zm h4] at hq
         have hz:=hy.1.nx0.name h4
         exact h3 hz.1 (by have:=nx_len y1; omega) hq
     . exact h3 hy.1 hy.2 hq
noncomputable def HsL (lv : Nat) (y : PS) (acc : List D) : Vst 54:=
 stS 54 [(0,.bx (pn 0) 0),(1,.c (.int .i64 (lv : Int))),(5,.own 5 57 acc)] [(pn 0,boxP y),(5,.tok 57 acc.length)]
section
variable {v : PS -> PR D} {j : Nat} {acc : List D} {z y : PS} {e : Nat × Int} {a : D}
theorem sl_end (h0 : acc.length ≠ 0) (h : isS z [125] = true) : setF v (j + 1) acc z = .ok (acc,nxT z):=by rw [setF,if_pos ⟨h0,h⟩]
theorem sl_go (h : acc.length = 0 \/ isS z [125] = false) : setF v (j + 1) acc z = if ((hdT z).k = 2 \/ isS z [46,46,46] = true) /\ 64 <= acc.length then .error ((hdT z).i,4) else zw (v z) fun s y => setF v j (acc ++ [s]) y:=by
 rw [setF,if_neg (fun hh => by rcases h with h | h; exact hh.1 h; rw [h] at hh; cases hh.2)]
theorem sl_lim (h : acc.length = 0 \/ isS z [125] = false) (hk : (hdT z).k = 2 \/ isS z [46,46,46] = true) (hl : 64 <= acc.length) : setF v (j + 1) acc z = .error ((hdT z).i,4):=by rw [sl_go h,if_pos ⟨hk,hl⟩]
theorem sl_err (h : acc.length = 0 \/ isS z [125] = false) (hl : ((hdT z).k = 2 \/ isS z [46,46,46] = true) -> acc.length < 64) (h1 : v z = .error e) : setF v (j + 1) acc z = .error e:=by rw [sl_go h,if_neg (fun hh => by have:=hl hh.1; omega),then_err h1]
theorem sl_ok (h : acc.length = 0 \/ isS z [125] = false) (hl : ((hdT z).k = 2 \/ isS z [46,46,46] = true) -> acc.length < 64) (h1 : v z = .ok (a,y)) : setF v (j + 1) acc z = setF v j (acc ++ [a]) y:=by rw [sl_go h,if_neg (fun hh => by have:=hl hh.1; omega),zm h1]
end
theorem zHf : ∀ (f lv : Nat) (x : PS),En x -> x.ts.length <= 100000 -> f + lv = 26 -> lv <= 25 -> ACE EN5 Tryz.prog 79 [.bx (pn 0) 0,.c (.int .i64 (lv : Int))] [boxP x] (outQ (fun l => .sl 57 l) (selsQ f lv x))
 | 0,lv,x,h,hlen,hf,h25 => by omega
 | f + 1,lv,x,h,hlen,hf,h25 => by
   have ih : lv <= 24 -> ∀ x,En x -> x.ts.length <= 100000 -> ACE EN5 Tryz.prog 117 [.bx (pn 0) 0,.c (.int .i64 (lv : Int))] [boxP x] (outQ VS (selQ (selsQ f (lv + 1)) x)):=fun h24 x hx hl =>
    sel_ace f lv (fun x hx hl => zHf f (lv + 1) x hx hl (by omega) (by omega)) (by omega) x hx hl
   have hs:=zAv h [123]
   have ht1:=zEq h [123]
   have hf5:=zA8 (hdT x) 5
   have e0 : selsQ (f + 1) lv x = if isS x [123] = true /\ 24 < lv then .error ((hdT x).i,5) else zw (takeQ [123] x) fun _ y => setF (selQ (selsQ f (lv + 1))) (y.ts.length + 1) [] y:=rfl
   obtain ⟨t,r,ht⟩:=h.cons
   have hh:=zAu ht
   rw [hh] at hf5
   obtain ⟨ts,vr,nd⟩:=x
   cases ht
   refine zAX (fn:=Tryz.f79) 54 Tryz.func79 rfl rfl ?_
   intro pas w0 w he hp
   have K0 : (isS ⟨t :: r,vr,nd⟩ [123] == true) = false -> ∀ {u y},takeQ [123] ⟨t :: r,vr,nd⟩ = .ok (u,y) -> False:=fun h1 u y h2 => by
    unfold takeQ at h2
    rw [if_neg (by simpa using h1)] at h2; cases h2
   have G1 : (isS ⟨t :: r,vr,nd⟩ [123] == true) = true -> decide ((lv : Int) > 24) = true -> selsQ (f + 1) lv ⟨t :: r,vr,nd⟩ = .error (t.i,5):=fun h1 h2 => by
    rw [e0,if_pos ⟨by simpa using h1,by simp at h2; omega⟩,hh]
   have G2 : ((isS ⟨t :: r,vr,nd⟩ [123] == true) = true -> decide ((lv : Int) > 24) = false) -> selsQ (f + 1) lv ⟨t :: r,vr,nd⟩ = zw (takeQ [123] ⟨t :: r,vr,nd⟩) fun _ y => setF (selQ (selsQ f (lv + 1))) (y.ts.length + 1) [] y:=fun h1 => by
    rw [e0,if_neg (fun hh => by have:=h1 (by simpa using hh.1); simp at this; omega)]
   repeat' (first
|apply s_m zv zY rfl
 . conv => lhs; whnf
 . conv => lhs; whnf
 . rfl
 . conv => lhs; whnf; arg 1; whnf
 . first | exact zAD _
 . first | exact hs
 . exact fun _ => rfl
 . exact fun _ => rfl
|apply zl rfl
 . conv => lhs; whnf
 . conv => lhs; whnf
 . first | rfl | assumption
|apply s_pr zv zY rfl
 . conv => lhs; whnf
 . conv => lhs; whnf
 . rfl
 . conv => lhs; whnf; arg 1; whnf
 . first | exact zAD _
 . first | exact ht1
 . exact fun _ => rfl
 . first | (intro _ _; simp only [renL,renV,ren_cells]; done) | exact fun _ _ => rfl
 refine fun ee hq => ?_
 change _ = Out.die _
 rotate_left 1
 refine fun aa xx hq => ?_
 first | (replace hq:=zAp hq; obtain ⟨hq,rfl⟩:=hq) | (cases hq; have hq:=True.intro) | skip
|apply zCE rfl
 . conv => lhs; whnf
 . first | exact hf5
 . first | exact fun _ => rfl | (intro _; simp only [renL,renV,ren_cells])
 change _ = Out.die _
|exact (K0 ‹_› ‹_›).elim
|refine zA ?_
|refine zI ?_
|refine zb ?_
|apply aw_1
 conv => whnf
 refine ⟨?_,trivial⟩
|apply zg rfl rfl
 . conv => lhs; whnf
 . conv => lhs; whnf
 . first | exact bT1 ‹_› | exact bT2 ‹_›
|apply ze rfl rfl
 . conv => lhs; whnf
 . conv => lhs; whnf
 . first | exact bF1 ‹_› | exact bF2 ‹_›
|apply s_1
 conv => whnf; arg 1; arg 4; arg 3; whnf
 refine ⟨?_,?_⟩
|apply zM rfl
 . conv => lhs; whnf
 . conv => lhs; whnf
 . first | rfl | assumption
 . conv => lhs; whnf; arg 2; whnf
|apply zP rfl
 . conv => lhs; whnf
 . conv => lhs; whnf
 . conv => lhs; whnf; arg 2; whnf
|refine zT (by conv => lhs; whnf) ?_ ?_ <;> intro hb
|exact trivial
|intro hg)
   all_goals first
    | exact zBf _ _
    | exact (K0 ‹_› ‹_›).elim
    | (rw [G1 ‹_› ‹_›]; rfl)
    | (rw [G2 (fun _ => by assumption),then_err hq]; rfl)
    | (rename_i hgg; rw [G2 (fun h => by rw [hgg] at h; cases h),then_err hq]; rfl)
    | (rw [G2 (fun h => by rw [hg] at h; cases h),then_err hq]; rfl)
    | skip
   have h24 : lv <= 24:=by have g : decide ((lv : Int) > 24) = false:=by assumption
                           simp at g; omega
   rw [G2 (fun _ => by assumption),zm hq]
   have hx:=h.take hq
   have hv:=ih h24
   clear ih hs ht1 hf5 K0 G1 G2 e0
   refine z8 (Sub.own (t:=5) (e:=57) rfl rfl) ?_
   refine z7 (fun j st => ∃ z acc,En z /\ z.ts.length < j /\ acc.length + z.ts.length <= xx.ts.length /\ setF (selQ (selsQ f (lv + 1))) (xx.ts.length + 1) [] xx = setF (selQ (selsQ f (lv + 1))) j acc z /\ Sub (cxE EN5 Tryz.prog pas w0 w he hp (outQ (fun l => V.sl 57 l) (setF (selQ (selsQ f (lv + 1))) (xx.ts.length + 1) [] xx))) st (HsL lv z acc)) (xx.ts.length + 1) ⟨xx,[],hx.1,by omega,by simp,rfl,?_⟩ ?_
   . exact Sub.live ⟨rfl,rfl,rfl,trivial⟩ ⟨rfl,rfl,trivial⟩
   rintro j st ⟨z,acc,hz,hzj,hzl,hI,hsub⟩
   refine z8 hsub ?_
   clear hsub
   rw [hI]
   clear hI hh
   have hlz : z.ts.length <= 100000:=by omega
   cases j with
   | zero => omega
   | succ j =>
   obtain ⟨t2,r2,ht2⟩:=hz.cons
   have hs1:=zAv hz [125]
   have hs2:=zAv hz [46,46,46]
   have hn:=zBC hz
   have hli:=zDL hz acc.length 64
   have hvz:=hv z hz hlz
   have hh:=zAu ht2
   obtain ⟨zts,zvr,znd⟩:=z
   cases ht2
   have A1 : (((acc.length : Int) == 0) == false) = false -> acc.length = 0 \/ isS ⟨t2 :: r2,zvr,znd⟩ [125] = false:=fun h => .inl (by simp at h; simp [h])
   have A2 : (!isS ⟨t2 :: r2,zvr,znd⟩ [125]) = true -> acc.length = 0 \/ isS ⟨t2 :: r2,zvr,znd⟩ [125] = false:=fun h => .inr (by simpa using h)
   have E2 : (!isS ⟨t2 :: r2,zvr,znd⟩ [125]) = false -> isS ⟨t2 :: r2,zvr,znd⟩ [125] = true:=fun h => by simpa using h
   have E1 : (((acc.length : Int) == 0) == false) = true -> acc.length ≠ 0:=fun h => by simp at h; intro h2; rw [List.eq_nil_of_length_eq_zero h2] at h; exact h rfl
   have B1 : ((t2.k == 2) == false) = false -> (hdT ⟨t2 :: r2,zvr,znd⟩).k = 2 \/ isS ⟨t2 :: r2,zvr,znd⟩ [46,46,46] = true:=fun h => .inl (by rw [hh]; simpa using h)
   have B2 : isS ⟨t2 :: r2,zvr,znd⟩ [46,46,46] = true -> (hdT ⟨t2 :: r2,zvr,znd⟩).k = 2 \/ isS ⟨t2 :: r2,zvr,znd⟩ [46,46,46] = true:=fun h => .inr h
   have L1 : acc.length < 64 -> (hdT ⟨t2 :: r2,zvr,znd⟩).k = 2 \/ isS ⟨t2 :: r2,zvr,znd⟩ [46,46,46] = true -> acc.length < 64:=fun h _ => h
   have L2 : ((t2.k == 2) == false) = true -> isS ⟨t2 :: r2,zvr,znd⟩ [46,46,46] = false -> (hdT ⟨t2 :: r2,zvr,znd⟩).k = 2 \/ isS ⟨t2 :: r2,zvr,znd⟩ [46,46,46] = true -> acc.length < 64:=fun h1 h2 h3 => by
    rw [hh] at h3; rcases h3 with h3 | h3
    . rw [h3] at h1; cases h1
    . rw [h2] at h3; cases h3
   repeat' (first
|apply s_m zv zY rfl
 . conv => lhs; whnf
 . conv => lhs; whnf
 . rfl
 . conv => lhs; whnf; arg 1; whnf
 . first | exact zAD _
 . first | exact hs1 | exact hs2 | exact hn
 . exact fun _ => rfl
 . exact fun _ => rfl
|apply zAT zv zY rfl
 . conv => lhs; whnf
 . conv => lhs; whnf
 . first | rfl | assumption
 . conv => lhs; whnf
 . rfl
 . conv => lhs; whnf; arg 1; whnf
 . first | exact zAD _
 . first | exact hs1 | exact hs2 | exact hn
 . exact fun _ => rfl
 . exact fun _ => rfl
|apply zl rfl
 . conv => lhs; whnf
 . conv => lhs; whnf
 . first | rfl | assumption
|apply s_pr zv zY rfl
 . conv => lhs; whnf
 . conv => lhs; whnf
 . rfl
 . conv => lhs; whnf; arg 1; whnf
 . first | exact zAD _
 . first | exact hli | exact hvz
 . exact fun _ => rfl
 . first | (intro _ _; simp only [renL,renV,ren_cells]; done) | exact fun _ _ => rfl
 refine fun ee hq => ?_
 change _ = Out.die _
 rotate_left 1
 refine fun aa xx hq => ?_
 first | (replace hq:=zAp hq; obtain ⟨hq,rfl⟩:=hq) | (cases hq; have hq:=True.intro) | skip
|apply zF8 [aa] rfl rfl
 . conv => lhs; whnf
 . first | exact elemSel | (conv => lhs; whnf; arg 1; whnf)
 . rfl
 . rfl
 . repeat' (first | exact trivial | apply And.intro | rfl)
|refine zA ?_
|refine zI ?_
|refine zb ?_
|refine zU ?_
|apply aw_1
 conv => whnf
 refine ⟨?_,trivial⟩
|apply zg rfl rfl
 . conv => lhs; whnf
 . conv => lhs; whnf
 . first | exact bT1 ‹_› | exact bT2 ‹_›
|apply ze rfl rfl
 . conv => lhs; whnf
 . conv => lhs; whnf
 . first | exact bF1 ‹_› | exact bF2 ‹_›
|apply s_1
 conv => whnf; arg 1; arg 4; arg 3; whnf
 refine ⟨?_,?_⟩
|apply zBK rfl rfl
 . conv => lhs; whnf
 . first | exact elemSel | (conv => lhs; whnf; arg 1; whnf)
 . first | exact fun _ => rfl | (intro _; kernel_rfl)
 . conv => lhs; whnf
 . conv => lhs; whnf; arg 1; whnf
 . conv => lhs; whnf
|apply zM rfl
 . conv => lhs; whnf
 . conv => lhs; whnf
 . first | rfl | assumption
 . conv => lhs; whnf; arg 2; whnf
|apply zP rfl
 . conv => lhs; whnf
 . conv => lhs; whnf
 . conv => lhs; whnf; arg 2; whnf
|refine zT (by conv => lhs; whnf) ?_ ?_ <;> intro hb
|refine zG ?_
|refine zB rfl ?_
|refine zD ?_
|apply zAB rfl
 . conv => lhs; whnf; arg 2; whnf
 . conv => lhs; whnf; arg 1; whnf
|exact trivial
|intro hg)
   all_goals first
    | exact zBf _ _
    | (refine ⟨by simp,?_,?_⟩ <;> simp only [List.length_cons,List.length_nil,maxLen] <;> omega)
    | (rw [sl_end (E1 ‹_›) (E2 ‹_›)]; rfl)
    | (have hA : acc.length = 0 \/ isS ⟨t2 :: r2,zvr,znd⟩ [125] = false:=by first | exact A1 ‹_› | exact A2 ‹_›
       first
        | (have hB : (hdT ⟨t2 :: r2,zvr,znd⟩).k = 2 \/ isS ⟨t2 :: r2,zvr,znd⟩ [46,46,46] = true:=by first | exact B1 ‹_› | exact B2 ‹_›
           rw [sl_lim hA hB (zA1 hq).1,(zA1 hq).2]; rfl)
        | (have hL : (hdT ⟨t2 :: r2,zvr,znd⟩).k = 2 \/ isS ⟨t2 :: r2,zvr,znd⟩ [46,46,46] = true -> acc.length < 64:=by first | exact L1 ‹_› | exact L2 ‹_› ‹_›
           first
            | (rw [sl_err hA hL hq]; rfl)
            | (have l3:=hz.selL hq
               refine zh (j':=j) (by omega) ⟨xx,acc ++ [aa],l3.1,by omega,by rw [List.length_append]; simp only [List.length_cons,List.length_nil]; omega,sl_ok hA hL hq,Sub.live ⟨rfl,rfl,rfl,trivial⟩ ⟨rfl,?_,trivial⟩⟩
               show some (Res.tok _ (acc.length + 1)) = some (Res.tok _ (acc ++ [aa]).length)
               rw [List.length_append]; rfl)))
    | skip
end Go.Proofs.YtdlnnlglmifceaaGreatDoor
namespace Go.Proofs.YtdlnnlglmifceaaGreatDoor
open Go.RowKit
attribute [local irreducible] wpList Calls Code.wp AW AWo OpOk seqK zAP zAR loopK endK AC zy Yld Sub
attribute [local irreducible] ACB ACX ACE absLexG YldG
noncomputable def VVr (d : D) : V:=.agg (cellsV Tryz.prog 12 64 d)
noncomputable def VO (d : D) : V:=.agg (cellsV Tryz.prog 12 47 d)
noncomputable def VF (d : D) : V:=.agg (cellsV Tryz.prog 12 50 d)
theorem zDP : zAS Tryz.prog 44 = some (64,144):=by kernel_rfl
noncomputable def HoA (k : Int) (n : List UInt8) (z : PS) : Vst 77:=
 stS 77 [(0,.bx (pn 0) 0),(4,.bx 4 0),(5,.bx 5 0)] [(pn 0,boxP z),(4,.box 47 [.c (.int .i64 0),.c (.string ⟨#[]⟩),.c (.slice none 0 0),.c (.slice none 0 0)]),(5,.box 47 [.c (.int .i64 k),.c (.string (bs n)),.c (.slice none 0 0),.c (.slice none 0 0)])]
noncomputable def HoV (k : Int) (n : List UInt8) (z : PS) (acc : List D) : Vst 77:=
 stS 77 [(0,.bx (pn 0) 0),(4,.bx 4 0),(5,.bx 5 0)] [(pn 0,boxP z),(4,.box 47 [.c (.int .i64 0),.c (.string ⟨#[]⟩),.c (.slice none 0 0),.c (.slice none 0 0)]),(5,.box 47 [.c (.int .i64 k),.c (.string (bs n)),.own 903 64 acc,.c (.slice none 0 0)]),(903,.tok 64 acc.length)]
def defQ (v : PS) : PR (Bool × D):=if isS v [61] = true then zw (zAx { nxT v with vr:=false }) fun d o => .ok ((true,d),{ o with vr:=true }) else .ok ((false,zFd),v)
def varQ (x : PS) : PR D:=
 zw (takeQ [36] x) fun _ y => zw (nameQ y) fun n z => zw (takeQ [58] z) fun _ u => zw (typQ u) fun t v => zw (defQ v) fun d o => .ok (varD n t d.1 d.2,o)
section
variable {j : Nat} {acc : List D} {x y z u v o : PS} {n : List UInt8} {e : Nat × Int} {t d : D} {q1 q2 : Unit}
theorem vl_end (h0 : acc.length ≠ 0) (h : isS x [41] = true) : varsF (j + 1) acc x = .ok (acc,nxT x):=by rw [varsF,if_pos ⟨h0,h⟩]
theorem vl_lim (h0 : ¬ (acc.length ≠ 0 /\ isS x [41] = true)) (h : isS x [36] = true /\ 16 <= acc.length) : varsF (j + 1) acc x = .error ((hdT x).i,4):=by rw [varsF,if_neg h0,if_pos h]
theorem then_then {α β γ : Type} (r : PR α) (f : α -> PS -> PR β) (g : β -> PS -> PR γ) : zw (zw r f) g = zw r fun a x => zw (f a x) g:=by
 cases r with
 | error e => rfl
 | ok q => rfl
theorem vl_go (h0 : ¬ (acc.length ≠ 0 /\ isS x [41] = true)) (h : ¬ (isS x [36] = true /\ 16 <= acc.length)) : varsF (j + 1) acc x = zw (varQ x) fun a y => varsF j (acc ++ [a]) y:=by
 rw [varsF,if_neg h0,if_neg h]
 unfold varQ
 simp only [then_then]
 rfl
theorem va_1 (h1 : takeQ [36] x = .error e) : varQ x = .error e:=by rw [varQ,then_err h1]
theorem va_2 (h1 : takeQ [36] x = .ok (q1,y)) (h2 : nameQ y = .error e) : varQ x = .error e:=by rw [varQ,zm h1,then_err h2]
theorem va_3 (h1 : takeQ [36] x = .ok (q1,y)) (h2 : nameQ y = .ok (n,z)) (h3 : takeQ [58] z = .error e) : varQ x = .error e:=by rw [varQ,zm h1,zm h2,then_err h3]
theorem va_4 (h1 : takeQ [36] x = .ok (q1,y)) (h2 : nameQ y = .ok (n,z)) (h3 : takeQ [58] z = .ok (q2,u)) (h4 : typQ u = .error e) : varQ x = .error e:=by rw [varQ,zm h1,zm h2,zm h3,then_err h4]
theorem va_5 (h1 : takeQ [36] x = .ok (q1,y)) (h2 : nameQ y = .ok (n,z)) (h3 : takeQ [58] z = .ok (q2,u)) (h4 : typQ u = .ok (t,v)) (h5 : isS v [61] = true) (h6 : zAx { nxT v with vr:=false } = .error e) : varQ x = .error e:=by
 rw [varQ,zm h1,zm h2,zm h3,zm h4,defQ,if_pos h5,then_err h6]; rfl
theorem va_6 (h1 : takeQ [36] x = .ok (q1,y)) (h2 : nameQ y = .ok (n,z)) (h3 : takeQ [58] z = .ok (q2,u)) (h4 : typQ u = .ok (t,v)) (h5 : isS v [61] = true) (h6 : zAx { nxT v with vr:=false } = .ok (d,o)) : varQ x = .ok (varD n t true d,{ o with vr:=true }):=by
 rw [varQ,zm h1,zm h2,zm h3,zm h4,defQ,if_pos h5,zm h6]; rfl
theorem va_7 (h1 : takeQ [36] x = .ok (q1,y)) (h2 : nameQ y = .ok (n,z)) (h3 : takeQ [58] z = .ok (q2,u)) (h4 : typQ u = .ok (t,v)) (h5 : isS v [61] = false) : varQ x = .ok (varD n t false zFd,v):=by
 rw [varQ,zm h1,zm h2,zm h3,zm h4,defQ,if_neg (by rw [h5]; decide)]; rfl
end
def opT2 (k : Int) (n : List UInt8) (y : PS) : PR D:=
 zw (if isS y [40] = true then varsF y.ts.length [] (nxT y) else .ok ([],y)) fun vs z => zw (setQ z) fun ss u => .ok (opD k n vs ss,u)
theorem zFX (x : PS) (h : En x) (hlen : x.ts.length <= 100000) : ACE EN5 Tryz.prog 79 [.bx (pn 0) 0,.c (.int .i64 1)] [boxP x] (outQ (fun l => .sl 57 l) (setQ x)):=zHf 25 1 x h hlen rfl (by omega)
theorem op_ace (k : Int) (x : PS) (h : En x) (hlen : x.ts.length <= 100000) : ACE EN5 Tryz.prog 81 [.bx (pn 0) 0,.c (.int .i64 k)] [boxP x] (outQ VO (opQ k x)):=by
 obtain ⟨n,y,hny,hy,hyl⟩ : ∃ n y,(if (hdT x).k = 2 then (.ok ((hdT x).s,nxT x) : PR (List UInt8)) else .ok ([],x)) = .ok (n,y) /\ En y /\ y.ts.length <= x.ts.length:=by
  by_cases hk : (hdT x).k = 2
  . exact ⟨_,_,if_pos hk,h.nx0,nx_len x⟩
  . exact ⟨_,_,if_neg hk,h,Nat.le_refl _⟩
 have e0 : opQ k x = opT2 k n y:=by
  unfold opQ
  rw [hny]; rfl
 rw [e0]
 clear e0
 have hn0:=zBC h
 have hs1:=zAv hy [40]
 have hn1:=zBC hy
 have hse:=zFX y hy (by omega)
 obtain ⟨t,r,ht⟩:=h.cons
 have hh:=zAu ht
 rw [hh] at hn0 hny
 have g1 : (t.k == 2) = true -> n = t.s /\ y = nxT x:=fun hk => by rw [if_pos (by simpa using hk)] at hny; cases hny; exact ⟨rfl,rfl⟩
 have g2 : (t.k == 2) = false -> n = [] /\ y = x:=fun hk => by rw [if_neg (by simpa using hk)] at hny; cases hny; exact ⟨rfl,rfl⟩
 obtain ⟨ts,vr,nd⟩:=x
 cases ht
 refine zAX (fn:=Tryz.f81) 77 Tryz.func81 rfl rfl ?_
 intro pas w0 w he hp
 repeat' (first
|apply zA5 (VO (opD k n [] _)) rfl rfl
 . conv => lhs; whnf; arg 2; whnf
 . repeat' (first | exact VLe.refl _ | exact VLe.nil _ | exact VLe.lit _ _ | exact VLe.own _ _ _ | apply VLe.agg | apply VLeL.cons | exact VLeL.nil)
|apply s_wanted_pick_t rfl rfl rfl
 . conv => lhs; whnf
 . first | rfl | assumption
 . conv => lhs; whnf
 . first | exact bT1 ‹_› | exact bT2 ‹_› | rfl
|apply zq rfl rfl rfl
 . conv => lhs; whnf
 . first | rfl | assumption
 . conv => lhs; whnf
 . first | exact bT1 ‹_› | exact bT2 ‹_› | rfl
|apply s_wanted_pick_f rfl rfl rfl
 . conv => lhs; whnf
 . first | rfl | assumption
 . conv => lhs; whnf
 . first | exact bF1 ‹_› | exact bF2 ‹_› | rfl
|apply zu rfl rfl rfl
 . conv => lhs; whnf
 . first | rfl | assumption
 . conv => lhs; whnf
 . first | exact bF1 ‹_› | exact bF2 ‹_› | rfl
|apply s_m zv zY rfl
 . conv => lhs; whnf
 . conv => lhs; whnf
 . rfl
 . conv => lhs; whnf; arg 1; whnf
 . first | exact zAD _
 . first | exact hn0 | exact hs1 | exact hn1
 . exact fun _ => rfl
 . exact fun _ => rfl
|apply zAT zv zY rfl
 . conv => lhs; whnf
 . conv => lhs; whnf
 . first | rfl | assumption
 . conv => lhs; whnf
 . rfl
 . conv => lhs; whnf; arg 1; whnf
 . first | exact zAD _
 . first | exact hn0 | exact hs1 | exact hn1
 . exact fun _ => rfl
 . exact fun _ => rfl
|apply zl rfl
 . conv => lhs; whnf
 . conv => lhs; whnf
 . first | rfl | assumption
|apply zAI rfl
 . conv => lhs; whnf
 . rfl
 . rfl
|apply zAs zv zY rfl
 . conv => lhs; whnf
 . conv => lhs; whnf
 . conv => lhs; whnf
 . rfl
 . conv => lhs; whnf; arg 1; whnf
 . first | exact zAD _
 . first | exact hn0 | exact hs1 | exact hn1
 . exact fun _ => rfl
 . exact fun _ => rfl
|apply s_pr zv zY rfl
 . conv => lhs; whnf
 . conv => lhs; whnf
 . rfl
 . conv => lhs; whnf; arg 1; whnf
 . first | exact zAD _
 . first | exact hse
 . exact fun _ => rfl
 . first | (intro _ _; simp only [renL,renV,ren_cells]; done) | exact fun _ _ => rfl
 refine fun ee hq => ?_
 change _ = Out.die _
 rotate_left 1
 refine fun aa xx hq => ?_
 first | (replace hq:=zAp hq; obtain ⟨hq,rfl⟩:=hq) | (cases hq; have hq:=True.intro) | skip
|apply zCZ 4 (HoA k n y) rfl
|refine zi ?_
|refine zf ?_
|refine zAH ?_
|refine zA ?_
|refine zI ?_
|refine zb ?_
|refine zU ?_
|refine za ?_
|apply aw_1
 conv => whnf
 refine ⟨?_,trivial⟩
|apply zg rfl rfl
 . conv => lhs; whnf
 . conv => lhs; whnf
 . first | exact bT1 ‹_› | exact bT2 ‹_›
|apply ze rfl rfl
 . conv => lhs; whnf
 . conv => lhs; whnf
 . first | exact bF1 ‹_› | exact bF2 ‹_›
|apply s_1
 conv => whnf; arg 1; arg 4; arg 3; whnf
 refine ⟨?_,?_⟩
|apply zt rfl
 . conv => lhs; whnf
 . conv => lhs; whnf; arg 2; whnf
|apply zd rfl
 . conv => lhs; whnf
 . conv => lhs; whnf
 . first | fail
|apply zAA rfl rfl rfl rfl
 . conv => lhs; whnf; arg 1; whnf
 . rfl
|apply zr rfl rfl rfl
 . conv => lhs; whnf
 . conv => lhs; whnf; arg 1; whnf
 . conv => lhs; whnf; arg 1; whnf
 . exact ⟨by kernel_rfl,by kernel_rfl⟩
 . rfl
|apply zBK rfl rfl
 . conv => lhs; whnf
 . first | (conv => lhs; whnf; arg 1; whnf)
 . first | exact fun _ => rfl | (intro _; kernel_rfl)
 . conv => lhs; whnf
 . conv => lhs; whnf; arg 1; whnf
 . conv => lhs; whnf
|apply zAJ rfl rfl rfl rfl
 . first | (conv => lhs; whnf; arg 1; whnf)
 . first | exact fun _ => rfl | (intro _; kernel_rfl)
 . conv => lhs; whnf
 . conv => lhs; whnf
|apply zAr rfl rfl
 . conv => lhs; whnf
 . first | (conv => lhs; whnf; arg 1; whnf)
|apply zAn rfl rfl
 . conv => lhs; whnf
 . first | (conv => lhs; whnf; arg 1; whnf)
 . conv => lhs; whnf; arg 1; whnf
 . rfl
 . rfl
|apply zAc rfl rfl
 . conv => lhs; whnf
 . first | (conv => lhs; whnf; arg 1; whnf)
 . first | exact fun _ => rfl | (intro _; kernel_rfl)
 . conv => lhs; whnf
 . conv => lhs; whnf
|apply zM rfl
 . conv => lhs; whnf
 . conv => lhs; whnf
 . first | rfl | assumption
 . conv => lhs; whnf; arg 2; whnf
|apply zR rfl
 . conv => lhs; whnf
 . conv => lhs; whnf
 . first | rfl | assumption
 . conv => lhs; whnf
 . first | fail
|apply zl rfl
 . conv => lhs; whnf
 . conv => lhs; whnf
 . first | rfl | assumption
|apply zAI rfl
 . conv => lhs; whnf
 . rfl
 . rfl
|apply zP rfl
 . conv => lhs; whnf
 . conv => lhs; whnf
 . conv => lhs; whnf; arg 2; whnf
|apply zp rfl
 . conv => lhs; whnf
 . conv => lhs; whnf
 . conv => lhs; whnf
 . first | fail
|apply zn rfl
 . conv => lhs; whnf
 . conv => lhs; whnf
 . conv => lhs; whnf; arg 2; whnf
|apply zk rfl
 . conv => lhs; whnf
 . conv => lhs; whnf
 . conv => lhs; whnf
 . first | fail
|apply zN
 . conv => lhs; whnf; arg 1; arg 1; whnf
|apply zO
 . conv => lhs; whnf; arg 1; arg 1; whnf
|refine zT (by conv => lhs; whnf) ?_ ?_ <;> intro hb
|refine zj ?_
|refine zZ ?_
|refine zG ?_
|refine zK ?_
|refine zC ?_
|refine zB rfl ?_
|refine zE rfl ?_
|refine zF ?_
|refine zJ ?_
|refine zD ?_
|refine zL ?_
|apply zAB rfl
 . conv => lhs; whnf; arg 2; whnf
 . conv => lhs; whnf; arg 1; whnf
|apply zAN rfl
 . conv => lhs; whnf; arg 1; whnf
|apply zAE rfl
 . conv => lhs; whnf; arg 2; whnf
 . conv => lhs; whnf; arg 1; whnf
|apply zAF rfl
 . conv => lhs; whnf; arg 1; whnf
|refine ⟨_,by conv => lhs; whnf; arg 2; whnf,?_⟩; conv => rhs; whnf
|exact trivial
|intro hg)
 all_goals first
  | exact zBf _ _
  | (obtain ⟨rfl,rfl⟩:=g1 ‹_›
     exact Sub.live ⟨rfl,rfl,rfl,trivial⟩ ⟨rfl,rfl,rfl,trivial⟩)
  | (obtain ⟨rfl,rfl⟩:=g2 ‹_›
     exact Sub.live ⟨rfl,rfl,rfl,trivial⟩ ⟨rfl,rfl,rfl,trivial⟩)
  | (rw [opT2,if_neg (by rw [hb]; decide)]
     first
      | (rw [zm (r:=Except.ok ([],y)) rfl,zm hq]; rfl)
      | (rw [zm (r:=Except.ok ([],y)) rfl,then_err hq]; rfl))
  | skip
 have hx:=hy.sg hb
 have e1 : opT2 k n y = zw (varsF y.ts.length [] (nxT y)) fun vs z => zw (setQ z) fun ss u => .ok (opD k n vs ss,u):=by rw [opT2,if_pos hb]
 rw [e1]
 have hyl2 : y.ts.length <= 100000:=by omega
 clear e1 hn0 hs1 hn1 hse g1 g2 hny
 refine z8 (Sub.ownF (m:=5) (q:=903) (i:=2) (e:=64) rfl (by decide) rfl rfl rfl) ?_
 refine z7 (fun j st => ∃ z acc,En z /\ z.ts.length <= j /\ acc.length + z.ts.length <= y.ts.length /\ varsF y.ts.length [] (nxT y) = varsF j acc z /\ Sub (cxE EN5 Tryz.prog pas w0 w he hp (outQ VO (zw (varsF y.ts.length [] (nxT y)) fun vs z => zw (setQ z) fun ss u => .ok (opD k n vs ss,u)))) st (HoV k n z acc)) y.ts.length ⟨nxT y,[],hx.1,by omega,by simp; omega,rfl,?_⟩ ?_
 . exact Sub.live ⟨rfl,rfl,rfl,trivial⟩ ⟨rfl,rfl,rfl,rfl,trivial⟩
 rintro j st ⟨z,acc,hz,hzj,hzl,hI,hsub⟩
 refine z8 hsub ?_
 clear hsub
 rw [hI]
 clear hI hh
 cases j with
 | zero => obtain ⟨t3,r3,ht3⟩:=hz.cons; rw [ht3] at hzj; simp at hzj
 | succ j =>
 have hs1:=zAv hz [41]
 have hs2:=zAv hz [36]
 have hn:=zBC hz
 have hli:=zDL hz acc.length 16
 by_cases hE : acc.length ≠ 0 /\ isS z [41] = true
 . have K1 : (((acc.length : Int) == 0) == false) = false -> False:=fun h => hE.1 (by simp at h; simp [h])
   have K2 : (!isS z [41]) = true -> False:=fun h => by rw [hE.2] at h; cases h
   have hse:=zFX (nxT z) hz.nx0 (by have:=nx_len z; omega)
   rw [vl_end hE.1 hE.2]
   repeat' (first
|apply s_wanted_pick_t rfl rfl rfl
 . conv => lhs; whnf
 . first | rfl | assumption
 . conv => lhs; whnf
 . first | exact bT1 ‹_› | exact bT2 ‹_› | rfl
|apply zq rfl rfl rfl
 . conv => lhs; whnf
 . first | rfl | assumption
 . conv => lhs; whnf
 . first | exact bT1 ‹_› | exact bT2 ‹_› | rfl
|apply s_wanted_pick_f rfl rfl rfl
 . conv => lhs; whnf
 . first | rfl | assumption
 . conv => lhs; whnf
 . first | exact bF1 ‹_› | exact bF2 ‹_› | rfl
|apply zu rfl rfl rfl
 . conv => lhs; whnf
 . first | rfl | assumption
 . conv => lhs; whnf
 . first | exact bF1 ‹_› | exact bF2 ‹_› | rfl
|apply zA5 (VO (opD k n acc _)) rfl rfl
 . conv => lhs; whnf; arg 2; whnf
 . repeat' (first | exact VLe.refl _ | exact VLe.nil _ | exact VLe.lit _ _ | exact VLe.own _ _ _ | apply VLe.agg | apply VLeL.cons | exact VLeL.nil)
|apply s_m zv zY rfl
 . conv => lhs; whnf
 . conv => lhs; whnf
 . rfl
 . conv => lhs; whnf; arg 1; whnf
 . first | exact zAD _
 . first | exact hs1 | exact hn
 . exact fun _ => rfl
 . exact fun _ => rfl
|apply zAT zv zY rfl
 . conv => lhs; whnf
 . conv => lhs; whnf
 . first | rfl | assumption
 . conv => lhs; whnf
 . rfl
 . conv => lhs; whnf; arg 1; whnf
 . first | exact zAD _
 . first | exact hs1 | exact hn
 . exact fun _ => rfl
 . exact fun _ => rfl
|apply zl rfl
 . conv => lhs; whnf
 . conv => lhs; whnf
 . first | rfl | assumption
|apply zAI rfl
 . conv => lhs; whnf
 . rfl
 . rfl
|apply zAs zv zY rfl
 . conv => lhs; whnf
 . conv => lhs; whnf
 . conv => lhs; whnf
 . rfl
 . conv => lhs; whnf; arg 1; whnf
 . first | exact zAD _
 . first | exact hs1 | exact hn
 . exact fun _ => rfl
 . exact fun _ => rfl
|apply s_pr zv zY rfl
 . conv => lhs; whnf
 . conv => lhs; whnf
 . rfl
 . conv => lhs; whnf; arg 1; whnf
 . first | exact zAD _
 . first | exact hse
 . exact fun _ => rfl
 . first | (intro _ _; simp only [renL,renV,ren_cells]; done) | exact fun _ _ => rfl
 refine fun ee hq => ?_
 change _ = Out.die _
 rotate_left 1
 refine fun aa xx hq => ?_
 first | (replace hq:=zAp hq; obtain ⟨hq,rfl⟩:=hq) | (cases hq; have hq:=True.intro) | skip
|exact (K1 ‹_›).elim
|exact (K2 ‹_›).elim
|refine zi ?_
|refine zf ?_
|refine zAH ?_
|refine zA ?_
|refine zI ?_
|refine zb ?_
|refine zU ?_
|refine za ?_
|apply aw_1
 conv => whnf
 refine ⟨?_,trivial⟩
|apply zg rfl rfl
 . conv => lhs; whnf
 . conv => lhs; whnf
 . first | exact bT1 ‹_› | exact bT2 ‹_›
|apply ze rfl rfl
 . conv => lhs; whnf
 . conv => lhs; whnf
 . first | exact bF1 ‹_› | exact bF2 ‹_›
|apply s_1
 conv => whnf; arg 1; arg 4; arg 3; whnf
 refine ⟨?_,?_⟩
|apply zt rfl
 . conv => lhs; whnf
 . conv => lhs; whnf; arg 2; whnf
|apply zd rfl
 . conv => lhs; whnf
 . conv => lhs; whnf
 . first | fail
|apply zAA rfl rfl rfl rfl
 . conv => lhs; whnf; arg 1; whnf
 . rfl
|apply zr rfl rfl rfl
 . conv => lhs; whnf
 . conv => lhs; whnf; arg 1; whnf
 . conv => lhs; whnf; arg 1; whnf
 . exact ⟨by kernel_rfl,by kernel_rfl⟩
 . rfl
|apply zBK rfl rfl
 . conv => lhs; whnf
 . first | (conv => lhs; whnf; arg 1; whnf)
 . first | exact fun _ => rfl | (intro _; kernel_rfl)
 . conv => lhs; whnf
 . conv => lhs; whnf; arg 1; whnf
 . conv => lhs; whnf
|apply zAJ rfl rfl rfl rfl
 . first | (conv => lhs; whnf; arg 1; whnf)
 . first | exact fun _ => rfl | (intro _; kernel_rfl)
 . conv => lhs; whnf
 . conv => lhs; whnf
|apply zAr rfl rfl
 . conv => lhs; whnf
 . first | (conv => lhs; whnf; arg 1; whnf)
|apply zAn rfl rfl
 . conv => lhs; whnf
 . first | (conv => lhs; whnf; arg 1; whnf)
 . conv => lhs; whnf; arg 1; whnf
 . rfl
 . rfl
|apply zAc rfl rfl
 . conv => lhs; whnf
 . first | (conv => lhs; whnf; arg 1; whnf)
 . first | exact fun _ => rfl | (intro _; kernel_rfl)
 . conv => lhs; whnf
 . conv => lhs; whnf
|apply zM rfl
 . conv => lhs; whnf
 . conv => lhs; whnf
 . first | rfl | assumption
 . conv => lhs; whnf; arg 2; whnf
|apply zR rfl
 . conv => lhs; whnf
 . conv => lhs; whnf
 . first | rfl | assumption
 . conv => lhs; whnf
 . first | fail
|apply zl rfl
 . conv => lhs; whnf
 . conv => lhs; whnf
 . first | rfl | assumption
|apply zAI rfl
 . conv => lhs; whnf
 . rfl
 . rfl
|apply zP rfl
 . conv => lhs; whnf
 . conv => lhs; whnf
 . conv => lhs; whnf; arg 2; whnf
|apply zp rfl
 . conv => lhs; whnf
 . conv => lhs; whnf
 . conv => lhs; whnf
 . first | fail
|apply zn rfl
 . conv => lhs; whnf
 . conv => lhs; whnf
 . conv => lhs; whnf; arg 2; whnf
|apply zk rfl
 . conv => lhs; whnf
 . conv => lhs; whnf
 . conv => lhs; whnf
 . first | fail
|apply zN
 . conv => lhs; whnf; arg 1; arg 1; whnf
|apply zO
 . conv => lhs; whnf; arg 1; arg 1; whnf
|refine zT (by conv => lhs; whnf) ?_ ?_ <;> intro hb
|refine zj ?_
|refine zZ ?_
|refine zG ?_
|refine zK ?_
|refine zC ?_
|refine zB rfl ?_
|refine zE rfl ?_
|refine zF ?_
|refine zJ ?_
|refine zD ?_
|refine zL ?_
|apply zAB rfl
 . conv => lhs; whnf; arg 2; whnf
 . conv => lhs; whnf; arg 1; whnf
|apply zAN rfl
 . conv => lhs; whnf; arg 1; whnf
|apply zAE rfl
 . conv => lhs; whnf; arg 2; whnf
 . conv => lhs; whnf; arg 1; whnf
|apply zAF rfl
 . conv => lhs; whnf; arg 1; whnf
|refine ⟨_,by conv => lhs; whnf; arg 2; whnf,?_⟩; conv => rhs; whnf
|exact trivial
|intro hg)
   . rw [zm (r:=Except.ok (acc,nxT z)) rfl,zm hq]; rfl
   . rw [zm (r:=Except.ok (acc,nxT z)) rfl,then_err hq]; rfl
 . have K1 : (((acc.length : Int) == 0) == false) = true -> (!isS z [41]) = false -> False:=fun h h2 => hE ⟨by simp at h; intro h3; rw [List.eq_nil_of_length_eq_zero h3] at h; exact h rfl,by simpa using h2⟩
   by_cases hL : isS z [36] = true /\ 16 <= acc.length
   . have K2 : isS z [36] = false -> False:=fun h => by rw [hL.1] at h; cases h
     have K3 : acc.length < 16 -> False:=fun h => by omega
     rw [vl_lim hE hL]
     repeat' (first
|apply s_wanted_pick_t rfl rfl rfl
 . conv => lhs; whnf
 . first | rfl | assumption
 . conv => lhs; whnf
 . first | exact bT1 ‹_› | exact bT2 ‹_› | rfl
|apply zq rfl rfl rfl
 . conv => lhs; whnf
 . first | rfl | assumption
 . conv => lhs; whnf
 . first | exact bT1 ‹_› | exact bT2 ‹_› | rfl
|apply s_wanted_pick_f rfl rfl rfl
 . conv => lhs; whnf
 . first | rfl | assumption
 . conv => lhs; whnf
 . first | exact bF1 ‹_› | exact bF2 ‹_› | rfl
|apply zu rfl rfl rfl
 . conv => lhs; whnf
 . first | rfl | assumption
 . conv => lhs; whnf
 . first | exact bF1 ‹_› | exact bF2 ‹_› | rfl
|apply s_m zv zY rfl
 . conv => lhs; whnf
 . conv => lhs; whnf
 . rfl
 . conv => lhs; whnf; arg 1; whnf
 . first | exact zAD _
 . first | exact hs1 | exact hs2
 . exact fun _ => rfl
 . exact fun _ => rfl
|apply zAT zv zY rfl
 . conv => lhs; whnf
 . conv => lhs; whnf
 . first | rfl | assumption
 . conv => lhs; whnf
 . rfl
 . conv => lhs; whnf; arg 1; whnf
 . first | exact zAD _
 . first | exact hs1 | exact hs2
 . exact fun _ => rfl
 . exact fun _ => rfl
|apply zl rfl
 . conv => lhs; whnf
 . conv => lhs; whnf
 . first | rfl | assumption
|apply zAI rfl
 . conv => lhs; whnf
 . rfl
 . rfl
|apply zAs zv zY rfl
 . conv => lhs; whnf
 . conv => lhs; whnf
 . conv => lhs; whnf
 . rfl
 . conv => lhs; whnf; arg 1; whnf
 . first | exact zAD _
 . first | exact hs1 | exact hs2
 . exact fun _ => rfl
 . exact fun _ => rfl
|apply s_pr zv zY rfl
 . conv => lhs; whnf
 . conv => lhs; whnf
 . rfl
 . conv => lhs; whnf; arg 1; whnf
 . first | exact zAD _
 . first | exact hli
 . exact fun _ => rfl
 . first | (intro _ _; simp only [renL,renV,ren_cells]; done) | exact fun _ _ => rfl
 refine fun ee hq => ?_
 change _ = Out.die _
 rotate_left 1
 refine fun aa xx hq => ?_
 first | (replace hq:=zAp hq; obtain ⟨hq,rfl⟩:=hq) | (cases hq; have hq:=True.intro) | skip
|exact (K1 ‹_› ‹_›).elim
|exact (K2 ‹_›).elim
|exact (K3 ‹_›).elim
|refine zi ?_
|refine zf ?_
|refine zAH ?_
|refine zA ?_
|refine zI ?_
|refine zb ?_
|refine zU ?_
|refine za ?_
|apply aw_1
 conv => whnf
 refine ⟨?_,trivial⟩
|apply zg rfl rfl
 . conv => lhs; whnf
 . conv => lhs; whnf
 . first | exact bT1 ‹_› | exact bT2 ‹_›
|apply ze rfl rfl
 . conv => lhs; whnf
 . conv => lhs; whnf
 . first | exact bF1 ‹_› | exact bF2 ‹_›
|apply s_1
 conv => whnf; arg 1; arg 4; arg 3; whnf
 refine ⟨?_,?_⟩
|apply zt rfl
 . conv => lhs; whnf
 . conv => lhs; whnf; arg 2; whnf
|apply zd rfl
 . conv => lhs; whnf
 . conv => lhs; whnf
 . first | fail
|apply zAA rfl rfl rfl rfl
 . conv => lhs; whnf; arg 1; whnf
 . rfl
|apply zr rfl rfl rfl
 . conv => lhs; whnf
 . conv => lhs; whnf; arg 1; whnf
 . conv => lhs; whnf; arg 1; whnf
 . exact ⟨by kernel_rfl,by kernel_rfl⟩
 . rfl
|apply zBK rfl rfl
 . conv => lhs; whnf
 . first | (conv => lhs; whnf; arg 1; whnf)
 . first | exact fun _ => rfl | (intro _; kernel_rfl)
 . conv => lhs; whnf
 . conv => lhs; whnf; arg 1; whnf
 . conv => lhs; whnf
|apply zAJ rfl rfl rfl rfl
 . first | (conv => lhs; whnf; arg 1; whnf)
 . first | exact fun _ => rfl | (intro _; kernel_rfl)
 . conv => lhs; whnf
 . conv => lhs; whnf
|apply zAr rfl rfl
 . conv => lhs; whnf
 . first | (conv => lhs; whnf; arg 1; whnf)
|apply zAn rfl rfl
 . conv => lhs; whnf
 . first | (conv => lhs; whnf; arg 1; whnf)
 . conv => lhs; whnf; arg 1; whnf
 . rfl
 . rfl
|apply zAc rfl rfl
 . conv => lhs; whnf
 . first | (conv => lhs; whnf; arg 1; whnf)
 . first | exact fun _ => rfl | (intro _; kernel_rfl)
 . conv => lhs; whnf
 . conv => lhs; whnf
|apply zM rfl
 . conv => lhs; whnf
 . conv => lhs; whnf
 . first | rfl | assumption
 . conv => lhs; whnf; arg 2; whnf
|apply zR rfl
 . conv => lhs; whnf
 . conv => lhs; whnf
 . first | rfl | assumption
 . conv => lhs; whnf
 . first | fail
|apply zl rfl
 . conv => lhs; whnf
 . conv => lhs; whnf
 . first | rfl | assumption
|apply zAI rfl
 . conv => lhs; whnf
 . rfl
 . rfl
|apply zP rfl
 . conv => lhs; whnf
 . conv => lhs; whnf
 . conv => lhs; whnf; arg 2; whnf
|apply zp rfl
 . conv => lhs; whnf
 . conv => lhs; whnf
 . conv => lhs; whnf
 . first | fail
|apply zn rfl
 . conv => lhs; whnf
 . conv => lhs; whnf
 . conv => lhs; whnf; arg 2; whnf
|apply zk rfl
 . conv => lhs; whnf
 . conv => lhs; whnf
 . conv => lhs; whnf
 . first | fail
|apply zN
 . conv => lhs; whnf; arg 1; arg 1; whnf
|apply zO
 . conv => lhs; whnf; arg 1; arg 1; whnf
|refine zT (by conv => lhs; whnf) ?_ ?_ <;> intro hb
|refine zj ?_
|refine zZ ?_
|refine zG ?_
|refine zK ?_
|refine zC ?_
|refine zB rfl ?_
|refine zE rfl ?_
|refine zF ?_
|refine zJ ?_
|refine zD ?_
|refine zL ?_
|apply zAB rfl
 . conv => lhs; whnf; arg 2; whnf
 . conv => lhs; whnf; arg 1; whnf
|apply zAN rfl
 . conv => lhs; whnf; arg 1; whnf
|apply zAE rfl
 . conv => lhs; whnf; arg 2; whnf
 . conv => lhs; whnf; arg 1; whnf
|apply zAF rfl
 . conv => lhs; whnf; arg 1; whnf
|refine ⟨_,by conv => lhs; whnf; arg 2; whnf,?_⟩; conv => rhs; whnf
|exact trivial
|intro hg)
     all_goals (rw [(zA1 hq).2]; rfl)
   . have K2 : ∀ {e : Nat × Int},isS z [36] = true -> limQ acc.length 16 z = .error e -> False:=fun h1 h2 => hL ⟨h1,(zA1 h2).1⟩
     rw [vl_go hE hL]
     have ht1:=zEq hz [36]
     have E1 : ∀ {q y1},takeQ [36] z = .ok (q,y1) -> En y1 /\ y1.ts.length < z.ts.length:=fun h1 => hz.take h1
     have E2 : ∀ {q y1 n z1},takeQ [36] z = .ok (q,y1) -> nameQ y1 = .ok (n,z1) -> En z1 /\ z1.ts.length < z.ts.length:=fun h1 h2 => ⟨((E1 h1).1.name h2).1,by have:=(E1 h1).2; have:=((E1 h1).1.name h2).2; omega⟩
     have E3 : ∀ {q y1 n z1 q2 u},takeQ [36] z = .ok (q,y1) -> nameQ y1 = .ok (n,z1) -> takeQ [58] z1 = .ok (q2,u) -> En u /\ u.ts.length < z.ts.length:=fun h1 h2 h3 => ⟨((E2 h1 h2).1.take h3).1,by have:=(E2 h1 h2).2; have:=((E2 h1 h2).1.take h3).2; omega⟩
     have E4 : ∀ {q y1 n z1 q2 u t v},takeQ [36] z = .ok (q,y1) -> nameQ y1 = .ok (n,z1) -> takeQ [58] z1 = .ok (q2,u) -> typQ u = .ok (t,v) -> En v /\ v.ts.length < z.ts.length:=fun h1 h2 h3 h4 => ⟨((E3 h1 h2 h3).1.typ h4).1,by have:=(E3 h1 h2 h3).2; have:=((E3 h1 h2 h3).1.typ h4).2; omega⟩
     have hnm : ∀ {q y1},takeQ [36] z = .ok (q,y1) -> ACE EN5 Tryz.prog 118 [.bx (pn 0) 0] [boxP y1] (outQ (fun n => .c (.string (bs n))) (nameQ y1)):=fun h1 => zCH (E1 h1).1
     have ht2 : ∀ {q y1 n z1},takeQ [36] z = .ok (q,y1) -> nameQ y1 = .ok (n,z1) -> ACE EN5 Tryz.prog 116 [.bx (pn 0) 0,.c (.string (bs [58]))] [boxP z1] (outQ (fun _ => .agg (tokC (hdT z1))) (takeQ [58] z1)):=fun h1 h2 => zEq (E2 h1 h2).1 [58]
     have hty : ∀ {q y1 n z1 q2 u},takeQ [36] z = .ok (q,y1) -> nameQ y1 = .ok (n,z1) -> takeQ [58] z1 = .ok (q2,u) -> ACE EN5 Tryz.prog 119 [.bx (pn 0) 0] [boxP u] (outQ (fun d => .agg (cellsV Tryz.prog 12 59 d)) (typQ u)):=fun h1 h2 h3 => typ_ace _ (E3 h1 h2 h3).1 (by have:=(E3 h1 h2 h3).2; omega)
     have hsi : ∀ {q y1 n z1 q2 u t v},takeQ [36] z = .ok (q,y1) -> nameQ y1 = .ok (n,z1) -> takeQ [58] z1 = .ok (q2,u) -> typQ u = .ok (t,v) -> ACB EN5 Tryz.prog 76 [.bx (pn 0) 0,.c (.string (bs [61]))] [boxP v] (.c (.bool (isS v [61]))) [boxP v]:=fun h1 h2 h3 h4 => zAv (E4 h1 h2 h3 h4).1 _
     have hnx : ∀ {q y1 n z1 q2 u t v},takeQ [36] z = .ok (q,y1) -> nameQ y1 = .ok (n,z1) -> takeQ [58] z1 = .ok (q2,u) -> typQ u = .ok (t,v) -> ACB EN5 Tryz.prog 80 [.bx (pn 0) 0] [boxP v] (.agg (tokC (hdT v))) [boxP (nxT v)]:=fun h1 h2 h3 h4 => zBC (E4 h1 h2 h3 h4).1
     have hwh : ∀ {q y1 n z1 q2 u t v},takeQ [36] z = .ok (q,y1) -> nameQ y1 = .ok (n,z1) -> takeQ [58] z1 = .ok (q2,u) -> typQ u = .ok (t,v) -> ACE EN5 Tryz.prog 120 [.bx (pn 0) 0] [boxP ⟨(nxT v).ts,false,(nxT v).nd⟩] (outQ VV (zAx ⟨(nxT v).ts,false,(nxT v).nd⟩)):=fun {q y1 n z1 q2 u t v} h1 h2 h3 h4 => zFv _ ((E4 h1 h2 h3 h4).1.nx0) (by have:=(E4 h1 h2 h3 h4).2; have:=nx_len v; show (nxT v).ts.length <= _; omega)
     repeat' (first
|apply s_wanted_pick_t rfl rfl rfl
 . conv => lhs; whnf
 . first | rfl | assumption
 . conv => lhs; whnf
 . first | exact bT1 ‹_› | exact bT2 ‹_› | rfl
|apply zq rfl rfl rfl
 . conv => lhs; whnf
 . first | rfl | assumption
 . conv => lhs; whnf
 . first | exact bT1 ‹_› | exact bT2 ‹_› | rfl
|apply s_wanted_pick_f rfl rfl rfl
 . conv => lhs; whnf
 . first | rfl | assumption
 . conv => lhs; whnf
 . first | exact bF1 ‹_› | exact bF2 ‹_› | rfl
|apply zu rfl rfl rfl
 . conv => lhs; whnf
 . first | rfl | assumption
 . conv => lhs; whnf
 . first | exact bF1 ‹_› | exact bF2 ‹_› | rfl
|apply zA5 (VVr (varD _ _ true _)) rfl rfl
 . conv => lhs; whnf; arg 2; whnf
 . repeat' (first | exact VLe.refl _ | exact VLe.nil _ | exact VLe.lit _ _ | exact VLe.own _ _ _ | apply VLe.agg | apply VLeL.cons | exact VLeL.nil)
|apply zA5 (VVr (varD _ _ false zFd)) rfl rfl
 . conv => lhs; whnf; arg 2; whnf
 . repeat' (first | exact VLe.refl _ | exact VLe.nil _ | exact VLe.lit _ _ | exact VLe.own _ _ _ | apply VLe.agg | apply VLeL.cons | exact VLeL.nil)
|apply s_m zv zY rfl
 . conv => lhs; whnf
 . conv => lhs; whnf
 . rfl
 . conv => lhs; whnf; arg 1; whnf
 . first | exact zAD _
 . first | exact hs1 | exact hs2 | exact hsi ‹_› ‹_› ‹_› ‹_› | exact hnx ‹_› ‹_› ‹_› ‹_›
 . exact fun _ => rfl
 . exact fun _ => rfl
|apply zAT zv zY rfl
 . conv => lhs; whnf
 . conv => lhs; whnf
 . first | rfl | assumption
 . conv => lhs; whnf
 . rfl
 . conv => lhs; whnf; arg 1; whnf
 . first | exact zAD _
 . first | exact hs1 | exact hs2 | exact hsi ‹_› ‹_› ‹_› ‹_› | exact hnx ‹_› ‹_› ‹_› ‹_›
 . exact fun _ => rfl
 . exact fun _ => rfl
|apply zl rfl
 . conv => lhs; whnf
 . conv => lhs; whnf
 . first | rfl | assumption
|apply zAI rfl
 . conv => lhs; whnf
 . rfl
 . rfl
|apply zAs zv zY rfl
 . conv => lhs; whnf
 . conv => lhs; whnf
 . conv => lhs; whnf
 . rfl
 . conv => lhs; whnf; arg 1; whnf
 . first | exact zAD _
 . first | exact hs1 | exact hs2 | exact hsi ‹_› ‹_› ‹_› ‹_› | exact hnx ‹_› ‹_› ‹_› ‹_›
 . exact fun _ => rfl
 . exact fun _ => rfl
|apply s_pr zv zY rfl
 . conv => lhs; whnf
 . conv => lhs; whnf
 . rfl
 . conv => lhs; whnf; arg 1; whnf
 . first | exact zAD _ | exact etaP1 _ _ _
 . first | exact hli | exact ht1 | exact hnm ‹_› | exact ht2 ‹_› ‹_› | exact hty ‹_› ‹_› ‹_› | exact hwh ‹_› ‹_› ‹_› ‹_›
 . exact fun _ => rfl
 . first | (intro _ _; simp only [renL,renV,ren_cells]; done) | exact fun _ _ => rfl
 refine fun ee hq => ?_
 change _ = Out.die _
 rotate_left 1
 refine fun aa xx hq => ?_
 first | (replace hq:=zAp hq; obtain ⟨hq,rfl⟩:=hq) | (cases hq; have hq:=True.intro) | skip
|apply zF8 [varD _ _ _ _] rfl rfl
 . conv => lhs; whnf
 . first | exact zDP | (conv => lhs; whnf; arg 1; whnf)
 . rfl
 . rfl
 . repeat' (first | exact trivial | apply And.intro | rfl)
|exact (K1 ‹_› ‹_›).elim
|exact (K2 ‹_› ‹_›).elim
|apply zCZ 9 (HoV k n z acc) rfl
|refine zi ?_
|refine zf ?_
|refine zAH ?_
|refine zA ?_
|refine zI ?_
|refine zb ?_
|refine zU ?_
|refine za ?_
|apply aw_1
 conv => whnf
 refine ⟨?_,trivial⟩
|apply zg rfl rfl
 . conv => lhs; whnf
 . conv => lhs; whnf
 . first | exact bT1 ‹_› | exact bT2 ‹_›
|apply ze rfl rfl
 . conv => lhs; whnf
 . conv => lhs; whnf
 . first | exact bF1 ‹_› | exact bF2 ‹_›
|apply s_1
 conv => whnf; arg 1; arg 4; arg 3; whnf
 refine ⟨?_,?_⟩
|apply zt rfl
 . conv => lhs; whnf
 . conv => lhs; whnf; arg 2; whnf
|apply zd rfl
 . conv => lhs; whnf
 . conv => lhs; whnf
 . first | fail
|apply zAA rfl rfl rfl rfl
 . conv => lhs; whnf; arg 1; whnf
 . rfl
|apply zr rfl rfl rfl
 . conv => lhs; whnf
 . conv => lhs; whnf; arg 1; whnf
 . conv => lhs; whnf; arg 1; whnf
 . exact ⟨by kernel_rfl,by kernel_rfl⟩
 . rfl
|apply zBK rfl rfl
 . conv => lhs; whnf
 . first | exact zDP | (conv => lhs; whnf; arg 1; whnf)
 . first | exact fun _ => rfl | (intro _; kernel_rfl)
 . conv => lhs; whnf
 . conv => lhs; whnf; arg 1; whnf
 . conv => lhs; whnf
|apply zAJ rfl rfl rfl rfl
 . first | exact zDP | (conv => lhs; whnf; arg 1; whnf)
 . first | exact fun _ => rfl | (intro _; kernel_rfl)
 . conv => lhs; whnf
 . conv => lhs; whnf
|apply zAr rfl rfl
 . conv => lhs; whnf
 . first | exact zDP | (conv => lhs; whnf; arg 1; whnf)
|apply zAn rfl rfl
 . conv => lhs; whnf
 . first | exact zDP | (conv => lhs; whnf; arg 1; whnf)
 . conv => lhs; whnf; arg 1; whnf
 . rfl
 . rfl
|apply zAc rfl rfl
 . conv => lhs; whnf
 . first | exact zDP | (conv => lhs; whnf; arg 1; whnf)
 . first | exact fun _ => rfl | (intro _; kernel_rfl)
 . conv => lhs; whnf
 . conv => lhs; whnf
|apply zM rfl
 . conv => lhs; whnf
 . conv => lhs; whnf
 . first | rfl | assumption
 . conv => lhs; whnf; arg 2; whnf
|apply zR rfl
 . conv => lhs; whnf
 . conv => lhs; whnf
 . first | rfl | assumption
 . conv => lhs; whnf
 . first | fail
|apply zl rfl
 . conv => lhs; whnf
 . conv => lhs; whnf
 . first | rfl | assumption
|apply zAI rfl
 . conv => lhs; whnf
 . rfl
 . rfl
|apply zP rfl
 . conv => lhs; whnf
 . conv => lhs; whnf
 . conv => lhs; whnf; arg 2; whnf
|apply zp rfl
 . conv => lhs; whnf
 . conv => lhs; whnf
 . conv => lhs; whnf
 . first | fail
|apply zn rfl
 . conv => lhs; whnf
 . conv => lhs; whnf
 . conv => lhs; whnf; arg 2; whnf
|apply zk rfl
 . conv => lhs; whnf
 . conv => lhs; whnf
 . conv => lhs; whnf
 . first | fail
|apply zN
 . conv => lhs; whnf; arg 1; arg 1; whnf
|apply zO
 . conv => lhs; whnf; arg 1; arg 1; whnf
|refine zT (by conv => lhs; whnf) ?_ ?_ <;> intro hb
|refine zj ?_
|refine zZ ?_
|refine zG ?_
|refine zK ?_
|refine zC ?_
|refine zB rfl ?_
|refine zE rfl ?_
|refine zF ?_
|refine zJ ?_
|refine zD ?_
|refine zL ?_
|apply zAB rfl
 . conv => lhs; whnf; arg 2; whnf
 . conv => lhs; whnf; arg 1; whnf
|apply zAN rfl
 . conv => lhs; whnf; arg 1; whnf
|apply zAE rfl
 . conv => lhs; whnf; arg 2; whnf
 . conv => lhs; whnf; arg 1; whnf
|apply zAF rfl
 . conv => lhs; whnf; arg 1; whnf
|refine ⟨_,by conv => lhs; whnf; arg 2; whnf,?_⟩; conv => rhs; whnf
|exact trivial
|intro hg)
     all_goals first
      | exact Sub.live ⟨rfl,rfl,rfl,trivial⟩ ⟨rfl,rfl,rfl,rfl,trivial⟩
      | (refine ⟨by simp,?_,?_⟩ <;> simp only [List.length_cons,List.length_nil,maxLen] <;> omega)
      | (rw [va_1 ‹_›]; rfl)
      | (rw [va_2 ‹_› ‹_›]; rfl)
      | (rw [va_3 ‹_› ‹_› ‹_›]; rfl)
      | (rw [va_4 ‹_› ‹_› ‹_› ‹_›]; rfl)
      | (rw [va_5 ‹_› ‹_› ‹_› ‹_› ‹_› hq]; rfl)
      | (rename_i a1 x1 h1 a2 x2 h2 a3 x3 h3 a4 x4 h4
         have l4:=E4 h1 h2 h3 h4
         have l5:=nx_len x4
         have l6:=En.wholeL (x:=⟨(nxT x4).ts,false,(nxT x4).nd⟩) l4.1.nx0 hq
         have l7 : xx.ts.length < (nxT x4).ts.length:=l6.2
         refine zh (j':=j) (by omega) ⟨{ xx with vr:=true },acc ++ [varD a2 a4 true aa],l6.1,by show xx.ts.length <= j; omega,by show (acc ++ _).length + xx.ts.length <= _; rw [List.length_append]; simp only [List.length_cons,List.length_nil]; omega,by rw [va_6 h1 h2 h3 h4 hb hq]; rfl,Sub.live ⟨rfl,rfl,rfl,trivial⟩ ⟨rfl,rfl,rfl,?_,trivial⟩⟩
         show some (Res.tok _ (acc.length + 1)) = some (Res.tok _ (acc ++ [varD a2 a4 true aa]).length)
         rw [List.length_append]; rfl)
      | (rename_i a1 x1 h1 a2 x2 h2 a3 x3 h3
         have l4:=E4 h1 h2 h3 hq
         refine zh (j':=j) (by omega) ⟨xx,acc ++ [varD a2 aa false zFd],l4.1,by omega,by rw [List.length_append]; simp only [List.length_cons,List.length_nil]; omega,by rw [va_7 h1 h2 h3 hq hb]; rfl,Sub.live ⟨rfl,rfl,rfl,trivial⟩ ⟨rfl,rfl,rfl,?_,trivial⟩⟩
         show some (Res.tok _ (acc.length + 1)) = some (Res.tok _ (acc ++ [varD a2 aa false zFd]).length)
         rw [List.length_append]; rfl)
      | skip
theorem nb2_t {a : Int} (h : ((a != 2) == false) = true) : a = 2:=by simpa using h
theorem nb2_f {a : Int} (h : ((a != 2) == false) = false) : a ≠ 2:=by simpa using h
theorem seq_nt {s : List UInt8} {a : Array UInt8} (h : (!((bs s).toList == (⟨a⟩ : ByteArray).toList)) = true) : s ≠ a.toList:=zBO (by simpa using h)
theorem zF3 {s : List UInt8} {a : Array UInt8} (h : (!((bs s).toList == (⟨a⟩ : ByteArray).toList)) = false) : s = a.toList:=zDG (by simpa using h)
theorem fg_on {x : PS} (h : (hdT x).s = onT) : zBb x = .error ((hdT x).i,3):=by rw [zBb,if_pos h]
theorem fg_go {x : PS} (h : (hdT x).s ≠ onT) : zBb x = zw (nameQ x) fun n y => if (hdT y).k = 2 /\ (hdT y).s = onT then zw (nameQ (nxT y)) fun on z => zw (setQ z) fun ss u => .ok (fragD n on ss,u) else .error ((hdT y).i,3):=by rw [zBb,if_neg h]
theorem frag_ace (x : PS) (h : En x) (hlen : x.ts.length <= 100000) : ACE EN5 Tryz.prog 82 [.bx (pn 0) 0] [boxP x] (outQ VF (zBb x)):=by
 have hnm:=zCH h
 have hf:=zA8 (hdT x) 3
 obtain ⟨t,r,ht⟩:=h.cons
 have hh:=zAu ht
 rw [hh] at hf
 cases hq0 : nameQ x with
 | error e =>
   have g : (t.s = onT -> zBb x = .error (t.i,3)) /\ (t.s ≠ onT -> zBb x = .error e):=⟨fun h => by rw [fg_on (by rw [hh]; exact h),hh],fun h => by rw [fg_go (by rw [hh]; exact h),then_err hq0]⟩
   have K : ∀ {n y},nameQ x = .ok (n,y) -> False:=fun h => by rw [hq0] at h; cases h
   obtain ⟨ts,vr,nd⟩:=x
   cases ht
   refine zAX (fn:=Tryz.f82) 56 Tryz.func82 rfl rfl ?_
   intro pas w0 w he hp
   repeat' (first
|apply s_wanted_pick_t rfl rfl rfl
 . conv => lhs; whnf
 . first | rfl | assumption
 . conv => lhs; whnf
 . first | exact bT1 ‹_› | exact bT2 ‹_› | rfl
|apply zq rfl rfl rfl
 . conv => lhs; whnf
 . first | rfl | assumption
 . conv => lhs; whnf
 . first | exact bT1 ‹_› | exact bT2 ‹_› | rfl
|apply s_wanted_pick_f rfl rfl rfl
 . conv => lhs; whnf
 . first | rfl | assumption
 . conv => lhs; whnf
 . first | exact bF1 ‹_› | exact bF2 ‹_› | rfl
|apply zu rfl rfl rfl
 . conv => lhs; whnf
 . first | rfl | assumption
 . conv => lhs; whnf
 . first | exact bF1 ‹_› | exact bF2 ‹_› | rfl
|apply s_pr zv zY rfl
 . conv => lhs; whnf
 . conv => lhs; whnf
 . rfl
 . conv => lhs; whnf; arg 1; whnf
 . first | exact zAD _
 . first | exact hnm
 . exact fun _ => rfl
 . first | (intro _ _; simp only [renL,renV,ren_cells]; done) | exact fun _ _ => rfl
 refine fun ee hq => ?_
 change _ = Out.die _
 rotate_left 1
 refine fun aa xx hq => ?_
 first | (replace hq:=zAp hq; obtain ⟨hq,rfl⟩:=hq) | (cases hq; have hq:=True.intro) | skip
|apply zCE rfl
 . conv => lhs; whnf
 . first | exact hf
 . first | exact fun _ => rfl | (intro _; simp only [renL,renV,ren_cells])
 change _ = Out.die _
|exact (K ‹_›).elim
|refine zi ?_
|refine zf ?_
|refine zAH ?_
|refine zA ?_
|refine zI ?_
|refine zb ?_
|refine zU ?_
|refine za ?_
|apply aw_1
 conv => whnf
 refine ⟨?_,trivial⟩
|apply zg rfl rfl
 . conv => lhs; whnf
 . conv => lhs; whnf
 . first | exact bT1 ‹_› | exact bT2 ‹_›
|apply ze rfl rfl
 . conv => lhs; whnf
 . conv => lhs; whnf
 . first | exact bF1 ‹_› | exact bF2 ‹_›
|apply s_1
 conv => whnf; arg 1; arg 4; arg 3; whnf
 refine ⟨?_,?_⟩
|apply zt rfl
 . conv => lhs; whnf
 . conv => lhs; whnf; arg 2; whnf
|apply zd rfl
 . conv => lhs; whnf
 . conv => lhs; whnf
 . first | fail
|apply zAA rfl rfl rfl rfl
 . conv => lhs; whnf; arg 1; whnf
 . rfl
|apply zr rfl rfl rfl
 . conv => lhs; whnf
 . conv => lhs; whnf; arg 1; whnf
 . conv => lhs; whnf; arg 1; whnf
 . exact ⟨by kernel_rfl,by kernel_rfl⟩
 . rfl
|apply zM rfl
 . conv => lhs; whnf
 . conv => lhs; whnf
 . first | rfl | assumption
 . conv => lhs; whnf; arg 2; whnf
|apply zR rfl
 . conv => lhs; whnf
 . conv => lhs; whnf
 . first | rfl | assumption
 . conv => lhs; whnf
 . first | fail
|apply zl rfl
 . conv => lhs; whnf
 . conv => lhs; whnf
 . first | rfl | assumption
|apply zAI rfl
 . conv => lhs; whnf
 . rfl
 . rfl
|apply zP rfl
 . conv => lhs; whnf
 . conv => lhs; whnf
 . conv => lhs; whnf; arg 2; whnf
|apply zp rfl
 . conv => lhs; whnf
 . conv => lhs; whnf
 . conv => lhs; whnf
 . first | fail
|apply zn rfl
 . conv => lhs; whnf
 . conv => lhs; whnf
 . conv => lhs; whnf; arg 2; whnf
|apply zk rfl
 . conv => lhs; whnf
 . conv => lhs; whnf
 . conv => lhs; whnf
 . first | fail
|apply zN
 . conv => lhs; whnf; arg 1; arg 1; whnf
|apply zO
 . conv => lhs; whnf; arg 1; arg 1; whnf
|refine zT (by conv => lhs; whnf) ?_ ?_ <;> intro hb
|refine zj ?_
|refine zZ ?_
|refine zG ?_
|refine zK ?_
|refine zC ?_
|refine zB rfl ?_
|refine zE rfl ?_
|refine zF ?_
|refine zJ ?_
|refine zD ?_
|refine zL ?_
|apply zAB rfl
 . conv => lhs; whnf; arg 2; whnf
 . conv => lhs; whnf; arg 1; whnf
|apply zAN rfl
 . conv => lhs; whnf; arg 1; whnf
|apply zAE rfl
 . conv => lhs; whnf; arg 2; whnf
 . conv => lhs; whnf; arg 1; whnf
|apply zAF rfl
 . conv => lhs; whnf; arg 1; whnf
|refine ⟨_,by conv => lhs; whnf; arg 2; whnf,?_⟩; conv => rhs; whnf
|exact trivial
|intro hg)
   all_goals first
    | exact zBf _ _
    | exact (K ‹_›).elim
    | (rw [g.1 (zDG ‹_›)]; rfl)
    | (rw [g.2 (zBO ‹_›)]; rw [hq0] at hq; cases hq; rfl)
    | skip
 | ok q =>
   obtain ⟨n,y⟩:=q
   have hy:=h.name hq0
   obtain ⟨t2,r2,ht2⟩:=hy.1.cons
   have hh2:=zAu ht2
   have hf2:=zA8 (hdT y) 3
   rw [hh2] at hf2
   have hn2:=zBC hy.1
   have hnm2:=zCH hy.1.nx0
   have hse : ∀ {on z},nameQ (nxT y) = .ok (on,z) -> ACE EN5 Tryz.prog 79 [.bx (pn 0) 0,.c (.int .i64 1)] [boxP z] (outQ (fun l => .sl 57 l) (setQ z)):=fun h1 => zFX _ (hy.1.nx0.name h1).1 (by have:=(hy.1.nx0.name h1).2; have:=nx_len y; omega)
   have g1 : t.s = onT -> zBb x = .error (t.i,3):=fun h => by rw [fg_on (by rw [hh]; exact h),hh]
   have g2 : t.s ≠ onT -> ¬ (t2.k = 2 /\ t2.s = onT) -> zBb x = .error (t2.i,3):=fun h h2 => by rw [fg_go (by rw [hh]; exact h),zm hq0,if_neg (by rw [hh2]; exact h2),hh2]
   have g3 : t.s ≠ onT -> t2.k = 2 /\ t2.s = onT -> zBb x = zw (nameQ (nxT y)) fun on z => zw (setQ z) fun ss u => .ok (fragD n on ss,u):=fun h h2 => by rw [fg_go (by rw [hh]; exact h),zm hq0,if_pos (by rw [hh2]; exact h2)]
   have K : ∀ {e},nameQ x = .error e -> False:=fun h => by rw [hq0] at h; cases h
   have hnm' : ACE EN5 Tryz.prog 118 [.bx (pn 0) 0] [boxP x] (outQ (fun n => .c (.string (bs n))) (.ok (n,y) : PR (List UInt8))):=by rw [<- hq0]; exact hnm
   obtain ⟨ts,vr,nd⟩:=x
   cases ht
   obtain ⟨yts,yvr,ynd⟩:=y
   cases ht2
   refine zAX (fn:=Tryz.f82) 56 Tryz.func82 rfl rfl ?_
   intro pas w0 w he hp
   have hS : ∀ {a : List UInt8} {b : PS},(Except.ok (n,(⟨t2 :: r2,yvr,ynd⟩ : PS)) : PR (List UInt8)) = .ok (a,b) -> a = n /\ b = ⟨t2 :: r2,yvr,ynd⟩:=fun h => by cases h; exact ⟨rfl,rfl⟩
   repeat' (first
|apply s_wanted_pick_t rfl rfl rfl
 . conv => lhs; whnf
 . first | rfl | assumption
 . conv => lhs; whnf
 . first | exact bT1 ‹_› | exact bT2 ‹_› | rfl
|apply zq rfl rfl rfl
 . conv => lhs; whnf
 . first | rfl | assumption
 . conv => lhs; whnf
 . first | exact bT1 ‹_› | exact bT2 ‹_› | rfl
|apply s_wanted_pick_f rfl rfl rfl
 . conv => lhs; whnf
 . first | rfl | assumption
 . conv => lhs; whnf
 . first | exact bF1 ‹_› | exact bF2 ‹_› | rfl
|apply zu rfl rfl rfl
 . conv => lhs; whnf
 . first | rfl | assumption
 . conv => lhs; whnf
 . first | exact bF1 ‹_› | exact bF2 ‹_› | rfl
|apply zA5 (VF (fragD n _ _)) rfl rfl
 . conv => lhs; whnf; arg 2; whnf
 . repeat' (first | exact VLe.refl _ | exact VLe.nil _ | exact VLe.lit _ _ | exact VLe.own _ _ _ | apply VLe.agg | apply VLeL.cons | exact VLeL.nil)
|apply s_m zv zY rfl
 . conv => lhs; whnf
 . conv => lhs; whnf
 . rfl
 . conv => lhs; whnf; arg 1; whnf
 . first | exact zAD _
 . first | exact hn2
 . exact fun _ => rfl
 . exact fun _ => rfl
|apply zAT zv zY rfl
 . conv => lhs; whnf
 . conv => lhs; whnf
 . first | rfl | assumption
 . conv => lhs; whnf
 . rfl
 . conv => lhs; whnf; arg 1; whnf
 . first | exact zAD _
 . first | exact hn2
 . exact fun _ => rfl
 . exact fun _ => rfl
|apply zl rfl
 . conv => lhs; whnf
 . conv => lhs; whnf
 . first | rfl | assumption
|apply zAI rfl
 . conv => lhs; whnf
 . rfl
 . rfl
|apply zAs zv zY rfl
 . conv => lhs; whnf
 . conv => lhs; whnf
 . conv => lhs; whnf
 . rfl
 . conv => lhs; whnf; arg 1; whnf
 . first | exact zAD _
 . first | exact hn2
 . exact fun _ => rfl
 . exact fun _ => rfl
|apply s_pr zv zY rfl
 . conv => lhs; whnf
 . conv => lhs; whnf
 . rfl
 . conv => lhs; whnf; arg 1; whnf
 . first | exact zAD _
 . first | exact hnm' | exact hnm2 | exact hse ‹_›
 . exact fun _ => rfl
 . first | (intro _ _; simp only [renL,renV,ren_cells]; done) | exact fun _ _ => rfl
 refine fun ee hq => ?_
 change _ = Out.die _
 rotate_left 1
 refine fun aa xx hq => ?_
 first | (replace hq:=zAp hq; obtain ⟨hq,rfl⟩:=hq) | (cases hq; have hq:=True.intro) | skip
|apply zCE rfl
 . conv => lhs; whnf
 . first | exact hf | exact hf2
 . first | exact fun _ => rfl | (intro _; simp only [renL,renV,ren_cells])
 change _ = Out.die _
|exact (K ‹_›).elim
|refine zi ?_
|refine zf ?_
|refine zAH ?_
|refine zA ?_
|refine zI ?_
|refine zb ?_
|refine zU ?_
|refine za ?_
|apply aw_1
 conv => whnf
 refine ⟨?_,trivial⟩
|apply zg rfl rfl
 . conv => lhs; whnf
 . conv => lhs; whnf
 . first | exact bT1 ‹_› | exact bT2 ‹_›
|apply ze rfl rfl
 . conv => lhs; whnf
 . conv => lhs; whnf
 . first | exact bF1 ‹_› | exact bF2 ‹_›
|apply s_1
 conv => whnf; arg 1; arg 4; arg 3; whnf
 refine ⟨?_,?_⟩
|apply zt rfl
 . conv => lhs; whnf
 . conv => lhs; whnf; arg 2; whnf
|apply zd rfl
 . conv => lhs; whnf
 . conv => lhs; whnf
 . first | fail
|apply zAA rfl rfl rfl rfl
 . conv => lhs; whnf; arg 1; whnf
 . rfl
|apply zr rfl rfl rfl
 . conv => lhs; whnf
 . conv => lhs; whnf; arg 1; whnf
 . conv => lhs; whnf; arg 1; whnf
 . exact ⟨by kernel_rfl,by kernel_rfl⟩
 . rfl
|apply zM rfl
 . conv => lhs; whnf
 . conv => lhs; whnf
 . first | rfl | assumption
 . conv => lhs; whnf; arg 2; whnf
|apply zR rfl
 . conv => lhs; whnf
 . conv => lhs; whnf
 . first | rfl | assumption
 . conv => lhs; whnf
 . first | fail
|apply zl rfl
 . conv => lhs; whnf
 . conv => lhs; whnf
 . first | rfl | assumption
|apply zAI rfl
 . conv => lhs; whnf
 . rfl
 . rfl
|apply zP rfl
 . conv => lhs; whnf
 . conv => lhs; whnf
 . conv => lhs; whnf; arg 2; whnf
|apply zp rfl
 . conv => lhs; whnf
 . conv => lhs; whnf
 . conv => lhs; whnf
 . first | fail
|apply zn rfl
 . conv => lhs; whnf
 . conv => lhs; whnf
 . conv => lhs; whnf; arg 2; whnf
|apply zk rfl
 . conv => lhs; whnf
 . conv => lhs; whnf
 . conv => lhs; whnf
 . first | fail
|apply zN
 . conv => lhs; whnf; arg 1; arg 1; whnf
|apply zO
 . conv => lhs; whnf; arg 1; arg 1; whnf
|refine zT (by conv => lhs; whnf) ?_ ?_ <;> intro hb
|refine zj ?_
|refine zZ ?_
|refine zG ?_
|refine zK ?_
|refine zC ?_
|refine zB rfl ?_
|refine zE rfl ?_
|refine zF ?_
|refine zJ ?_
|refine zD ?_
|refine zL ?_
|apply zAB rfl
 . conv => lhs; whnf; arg 2; whnf
 . conv => lhs; whnf; arg 1; whnf
|apply zAN rfl
 . conv => lhs; whnf; arg 1; whnf
|apply zAE rfl
 . conv => lhs; whnf; arg 2; whnf
 . conv => lhs; whnf; arg 1; whnf
|apply zAF rfl
 . conv => lhs; whnf; arg 1; whnf
|refine ⟨_,by conv => lhs; whnf; arg 2; whnf,?_⟩; conv => rhs; whnf
|exact trivial
|intro hg)
   all_goals first
    | exact zBf _ _
    | exact (K ‹_›).elim
    | (cases hq; done)
    | (rw [g1 (zDG ‹_›)]; rfl)
    | (rw [g2 (zBO ‹_›) (fun h => nb2_f hg h.1)]; rfl)
    | (rw [g2 (zBO ‹_›) (fun h => seq_nt hb h.2)]; rfl)
    | (rw [g3 (zBO ‹_›) ⟨nb2_t hg,zF3 hb⟩,then_err hq]; rfl)
    | (rw [g3 (zBO ‹_›) ⟨nb2_t hg,zF3 hb⟩,zm ‹_›,then_err hq]; rfl)
    | (rw [g3 (zBO ‹_›) ⟨nb2_t hg,zF3 hb⟩,zm ‹_›,zm hq]; rfl)
    | skip
end Go.Proofs.YtdlnnlglmifceaaGreatDoor
namespace Go.Proofs.YtdlnnlglmifceaaGreatDoor
def Nz {α : Type} (r : PR α) : Prop:=∀ i,r ≠ .error (i,0)
section
variable {α β : Type}
theorem Nz.okk (p : α × PS) : Nz (.ok p : PR α):=fun i h => by cases h
theorem Nz.err {i : Nat} {e : Int} (h : e ≠ 0) : Nz (.error (i,e) : PR α):=fun j hj => by cases hj; exact h rfl
theorem Nz.ite {c : Prop} [Decidable c] {a b : PR α} (h1 : c -> Nz a) (h2 : ¬ c -> Nz b) : Nz (if c then a else b):=by
 split
 . exact h1 ‹_›
 . exact h2 ‹_›
theorem Nz.then {r : PR α} {f : α -> PS -> PR β} (h : Nz r) (hf : ∀ a x,r = .ok (a,x) -> Nz (f a x)) : Nz (zw r f):=by
 cases hr : r with
 | error e =>
   rw [then_err (r:=.error e) rfl]
   intro i hi
   cases hi
   exact h i hr
 | ok p =>
   obtain ⟨a,x⟩:=p
   rw [zm (r:=.ok (a,x)) rfl]
   exact hf a x hr
end
end Go.Proofs.YtdlnnlglmifceaaGreatDoor
namespace Go.Proofs.YtdlnnlglmifceaaGreatDoor
theorem zDk : ∀ (k : Nat) (l t : List UInt8),unqF k l = some t -> t.length <= l.length
 | k,[],t,h => by
   have : unqF k [] = some []:=by cases k <;> rfl
   rw [this] at h; cases h; exact Nat.le_refl _
 | 0,c :: r,t,h => by cases h
 | k + 1,c :: r,t,h => by
   have h : stpU (unqF k) c r = some t:=h
   unfold stpU at h
   split at h
   . cases h
   split at h
   . obtain ⟨q,hq,rfl⟩:=Option.map_eq_some_iff.1 h
     have:=zDk k _ _ hq
     simp; omega
   split at h
   . cases h
   . rename_i d r'
     split at h
     . obtain ⟨q,hq,rfl⟩:=Option.map_eq_some_iff.1 h
       have:=zDk k _ _ hq
       simp; omega
     . split at h
       . cases h
       . split at h
         . split at h
           . obtain ⟨q,hq,rfl⟩:=Option.map_eq_some_iff.1 h
             have:=zDk k _ _ hq
             simp at this |-; omega
           . cases h
         . cases h
theorem zGn {l t : List UInt8} (h : unquoteU l = some t) : t.length <= l.length:=by
 unfold unquoteU at h
 split at h
 . have:=zDk _ _ _ h
   simp at this; omega
 . cases h
theorem readU_len {l : List UInt8} {k : Int} {s : List UInt8} {n : Nat} (h : readU l = .ok (k,s,n)) : s.length <= l.length:=by
 unfold readU at h
 split at h
 . cases h
 . rename_i c r
   have hs:=(zF0 (p:=wrdU) r).2
   have hl:=zBs wrdU r
   split at h
   . cases h; simp
   split at h
   . split at h
     . rename_i h3
       cases h
       have : (r.take 2).length = 2:=by rw [h3]; rfl
       rw [List.length_take] at this
       simp; omega
     . cases h
   split at h
   . split at h
     . cases h; rw [List.length_cons,List.length_cons,hs]; omega
     . cases h
   split at h
   . split at h
     . cases h
     . cases h; rw [List.length_cons,List.length_cons,hs]; omega
   split at h
   . split at h
     . cases h
     . split at h
       . cases h
       . rename_i ht
         cases h
         have:=zGn ht
         simp at this |-; omega
   . cases h
theorem readU_nz {l : List UInt8} {e : Int} (h : readU l = .error e) : e ≠ 0:=by
 unfold readU at h
 split at h
 . cases h; decide
 . split at h
   . cases h
   split at h
   . split at h
     . cases h
     . cases h; decide
   split at h
   . split at h
     . cases h
     . rename_i hn; cases h; exact hn
   split at h
   . split at h
     . cases h; decide
     . cases h
   split at h
   . split at h
     . cases h; decide
     . split at h
       . cases h; decide
       . cases h
   . cases h; decide
theorem zHh : ∀ (f : Nat) (l : List UInt8) (i : Nat) (ts : List Tok),scanF f l i = .ok ts -> (∃ a e,ts = a ++ [e] /\ e.k = 5) /\ ∀ t ∈ ts,t.i <= i + l.length /\ t.s.length <= l.length
 | 0,_,_,_,h => by cases h
 | f + 1,l,i,ts,h => by
   unfold scanF at h
   split at h
   . cases h
     exact ⟨⟨[],_,rfl,rfl⟩,fun t ht => by rw [List.mem_singleton] at ht; subst ht; exact ⟨Nat.le_refl _,Nat.zero_le _⟩⟩
   . rename_i c r hl
     have hlen : (c :: r).length = l.length - skipM false l:=by rw [<- hl,List.length_drop]
     have hsk:=zBE false l
     split at h
     . cases h
     . rename_i t n ht
       have hn:=zFb ht
       have hu:=zHk ht
       have hs:=readU_len hu.1
       split at h
       . cases h
       . rename_i ts' hts
         cases h
         obtain ⟨⟨a,e,rfl,he⟩,hm⟩:=zHh f _ _ _ hts
         refine ⟨⟨t :: a,e,rfl,he⟩,fun u hu' => ?_⟩
         rcases List.mem_cons.1 hu' with rfl | hu'
         . exact ⟨by rw [hu.2]; omega,by omega⟩
         . have:=hm u hu'
           rw [List.length_drop] at this
           exact ⟨by omega,by omega⟩
theorem zF6 : ∀ (f : Nat) (l : List UInt8) (i : Nat) (p : Nat × Int),l.length < f -> scanF f l i = .error p -> p.1 <= i + l.length /\ p.2 ≠ 0
 | 0,_,_,_,h,_ => by omega
 | f + 1,l,i,p,hf,h => by
   unfold scanF at h
   split at h
   . cases h
   . rename_i c r hl
     have hlen : (c :: r).length = l.length - skipM false l:=by rw [<- hl,List.length_drop]
     have hsk:=zBE false l
     split at h
     . rename_i e he
       cases h
       refine ⟨by show i + _ <= _; omega,?_⟩
       unfold zDd at he
       split at he
       . rename_i e' he'
         cases he
         exact readU_nz he'
       . cases he
     . rename_i t n ht
       have hn:=zFb ht
       split at h
       . rename_i e he
         cases h
         have:=zF6 f _ _ p (by rw [List.length_drop]; omega) he
         rw [List.length_drop] at this
         exact ⟨by omega,this.2⟩
       . cases h
theorem scan_en {l : List UInt8} {ts : List Tok} (h : zCb l = .ok ts) : En ⟨ts,true,0⟩ /\ ∀ t ∈ ts,t.i <= l.length:=by
 unfold zCb at h
 split at h
 . cases h
 . obtain ⟨⟨a,e,h1,h2⟩,h3⟩:=zHh _ _ _ _ h
   exact ⟨⟨a,e,h1,h2,fun t ht => by have:=(h3 t ht).2; omega⟩,fun t ht => by have:=(h3 t ht).1; omega⟩
def inT (N : Nat) (t t' : Tok) : Prop:=t = t' /\ t.i <= N
theorem inT_tr (N : Nat) : TR (inT N) fun i i' => i = i' /\ i <= N:=⟨fun h => by rw [h.1],fun h => by rw [h.1],fun h => ⟨by rw [h.1],h.2⟩,⟨rfl,Nat.zero_le _⟩⟩
theorem all2_in {N : Nat} : ∀ {ts : List Tok},(∀ t ∈ ts,t.i <= N) -> All2 (inT N) ts ts
 | [],_ => .nil
 | t :: ts,h => .cons ⟨rfl,h t (List.mem_cons_self ..)⟩ (all2_in fun u hu => h u (List.mem_cons_of_mem _ hu))
theorem doc_err {ts : List Tok} {N i : Nat} {e : Int} (h : ∀ t ∈ ts,t.i <= N) (hq : docQ ts = .error (i,e)) : i <= N:=by
 have hr:=doc_rr (inT_tr N) (all2_in h)
 rw [hq] at hr
 exact hr.1.2
theorem scan_err {l : List UInt8} {i : Nat} {e : Int} (h : zCb l = .error (i,e)) : e ≠ 0:=by
 unfold zCb at h
 split at h
 . cases h; decide
 . exact (zF6 _ _ _ _ (Nat.lt_succ_self _) h).2
def Mz {α : Type} (r : PR α) : Prop:=∀ i e,r = .error (i,e) -> 0 < e /\ e <= 100
section
variable {α β : Type}
theorem Mz.okk (p : α × PS) : Mz (.ok p : PR α):=fun i e h => by cases h
theorem Mz.err {i : Nat} {e : Int} (h : 0 < e /\ e <= 100) : Mz (.error (i,e) : PR α):=fun j e' hj => by cases hj; exact h
theorem Mz.ite {c : Prop} [Decidable c] {a b : PR α} (h1 : c -> Mz a) (h2 : ¬ c -> Mz b) : Mz (if c then a else b):=by
 split
 . exact h1 ‹_›
 . exact h2 ‹_›
theorem Mz.then {r : PR α} {f : α -> PS -> PR β} (h : Mz r) (hf : ∀ a x,r = .ok (a,x) -> Mz (f a x)) : Mz (zw r f):=by
 cases hr : r with
 | error e =>
   rw [then_err (r:=.error e) rfl]
   intro i e' hi
   cases hi
   exact h i e' hr
 | ok p =>
   obtain ⟨a,x⟩:=p
   rw [zm (r:=.ok (a,x)) rfl]
   exact hf a x hr
theorem zCi (s : List UInt8) (x : PS) : Mz (takeQ s x):=by
 unfold takeQ
 exact .ite (fun _ => .okk _) fun _ => .err (by decide)
theorem zBZ (x : PS) : Mz (nameQ x):=by
 unfold nameQ
 exact .ite (fun _ => .okk _) fun _ => .err (by decide)
theorem zIM : ∀ (n : Nat) (w : List Int) (x : PS),Mz (closeQ n w x)
 | 0,w,x => by unfold closeQ; exact .okk _
 | n + 1,w,x => by unfold closeQ; exact .then (zCi _ _) fun _ y _ => zIM n _ y
theorem inner_mz (x : PS) : Mz (innerQ x):=.then (zBZ _) fun _ y _ => .then (zIM _ _ y) fun _ _ _ => .okk _
theorem typ_mz (x : PS) : Mz (typQ x):=.then (inner_mz x) fun _ _ _ => .ite (fun _ => .err (by decide)) fun _ => .okk _
theorem zHy {v : PS -> PR D} (hv : ∀ y,En y -> Mz (v y)) (hl : ∀ {y z a},En y -> v y = .ok (a,z) -> En z /\ z.ts.length < y.ts.length) : ∀ (f : Nat) (acc : List D) (x : PS),En x -> x.ts.length < f -> Mz (itemsQ v f acc x)
 | 0,_,_,_,h => by omega
 | f + 1,acc,x,hx,h => by
   unfold itemsQ
   exact .ite (fun _ => .okk _) fun _ => .then (hv x hx) fun _ y hq => zHy hv hl f _ y (hl hx hq).1 (by have:=(hl hx hq).2; omega)
theorem zGX {v : PS -> PR D} (hv : ∀ y,En y -> Mz (v y)) (hl : ∀ {y z a},En y -> v y = .ok (a,z) -> En z /\ z.ts.length < y.ts.length) : ∀ (f : Nat) (ks : List (List UInt8)) (acc : List D) (x : PS),En x -> x.ts.length < f -> Mz (zAV v f ks acc x)
 | 0,_,_,_,_,h => by omega
 | f + 1,ks,acc,x,hx,h => by
   unfold zAV
   refine .ite (fun _ => .okk _) fun _ => .then (zBZ x) fun k y hn => .ite (fun _ => .err (by decide)) fun _ => .then (zCi _ y) fun u z ht => .then (hv z ?_) fun _ w hw => zGX hv hl f _ _ w ?_ ?_
   . exact ((hx.name hn).1.take ht).1
   . exact (hl ((hx.name hn).1.take ht).1 hw).1
   . have h1:=hx.name hn
     have h2:=h1.1.take ht
     have h3:=hl h2.1 hw
     omega
theorem zFM : ∀ (f lv : Nat) (x : PS),En x -> lv <= 25 -> 26 <= f + lv -> Mz (valueQ f lv x)
 | 0,lv,_,_,h1,h2 => by omega
 | f + 1,lv,x,hx,h1,h2 => by
   have hy : En { nxT x with nd:=x.nd + 1 }:=hx.nx0
   unfold valueQ
   refine .ite (fun _ => .err (by decide)) fun _ => .ite (fun _ => .err (by decide)) fun hlv => .ite (fun _ => .err (by decide)) fun _ => ?_
   dsimp only
   refine .ite (fun _ => .okk _) fun _ => .ite (fun _ => .okk _) fun _ => .ite (fun _ => .okk _) fun _ => .ite (fun _ => .then (zBZ _) fun _ _ _ => .okk _) fun _ => .ite (fun _ => ?_) fun _ => ?_
   . exact .then (zHy (fun y hy => zFM f (lv + 1) y hy (by omega) (by omega)) (fun hy hq => hy.valueL hq) _ _ _ hy (Nat.lt_succ_self _)) fun _ _ _ => .okk _
   . exact .then (zGX (fun y hy => zFM f (lv + 1) y hy (by omega) (by omega)) (fun hy hq => hy.valueL hq) _ _ _ _ hy (Nat.lt_succ_self _)) fun _ _ _ => .okk _
theorem zHT (x : PS) (h : En x) : Mz (zAx x):=zFM 25 1 _ h (by omega) (by omega)
theorem zIU : ∀ (f : Nat) (acc : List D) (x : PS),En x -> x.ts.length <= f -> Mz (argsF f acc x)
 | 0,_,x,hx,h => by obtain ⟨t,r,ht⟩:=hx.cons; rw [ht] at h; simp at h
 | f + 1,acc,x,hx,h => by
   unfold argsF
   refine .ite (fun _ => .okk _) fun _ => .ite (fun _ => .err (by decide)) fun _ => .then (zBZ x) fun n y hn => .then (zCi _ y) fun u z ht => .then (zHT z ?_) fun _ w hw => zIU f _ w ?_ ?_
   . exact ((hx.name hn).1.take ht).1
   . exact (((hx.name hn).1.take ht).1.whole hw).1
   . have h1:=hx.name hn
     have h2:=h1.1.take ht
     have h3:=h2.1.whole hw
     omega
theorem args_mz (x : PS) (h : En x) : Mz (argsQ x):=.ite (fun hs => zIU _ _ _ h.nx0 (by have:=(h.sg hs).2; omega)) fun _ => .okk _
theorem zIE : ∀ (f : Nat) (acc : List D) (x : PS),En x -> x.ts.length < f -> Mz (dirsF f acc x)
 | 0,_,_,_,h => by omega
 | f + 1,acc,x,hx,h => by
   unfold dirsF
   refine .ite (fun hs => .ite (fun _ => .err (by decide)) fun _ => .then (zBZ _) fun n y hn => .then (args_mz y ?_) fun _ z hz => zIE f _ z ?_ ?_) fun _ => .okk _
   . exact (hx.nx0.name hn).1
   . exact ((hx.nx0.name hn).1.args hz).1
   . have h1:=hx.sg hs
     have h2:=h1.1.name hn
     have h3:=h2.1.args hz
     omega
theorem zHJ (x : PS) (h : En x) : Mz (dirsQ x):=zIE _ _ _ h (Nat.lt_succ_self _)
theorem sel_mz {v : PS -> PR (List D)} (hv : ∀ y,En y -> Mz (v y)) (x : PS) (h : En x) : Mz (selQ v x):=by
 unfold selQ
 refine .ite (fun hs => ?_) fun _ => ?_
 . dsimp only
   refine .ite (fun _ => .then (zHJ _ h.nx0.nx0) fun _ _ _ => .okk _) fun _ => .then (.ite (fun _ => zBZ _) fun _ => .okk _) fun on z hz => ?_
   have hz' : En z:=by
    split at hz
    . exact (h.nx0.nx0.name hz).1
    . cases hz; exact h.nx0
   exact .then (zHJ z hz') fun _ u hu => .then (hv u (hz'.dirs hu).1) fun _ _ _ => .okk _
 . refine .then (zBZ x) fun n y hn => ?_
   have hy:=(h.name hn).1
   refine .then (.ite (fun _ => .then (zBZ _) fun _ _ _ => .okk _) fun _ => .okk _) fun an z hz => ?_
   have hz' : En z:=by
    split at hz
    . cases hm : nameQ (nxT y) with
      | error e => rw [then_err hm] at hz; cases hz
      | ok p =>
        obtain ⟨m,z2⟩:=p
        rw [zm hm] at hz
        cases hz
        exact (hy.nx0.name hm).1
    . cases hz; exact hy
   refine .then (args_mz z hz') fun _ u hu => .then (zHJ u (hz'.args hu).1) fun _ w hw => ?_
   exact .then (.ite (fun _ => hv w ((hz'.args hu).1.dirs hw).1) fun _ => .okk _) fun _ _ _ => .okk _
theorem setF_mz {v : PS -> PR D} (hv : ∀ y,En y -> Mz (v y)) (hl : ∀ {y z a},En y -> v y = .ok (a,z) -> En z /\ z.ts.length < y.ts.length) : ∀ (f : Nat) (acc : List D) (x : PS),En x -> x.ts.length < f -> Mz (setF v f acc x)
 | 0,_,_,_,h => by omega
 | f + 1,acc,x,hx,h => by
   unfold setF
   exact .ite (fun _ => .okk _) fun _ => .ite (fun _ => .err (by decide)) fun _ => .then (hv x hx) fun _ y hq => setF_mz hv hl f _ y (hl hx hq).1 (by have:=(hl hx hq).2; omega)
theorem sels_mz : ∀ (f lv : Nat) (x : PS),En x -> lv <= 25 -> 26 <= f + lv -> Mz (selsQ f lv x)
 | 0,lv,_,_,h1,h2 => by omega
 | f + 1,lv,x,hx,h1,h2 => by
   unfold selsQ
   by_cases hs : isS x [123] = true
   . refine .ite (fun _ => .err (by decide)) fun hlv => .then (zCi _ x) fun u y hy => ?_
     have hlv : ¬ 24 < lv:=fun h => hlv ⟨hs,h⟩
     exact setF_mz (fun y hy => sel_mz (fun y hy => sels_mz f (lv + 1) y hy (by omega) (by omega)) y hy) (fun hy hq => hy.selL hq) _ _ _ (hx.take hy).1 (Nat.lt_succ_self _)
   . refine .ite (fun _ => .err (by decide)) fun _ => .then (zCi _ x) fun u y hy => ?_
     exfalso
     unfold takeQ at hy
     rw [if_neg hs] at hy
     cases hy
theorem set_mz (x : PS) (h : En x) : Mz (setQ x):=sels_mz 25 1 x h (by omega) (by omega)
theorem def_mz (x : PS) (h : En x) : Mz (defQ x):=by
 unfold defQ
 exact .ite (fun _ => .then (zHT _ h.nx0) fun _ _ _ => .okk _) fun _ => .okk _
theorem def_em {x y : PS} {d : Bool × D} (h : En x) (hq : defQ x = .ok (d,y)) : En y /\ y.ts.length <= x.ts.length:=by
 unfold defQ at hq
 split at hq
 . cases hw : zAx { nxT x with vr:=false } with
   | error e => rw [then_err hw] at hq; cases hq
   | ok p =>
     obtain ⟨d',o⟩:=p
     rw [zm hw] at hq
     cases hq
     have h1:=En.whole (x:={ nxT x with vr:=false }) h.nx0 hw
     exact ⟨h1.1,Nat.le_trans h1.2 (nx_len x)⟩
 . cases hq; exact ⟨h,Nat.le_refl _⟩
theorem var_mz (x : PS) (h : En x) : Mz (varQ x):=
 .then (zCi _ x) fun u y h1 => .then (zBZ y) fun n z h2 => .then (zCi _ z) fun u2 w h3 => .then (typ_mz w) fun t v h4 =>
  .then (def_mz v ((((h.take h1).1.name h2).1.take h3).1.typ h4).1) fun _ _ _ => .okk _
theorem var_em {x o : PS} {d : D} (h : En x) (hq : varQ x = .ok (d,o)) : En o /\ o.ts.length < x.ts.length:=by
 unfold varQ at hq
 cases h1 : takeQ [36] x with
 | error e => rw [then_err h1] at hq; cases hq
 | ok p =>
 obtain ⟨u,y⟩:=p
 rw [zm h1] at hq
 cases h2 : nameQ y with
 | error e => rw [then_err h2] at hq; cases hq
 | ok p =>
 obtain ⟨n,z⟩:=p
 rw [zm h2] at hq
 cases h3 : takeQ [58] z with
 | error e => rw [then_err h3] at hq; cases hq
 | ok p =>
 obtain ⟨u2,w⟩:=p
 rw [zm h3] at hq
 cases h4 : typQ w with
 | error e => rw [then_err h4] at hq; cases hq
 | ok p =>
 obtain ⟨t,v⟩:=p
 rw [zm h4] at hq
 cases h5 : defQ v with
 | error e => rw [then_err h5] at hq; cases hq
 | ok p =>
 obtain ⟨d',o'⟩:=p
 rw [zm h5] at hq
 cases hq
 have e1:=h.take h1
 have e2:=e1.1.name h2
 have e3:=e2.1.take h3
 have e4:=e3.1.typ h4
 have e5:=def_em e4.1 h5
 exact ⟨e5.1,by omega⟩
theorem zHV : ∀ (f : Nat) (acc : List D) (x : PS),En x -> x.ts.length <= f -> Mz (varsF f acc x)
 | 0,_,x,hx,h => by obtain ⟨t,r,ht⟩:=hx.cons; rw [ht] at h; simp at h
 | f + 1,acc,x,hx,h => by
   by_cases hE : acc.length ≠ 0 /\ isS x [41] = true
   . rw [vl_end hE.1 hE.2]; exact .okk _
   by_cases hL : isS x [36] = true /\ 16 <= acc.length
   . rw [vl_lim hE hL]; exact .err (by decide)
   rw [vl_go hE hL]
   exact .then (var_mz x hx) fun a y hq => zHV f _ y (var_em hx hq).1 (by have:=(var_em hx hq).2; omega)
theorem zHX : ∀ (f : Nat) (acc : List D) {x y : PS} {l : List D},En x -> varsF f acc x = .ok (l,y) -> En y /\ y.ts.length <= x.ts.length
 | 0,_,_,_,_,_,h => by cases h
 | f + 1,acc,x,y,l,hx,hq => by
   by_cases hE : acc.length ≠ 0 /\ isS x [41] = true
   . rw [vl_end hE.1 hE.2] at hq; cases hq; exact ⟨hx.nx0,nx_len x⟩
   by_cases hL : isS x [36] = true /\ 16 <= acc.length
   . rw [vl_lim hE hL] at hq; cases hq
   rw [vl_go hE hL] at hq
   cases h1 : varQ x with
   | error e => rw [then_err h1] at hq; cases hq
   | ok p =>
     obtain ⟨a,z⟩:=p
     rw [zm h1] at hq
     have e1:=var_em hx h1
     have e2:=zHX f _ e1.1 hq
     exact ⟨e2.1,by omega⟩
theorem op_mz (k : Int) (x : PS) (h : En x) : Mz (opQ k x):=by
 unfold opQ
 refine .then (.ite (fun _ => .okk _) fun _ => .okk _) fun n y hy => ?_
 have hy' : En y:=by
  split at hy
  . cases hy; exact h.nx0
  . cases hy; exact h
 refine .then (.ite (fun hs => zHV _ _ _ hy'.nx0 (nx_len y)) fun _ => .okk _) fun vs z hz => ?_
 have hz' : En z:=by
  split at hz
  . exact (zHX _ _ hy'.nx0 hz).1
  . cases hz; exact hy'
 exact .then (set_mz z hz') fun _ _ _ => .okk _
theorem frag_mz (x : PS) (h : En x) : Mz (zBb x):=by
 unfold zBb
 refine .ite (fun _ => .err (by decide)) fun _ => .then (zBZ x) fun n y hy => .ite (fun _ => .then (zBZ _) fun on z hz => .then (set_mz z ?_) fun _ _ _ => .okk _) fun _ => .err (by decide)
 exact ((h.name hy).1.nx0.name hz).1
theorem zFp : ∀ (f n : Nat) (ops frs : List D) (x : PS),En x -> x.ts.length < f -> Mz (docF f n ops frs x)
 | 0,_,_,_,_,_,h => by omega
 | f + 1,n,ops,frs,x,hx,h => by
   unfold docF
   refine .ite (fun _ => .okk _) fun _ => ?_
   dsimp only
   refine .ite (fun _ => .err (by decide)) fun _ => .ite (fun _ => .err (by decide)) fun _ => .ite (fun _ => ?_) fun _ => .ite (fun _ => ?_) fun _ => ?_
   . exact .then (set_mz x hx) fun ss y hq => zFp f _ _ _ y (hx.sels hq).1 (by have:=(hx.sels hq).2; omega)
   . exact .then (op_mz _ _ hx.nx0) fun o y hq => zFp f _ _ _ y (hx.nx0.op hq).1 (by have:=(hx.nx0.op hq).2; have:=nx_len x; omega)
   . exact .then (frag_mz _ hx.nx0) fun o y hq => zFp f _ _ _ y (hx.nx0.frag hq).1 (by have:=(hx.nx0.frag hq).2; have:=nx_len x; omega)
theorem doc_mz {ts : List Tok} (h : En ⟨ts,true,0⟩) : Mz (docQ ts):=zFp _ _ _ _ _ h (Nat.lt_succ_self _)
end
end Go.Proofs.YtdlnnlglmifceaaGreatDoor
namespace Go.Proofs.YtdlnnlglmifceaaGreatDoor
def tw : List Tok -> Nat
 | [] => 0
 | t :: r => t.s.length + 40 + tw r
def Bd {α : Type} (μ : α -> Nat) (N : Nat) (r : PR α) : Prop:=∀ v y,r = .ok (v,y) -> μ v + tw y.ts <= N
section
variable {α β : Type} {μ : α -> Nat} {ν : β -> Nat} {N M : Nat}
theorem Bd.okk {v : α} {y : PS} (h : μ v + tw y.ts <= N) : Bd μ N (.ok (v,y) : PR α):=fun _ _ e => by cases e; exact h
theorem Bd.err {e : Nat × Int} : Bd μ N (.error e : PR α):=fun _ _ h => by cases h
theorem Bd.ite {c : Prop} [Decidable c] {a b : PR α} (h1 : c -> Bd μ N a) (h2 : ¬ c -> Bd μ N b) : Bd μ N (if c then a else b):=by
 split
 . exact h1 ‹_›
 . exact h2 ‹_›
theorem Bd.then {r : PR α} {f : α -> PS -> PR β} (h : Bd μ N r) (hf : ∀ a x,μ a + tw x.ts <= N -> Bd ν M (f a x)) : Bd ν M (zw r f):=by
 cases hr : r with
 | error e =>
   rw [then_err (r:=.error e) rfl]
   exact .err
 | ok p =>
   obtain ⟨a,x⟩:=p
   rw [zm (r:=.ok (a,x)) rfl]
   exact hf a x (h a x hr)
end
def sl (s : List UInt8) : Nat:=s.length + 40
section
variable {v : PS -> PR D} (hv : ∀ y,Bd bulkD (tw y.ts) (v y))
include hv
end
end Go.Proofs.YtdlnnlglmifceaaGreatDoor
namespace Go.Proofs.YtdlnnlglmifceaaGreatDoor
def Hr {α : Type} (Q : α -> PS -> Prop) (r : PR α) : Prop:=∀ v z,r = .ok (v,z) -> Q v z
section
variable {α β : Type} {Q : α -> PS -> Prop} {R : β -> PS -> Prop}
theorem Hr.okk {v : α} {z : PS} (h : Q v z) : Hr Q (.ok (v,z) : PR α):=fun _ _ e => by cases e; exact h
theorem Hr.err {e : Nat × Int} : Hr Q (.error e : PR α):=fun _ _ h => by cases h
theorem Hr.ite {c : Prop} [Decidable c] {a b : PR α} (h1 : c -> Hr Q a) (h2 : ¬ c -> Hr Q b) : Hr Q (if c then a else b):=by
 split
 . exact h1 ‹_›
 . exact h2 ‹_›
theorem Hr.then {r : PR α} {f : α -> PS -> PR β} (h : Hr Q r) (hf : ∀ a x,Q a x -> Hr R (f a x)) : Hr R (zw r f):=by
 cases hr : r with
 | error e =>
   rw [then_err (r:=.error e) rfl]
   exact .err
 | ok p =>
   obtain ⟨a,x⟩:=p
   rw [zm (r:=.ok (a,x)) rfl]
   exact hf a x (h a x hr)
theorem Hr.mono {r : PR α} {Q' : α -> PS -> Prop} (h : Hr Q r) (hq : ∀ a x,Q a x -> Q' a x) : Hr Q' r:=fun v z e => hq v z (h v z e)
end
def GT (x : PS) : Prop:=∀ t ∈ x.ts,(t.k = 2 -> nameB ⟨t.s.toArray⟩ = true) /\ 1 <= t.k /\ t.k <= 5
theorem GT.nx {x : PS} (h : GT x) : GT (nxT x):=fun t ht => by
 unfold nxT at ht
 split at ht
 . exact h t ht
 . exact h t (List.mem_of_mem_drop ht)
theorem nx_vr (x : PS) : (nxT x).vr = x.vr:=by unfold nxT; split <;> rfl
theorem nx_nd2 (x : PS) : (nxT x).nd = x.nd:=by unfold nxT; split <;> rfl
theorem GT.hd {x : PS} (h : GT x) : ((hdT x).k = 2 -> nameB ⟨(hdT x).s.toArray⟩ = true) /\ 1 <= (hdT x).k /\ (hdT x).k <= 5:=by
 unfold hdT
 cases hx : x.ts with
 | nil => exact ⟨fun h => absurd h (by decide),by decide,by decide⟩
 | cons t r => exact h t (by rw [hx]; exact List.mem_cons_self ..)
structure Pv (x z : PS) : Prop where
 gt : GT z
 vr : z.vr = x.vr
theorem Pv.trans {x y z : PS} (h1 : Pv x y) (h2 : Pv y z) : Pv x z:=⟨h2.gt,h2.vr.trans h1.vr⟩
theorem GT.pv {x : PS} (h : GT x) : Pv x x:=⟨h,rfl⟩
theorem GT.pvn {x : PS} (h : GT x) : Pv x (nxT x):=⟨h.nx,nx_vr x⟩
theorem name_rt {x : PS} (h : GT x) : Hr (fun n z => nameB ⟨n.toArray⟩ = true /\ Pv x z /\ z.nd = x.nd) (nameQ x):=by
 unfold nameQ
 exact .ite (fun hk => .okk ⟨h.hd.1 hk,h.pvn,nx_nd2 x⟩) fun _ => .err
structure VOk (lv : Nat) (vr : Bool) (n0 : Nat) (v : D) (n1 : Nat) : Prop where
 sz : ∀ k,Dp k v -> sizeR k v + n0 = n1
 dp : ∀ k,Dp k v -> depthR k v + lv <= 25
 ev : ∀ k,Dp k v -> everyL k v = true
 br : vr = false -> ∀ k,Dp k v -> bareR k v = true
structure CH (lv : Nat) (vr : Bool) (n0 : Nat) (l : List D) (n1 : Nat) : Prop where
 sz : ∀ k,(∀ i,i < l.length -> Dp k (gD l i)) -> sumN (fun i => sizeR k (gD l i)) l.length + n0 = n1
 dp : ∀ i,i < l.length -> ∀ k,Dp k (gD l i) -> depthR k (gD l i) + lv <= 25
 ev : ∀ i,i < l.length -> ∀ k,Dp k (gD l i) -> everyL k (gD l i) = true
 br : vr = false -> ∀ i,i < l.length -> ∀ k,Dp k (gD l i) -> bareR k (gD l i) = true
theorem CH.nil {lv : Nat} {vr : Bool} {n : Nat} : CH lv vr n [] n:=
 ⟨fun k _ => by simp [sumN],fun i hi => absurd hi (Nat.not_lt_zero i),fun i hi => absurd hi (Nat.not_lt_zero i),fun _ i hi => absurd hi (Nat.not_lt_zero i)⟩
section
variable {val : PS -> PR D} {lv n0 : Nat} {vr : Bool} (hv : ∀ y,GT y -> y.vr = vr -> y.nd <= 4096 -> Hr (fun v z => Pv y z /\ VOk lv vr y.nd v z.nd /\ z.nd <= 4096) (val y))
include hv
end
def Al (p : D -> Bool) (l : List D) : Prop:=∀ i,i < l.length -> p (gD l i) = true
theorem Al.nil {p : D -> Bool} : Al p []:=fun i hi => absurd hi (Nat.not_lt_zero i)
theorem Hr.name {β : Type} {R : β -> PS -> Prop} {x : PS} {f : List UInt8 -> PS -> PR β} (h : GT x) (hf : ∀ n z,(hdT x).k = 2 -> nameB ⟨n.toArray⟩ = true -> Pv x z -> Hr R (f n z)) : Hr R (zw (nameQ x) f):=by
 by_cases hk : (hdT x).k = 2
 . exact .then (name_rt h) fun n z hz => hf n z hk hz.1 hz.2.1
 . unfold nameQ
   rw [if_neg hk]
   exact .err
end Go.Proofs.YtdlnnlglmifceaaGreatDoor
namespace Go.Proofs.YtdlnnlglmifceaaGreatDoor
abbrev KS:=List (Int × List UInt8)
theorem Ps.wrap {a b : UInt8} {t : List UInt8} {k : KS} (ha : zAy a = true) (hb : zAy b = true) (h : Pw t k) : Ps ([a] ++ t ++ [b]) ((1,[a]) :: (k ++ [(1,[b])])):=by
 have h1:=(Ps.sign ha).appw h
 have h2:=h1.app (Ps.sign hb) ⟨by simp,bnd_cons (zEt b hb).2.2⟩
 exact h2
structure NodeF (d : D) : Prop where
 int0 : (d.f 0).n = 1 \/ (d.f 0).n = 2 \/ (d.f 1).n = 0
 txt0 : (d.f 0).n = 3 \/ (d.f 0).n = 4 \/ (d.f 0).n = 7 \/ tx (d.f 2).s = []
 keys0 : (d.f 0).n = 6 \/ (d.f 4).l.length = 0
 items0 : (d.f 0).n = 6 \/ (d.f 0).n = 5 \/ (d.f 3).l.length = 0
 kind : 0 <= (d.f 0).n /\ (d.f 0).n <= 7
 bool : (d.f 0).n = 1 -> (d.f 1).n = 0 \/ (d.f 1).n = 1
 enum : (d.f 0).n = 4 -> enumR (d.f 2).s = true
 var : (d.f 0).n = 7 -> nameB (d.f 2).s = true
 obj : (d.f 0).n = 6 -> (∀ i,i < (d.f 4).l.length -> nameB (gD (d.f 4).l i).s = true) /\ (d.f 4).l.length = (d.f 3).l.length /\ (strsR d).Nodup
theorem any_noX {p : D -> Bool} {l : List D} (h : (l.any fun x => !p x) = false) : ∀ i,i < l.length -> p (gD l i) = true:=fun i hi => by
 rw [List.any_eq_false] at h
 have:=h _ (gD_mem hi)
 simpa using this
theorem xnode {d : D} (h : nodeL d = true) : NodeF d:=by
 unfold nodeL nodeK at h
 simp only [Bool.and_eq_true,Bool.or_eq_true,beq_iff_eq,decide_eq_true_eq,Bool.not_eq_true',beq_eq_false_iff_ne] at h
 obtain ⟨⟨⟨⟨⟨⟨⟨⟨h1,h2⟩,h3⟩,h4⟩,h5⟩,h6⟩,h7⟩,h8⟩,h9⟩:=h
 refine ⟨?_,?_,h3,?_,h5,?_,?_,?_,?_⟩
 . rcases h1 with (h | h) | h
   . exact .inl h
   . exact .inr (.inl h)
   . exact .inr (.inr h)
 . rcases h2 with ((h | h) | h) | h
   . exact .inl h
   . exact .inr (.inl h)
   . exact .inr (.inr (.inl h))
   . exact .inr (.inr (.inr h))
 . rcases h4 with (h | h) | h
   . exact .inl h
   . exact .inr (.inl h)
   . exact .inr (.inr h)
 . intro h
   rcases h6 with (h' | h') | h'
   . exact absurd h h'
   . exact .inl h'
   . exact .inr h'
 . intro h
   rcases h7 with h' | h'
   . exact absurd h h'
   . exact h'
 . intro h
   rcases h8 with h' | h'
   . exact absurd h h'
   . exact h'
 . intro h
   rcases h9 with h' | h'
   . exact absurd h h'
   . exact ⟨any_noX h'.1.1,h'.1.2,h'.2⟩
structure SelF (sub : List D -> Nat -> Prop) (d : D) : Prop where
 args : argsR (d.f 4).l = true
 dirs : dirsR (d.f 5).l = true
 field : (d.f 0).n = 1 -> tx (d.f 3).s = [] /\ nameB (d.f 2).s = true /\ (tx (d.f 1).s = [] \/ nameB (d.f 1).s = true) /\ sub (d.f 6).l 0
 spread : (d.f 0).n = 2 -> tx (d.f 3).s = [] /\ tx (d.f 1).s = [] /\ (d.f 4).l.length = 0 /\ (d.f 6).l.length = 0 /\ nameB (d.f 2).s = true /\ tx (d.f 2).s ≠ [111,110]
 inline : (d.f 0).n = 3 -> tx (d.f 1).s = [] /\ tx (d.f 2).s = [] /\ (d.f 4).l.length = 0 /\ (tx (d.f 3).s = [] \/ nameB (d.f 3).s = true) /\ sub (d.f 6).l 1
 kind : (d.f 0).n = 1 \/ (d.f 0).n = 2 \/ (d.f 0).n = 3
def SetF (sel : D -> Prop) (lv : Nat) (l : List D) (least : Nat) : Prop:=least <= l.length /\ l.length <= 64 /\ (l.length = 0 \/ lv <= 24) /\ ∀ i,i < l.length -> sel (gD l i)
section
variable (lit : D -> Bool)
def valY (v : D) : Bool:=lit v && bareR (bulkD v) v
end
structure ValP (v : D) : Prop where
 lit : litR v = true
 bare : bareR (bulkD v) v = true
structure ArgP (a : D) : Prop where
 name : nameB (a.f 0).s = true
 val : ValP (a.f 1)
structure DirP (x : D) : Prop where
 name : nameB (x.f 0).s = true
 len : (x.f 1).l.length <= 16
 args : ∀ i,i < (x.f 1).l.length -> ArgP (gD (x.f 1).l i)
structure DirsP (l : List D) : Prop where
 len : l.length <= 16
 dirs : ∀ i,i < l.length -> DirP (gD l i)
structure InP (x : D) : Prop where
 name : nameB (x.f 0).s = true
 rname : nameB ((x.f 1).f 0).s = true
 rlen : ((x.f 1).f 1).l.length <= 24
 wraps : zDX (((x.f 1).f 1).l.map D.n) = true
 dirs : DirsP (x.f 4).l
 val : ValP (x.f 3)
 has : (x.f 2).b = true \/ ((x.f 3).f 0).n = 0
structure InsP (l : List D) : Prop where
 len : l.length <= 16
 ins : ∀ i,i < l.length -> InP (gD l i)
structure FdP (x : D) : Prop where
 name : nameB (x.f 0).s = true
 args : InsP (x.f 1).l
 rname : nameB ((x.f 2).f 0).s = true
 rlen : ((x.f 2).f 1).l.length <= 24
 wraps : zDX (((x.f 2).f 1).l.map D.n) = true
 dirs : DirsP (x.f 3).l
structure MbP (u : Bool) (x : D) : Prop where
 name : nameB (x.f 0).s = true
 dirs : DirsP (x.f 1).l
 no : u = true -> (x.f 1).l.length = 0
structure DefP (d : D) : Prop where
 kind : 1 <= (d.f 0).n /\ (d.f 0).n <= 5
 name : nameB (d.f 1).s = true
 dirs : DirsP (d.f 3).l
 ilen : (d.f 2).l.length <= 64
 im : ∀ i,i < (d.f 2).l.length -> nameB (gD (d.f 2).l i).s = true
 im0 : (d.f 2).l.length = 0 \/ (d.f 0).n = 1
 f0 : ((d.f 0).n = 1 \/ (d.f 0).n = 2) ↔ 0 < (d.f 4).l.length
 m0 : ((d.f 0).n = 3 \/ (d.f 0).n = 4) ↔ 0 < (d.f 5).l.length
 i0 : (d.f 0).n = 5 ↔ 0 < (d.f 6).l.length
 flen : (d.f 4).l.length <= 64
 fds : ∀ i,i < (d.f 4).l.length -> FdP (gD (d.f 4).l i)
 mlen : (d.f 5).l.length <= 64
 mbs : ∀ i,i < (d.f 5).l.length -> MbP ((d.f 0).n == 3) (gD (d.f 5).l i)
 ins : InsP (d.f 6).l
end Go.Proofs.YtdlnnlglmifceaaGreatDoor
