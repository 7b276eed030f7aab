import Derived.Laws.IdiomCopy
import Derived.Lib.EndianMore
import Derived.Lib.Builder
import Derived.Test.YthjiclhfhjdjpaaGreatDoorQ36
set_option maxHeartbeats 8000000
set_option maxRecDepth 100000
set_option linter.unusedVariables false
set_option linter.unusedSimpArgs false
namespace Go.Proofs.YthjiclhfhjdjpaaGreatDoor
open Go.RowKit
attribute [local irreducible] wpList Calls Code.wp
def isStrB (P : Program) (t : TypeId) : Bool:=match P.underlying t with | some .string => true | _ => false
theorem isStrB_ok {P : Program} {t : TypeId} (h : isStrB P t = true) : P.underlying t = some .string:=by
 unfold isStrB at h
 split at h
 . assumption
 . cases h
def flatB (P : Program) (e : TypeId) : Option Nat:=
 match P.underlying e with
 | some (.struct fs) =>
   if fs.toList.all (fun f => P.cellsOf f.type == 1 && match P.underlying f.type with | some .bool => true | some (.int _) => true | some .string => true | _ => false) = true then
    (fs.toList.find? fun f => isStrB P f.type).map (·.offset)
   else none
 | _ => none
def rvV (P : Program) (k : Nat) (e : TypeId) (l : List D) : V -> V
 | .c v => .c v
 | .bx n o => .bx n o
 | .sl e' l' => if (flatB P e').isSome then .sl e' l' else .any
 | .own k' _ l' => if k' = k /\ l'.length = l.length then .own k e l.reverse else .any
 | _ => .any
def rvR (P : Program) (k : Nat) (e : TypeId) (l : List D) (m : Nat) : Res -> Option Res
 | .box t vs => some (.box t (vs.map (rvV P k e l)))
 | .tok e' n => if m = k then some (.tok e' n) else none
 | .bld _ _ _ => none
def Vst.rv {nn : Nat} (P : Program) (st : Vst nn) (k : Nat) (e : TypeId) (l : List D) : Vst nn:=⟨fun i => rvV P k e l (st.tm i),fun m => (st.rs m).bind (rvR P k e l m)⟩
section
variable {P : Program} {s : Sg} {w w' : World}
theorem find_mem {α : Type} {p : α -> Bool} {l : List α} {a : α} (h : l.find? p = some a) : ∃ j : Nat,l[j]? = some a /\ p a = true:=by
 have h1:=List.mem_of_find?_eq_some h
 obtain ⟨j,hj,rfl⟩:=List.getElem_of_mem h1
 exact ⟨j,List.getElem?_eq_getElem hj,List.find?_some h⟩
theorem flat_apart {k e : Nat} {q : Nat} {A : Option Addr} {l : List D} {F : Nat -> Nat -> Prop} {g : Nat} (h : SlF P w F k e A l) (hq : flatB P e = some q) (hg : ∀ o,F g o -> ∃ n,w.cell? ⟨g,o,none⟩ = some (.int .i64 n)) : SlF P w (fun b o => F b o /\ b ≠ g) k e A l:=fun hl hc => by
 obtain ⟨b,off,hA,hi⟩:=h hl hc
 unfold flatB at hq
 split at hq
 . rename_i fs hu
   split at hq
   . rename_i hall
     obtain ⟨f,hf,rfl⟩:=Option.map_eq_some_iff.1 hq
     obtain ⟨j,hj,hs⟩:=find_mem hf
     have hs:=isStrB_ok hs
     have hbg : b ≠ g:=by
      intro e1
      subst e1
      obtain ⟨ys,y1,y2,y3⟩:=hi 0 hl
      cases k with
      | zero => exact y3.elim
      | succ k =>
        unfold RepF at y3
        simp only [hu] at y3
        have h4:=y3.2 j f (by simpa using hj)
        cases k with
        | zero => exact h4.elim
        | succ k =>
          unfold RepF at h4
          simp only [hs] at h4
          have h5 : ys[f.offset]? = some (.string (((gD l 0).f j).s)):=by
           have h6 : ((ys.drop f.offset).take (P.cellsOf f.type))[0]? = some (.string (((gD l 0).f j).s)):=by rw [h4.1]; rfl
           rw [List.getElem?_take] at h6
           split at h6
           . rwa [List.getElem?_drop] at h6
           . cases h6
          obtain ⟨h7,h8⟩:=y2 _ _ h5
          obtain ⟨n,hn⟩:=hg _ h8
          rw [hn] at h7
          cases h7
     refine ⟨b,off,hA,fun i hil => ?_⟩
     obtain ⟨ys,y1,y2,y3⟩:=hi i hil
     refine ⟨ys,y1,fun j u hu => ⟨(y2 j u hu).1,(y2 j u hu).2,hbg⟩,?_⟩
     cases k with
     | zero => exact y3.elim
     | succ k =>
       unfold RepF at y3 |-
       simp only [hu] at y3 |-
       refine ⟨y3.1,fun j' f' hf' => ?_⟩
       have h4:=y3.2 j' f' hf'
       have hm : f' ∈ fs.toList:=List.mem_of_getElem? (by simpa using hf')
       have h5:=(List.all_eq_true.1 hall) f' hm
       cases k with
       | zero => exact h4.elim
       | succ k =>
         unfold RepF at h4 |-
         split at h4 <;> rename_i hu' <;> simp only [hu'] at h5 |- <;> first | exact h4 | (simp at h5; done) | trivial
   . cases hq
 . cases hq
end
section
variable {X : Cx} {nn : Nat} {st : Vst nn} {o : Oper} {ops : Array Oper} {rest : List Oper} {d : Option Tmp} {KK : Vst nn -> Prop}
theorem cells_int (k : Nat) (q : IntKind) {P : Program} {w : World} {F : Nat -> Nat -> Prop} {e : TypeId} {ys : List Value} {x : D} (hu : P.underlying e = some (.int q)) (h : RepF P w F k e ys x) : ys = [.int q x.n] /\ (Lit.int q x.n).wf = true:=by
 cases k with
 | zero => exact h.elim
 | succ k => unfold RepF at h; simp only [hu] at h; exact h
theorem gD_reverse {l : List D} {i : Nat} (h : i < l.length) : gD l.reverse i = gD l (l.length - 1 - i):=by
 rw [zAx (by simpa using h),zAx (by omega),List.getElem_reverse]
theorem zJI {P : Program} {s s' : Sg} {w w' : World} {f : V -> V} (h : ∀ v x,rel P s w v x -> rel P s' w' (f v) x) : ∀ (vs : List V) (us : List Value),relL P s w vs us -> relL P s' w' (vs.map f) us
 | [],[],_ => by simp [relL]
 | [],_ :: _,hh => by simp [relL] at hh
 | _ :: _,[],hh => by simp [relL] at hh
 | v :: vs,u :: us,hh => by
   rw [relL] at hh
   rw [List.map_cons,relL]
   exact ⟨h v u hh.1,zJI h vs us hh.2⟩
theorem rv_inv {k : Nat} {e : TypeId} {l : List D} {s s' : Sg} {w w' : World} {a : Act} {u : Value} (hX : ∀ b o,X.s0.F b o -> b < X.w0.heap.size /\ ¬ X.pas b) (hI : Inv X st s w a) (g : Nat -> Prop) (hg : ∀ b,g b -> s.tb k = some b)
 (hr : st.rs k = some (.tok e l.length)) (hu : u = (s.tk k).1) (hsame : ∀ b,¬ g b -> w'.heap[b]? = w.heap[b]?) (hfr : Frm g w w') (hgF : ∀ b o,g b -> s.F b o -> ∃ n,w.cell? ⟨b,o,none⟩ = some (.int .i64 n))
 (hbx : s'.bx = s.bx) (htb : s'.tb = s.tb) (htk : s'.tk = s.tk) (hF1 : ∀ b o,¬ g b -> (s'.F b o ↔ s.F b o)) (hF2 : ∀ b o,s'.F b o -> (w'.cell? ⟨b,o,none⟩).isSome) (htok : Holds X.P s' w' k (.tok e l.length)) (hsl : SlV X.P w' s'.F e l.reverse u) :
 Inv X (st.rv X.P k e l) s' w' a:=by
 have hgb : ∀ b,g b -> X.w0.heap.size <= b \/ X.pas b:=fun b hb => hI.mem.bs k _ b hr (hg b hb)
 have hkeep : Keeps (fun b o => s.F b o /\ ¬ g b) s'.F w w':=fun b o hb => ⟨World.cell?_of_block (w:=w) (hsame b hb.2),(hF1 b o hb.2).2 hb.1⟩
 have hone : ∀ b b',g b -> g b' -> b = b':=fun b b' h h' => by have:=(hg b h).symm.trans (hg b' h'); cases this; rfl
 have hrel : ∀ v x,rel X.P s w v x -> rel X.P s' w' (rvV X.P k e l v) x:=fun v x h => by
  cases v with
  | c y => simpa [rvV,rel] using h
  | bx n o => simp only [rvV]; rw [rel] at h |-; rw [hbx]; exact h
  | sl e' l' =>
    simp only [rvV]
    split
    . rename_i hf
      obtain ⟨q,hq⟩:=Option.isSome_iff_exists.1 hf
      rw [rel] at h |-
      obtain ⟨k',A,c,h1,h2,h3,h4,h5⟩:=h
      refine ⟨k',A,c,h1,h2,h3,h4,?_⟩
      by_cases hgx : ∃ b,g b
      . obtain ⟨b,hb⟩:=hgx
        have h6:=flat_apart h5 hq (g:=b) fun o ho => hgF b o hb ho
        exact h6.turn fun b' o' hb' => hkeep b' o' ⟨hb'.1,fun hc => hb'.2 (hone _ _ hc hb)⟩
      . exact h5.turn fun b' o' hb' => hkeep b' o' ⟨hb',fun hc => hgx ⟨_,hc⟩⟩
    . simp [rel]
  | own k' e' l' =>
    simp only [rvV]
    split
    . rename_i hc
      obtain ⟨rfl,hc⟩:=hc
      rw [rel] at h |-
      obtain ⟨h1,h2,h3⟩:=h
      have ht:=(hI.mem.ho k' _ hr).1
      have hx : x = u:=by rw [hu]; exact h3 (by omega)
      subst hx
      refine ⟨hsl,?_,?_⟩ <;> rw [htk,List.length_reverse]
      . omega
      . intro _; exact hu
    . simp [rel]
  | _ => simp [rvV,rel]
 have hget : ∀ m ρ',(st.rv X.P k e l).rs m = some ρ' -> ∃ ρ,st.rs m = some ρ /\ rvR X.P k e l m ρ = some ρ' /\ s'.bk m ρ' = s.bk m ρ:=fun m ρ' h => by
  obtain ⟨ρ,h1,h2⟩:=Option.bind_eq_some_iff.1 h
  refine ⟨ρ,h1,h2,?_⟩
  cases ρ with
  | box t vs => simp only [rvR,Option.some.injEq] at h2; subst h2; funext x; simp [Sg.bk,hbx]
  | tok e' n => simp only [rvR] at h2; split at h2 <;> cases h2; funext x; simp [Sg.bk,htb]
  | bld _ _ _ => simp [rvR] at h2
 refine ⟨hI.sz,fun i hi => hrel _ _ (hI.tm i hi),hI.df,hI.fr.trans hfr hgb,?_,?_,⟨hF2,?_,?_,?_⟩,?_⟩
 . intro b o hb
   have h1:=hX b o hb
   have hng : ¬ g b:=fun hgb' => (hgb b hgb').elim (fun h => by omega) h1.2
   have h2:=hI.kp b o hb
   exact ⟨(World.cell?_of_block (w:=w) (hsame b hng)).trans h2.1,(hF1 b o hng).2 h2.2⟩
 . intro b o hb hnp hF
   have hng : ¬ g b:=fun hgb' => (hgb b hgb').elim (fun h => by omega) hnp
   exact hI.nf b o hb hnp ((hF1 b o hng).1 hF)
 . intro m ρ' hm
   obtain ⟨ρ,h1,h2,-⟩:=hget m ρ' hm
   cases ρ with
   | box t vs =>
     simp only [rvR,Option.some.injEq] at h2
     subst h2
     obtain ⟨b,cs,q1,q2,q3,q4⟩:=hI.mem.ho m _ h1
     have hng : ¬ g b:=fun hgb' => by
      have:=hI.mem.dj m k _ _ b h1 hr q1 (hg b hgb')
      subst this
      rw [h1] at hr; cases hr
     exact ⟨b,cs,by rw [hbx]; exact q1,(hsame b hng).trans q2,zJI hrel _ _ q3,fun o ho => q4 o ((hF1 b o hng).1 ho)⟩
   | tok e' n =>
     simp only [rvR] at h2
     split at h2
     . rename_i hmk; subst hmk; cases h2; rw [h1] at hr; cases hr; exact htok
     . cases h2
   | bld _ _ _ => simp [rvR] at h2
 . intro m ρ' b hm hb
   obtain ⟨ρ,h1,-,h3⟩:=hget m ρ' hm
   exact hI.mem.bs m ρ b h1 (by rw [<- h3]; exact hb)
 . intro m m' ρ ρ' b hm hm' hb hb'
   obtain ⟨ρ1,h1,-,h3⟩:=hget m ρ hm
   obtain ⟨ρ2,h4,-,h5⟩:=hget m' ρ' hm'
   exact hI.mem.dj m m' ρ1 ρ2 b h1 h4 (by rw [<- h3]; exact hb) (by rw [<- h5]; exact hb')
 . intro i
   have:=hI.pe i
   rw [hbx,htk]; exact this
theorem opOk_rev {K : Vst nn -> Prop} {k : Nat} {e : TypeId} {l : List D} (hX : ∀ b o,X.s0.F b o -> b < X.w0.heap.size /\ ¬ X.pas b) (hP : X.P = Tryz.prog) (he : X.P.underlying e = some (.int .i64)) (hec : X.P.cellsOf e = 1) (h : act1 X.P st.rs (ev st) o.op = .call 313 [.own k e l])
 (hr : st.rs k = some (.tok e l.length)) (hl : l.length <= 1000000000) (hK : K ((st.rv X.P k e l).put o.dst (.tup []))) : OpOk X o st K:=by
 intro s w a hI N Q hPQ hN
 obtain ⟨us,h1,h2⟩:=zEM h hI.ev (fun _ => rfl)
 obtain ⟨u,rfl,h3⟩:=zF4 h2
 rw [rel] at h3
 obtain ⟨h4,h5,h6⟩:=h3
 obtain ⟨t1,t2⟩:=hI.mem.ho k _ hr
 have hu : u = (s.tk k).1:=h6 t1.symm
 unfold Oper.wp
 rw [h1,Oper.upon_enter]
 obtain ⟨k0,A,c,hua,q2,q3,q4,q5⟩:=h4
 rw [hP]
 have htup : ∀ s' w',rel X.P s' w' (.tup []) (.tuple #[]):=fun s' w' => by rw [rel]; exact ⟨#[],rfl,by simp [relL]⟩
 by_cases hl0 : l.length = 0
 . have hcall:=Tryz.slices_Reverse_int_empty A c w
   rw [hua,hl0]
   refine hcall.mono ?_
   rintro _ w' ⟨rfl,rfl⟩
   have hnil : l = []:=List.eq_nil_of_length_eq_zero hl0
   refine hN _ s w' _ ((rv_inv hX hI (fun _ => False) (fun _ h => h.elim) hr hu (fun _ _ => rfl) (Frm.refl _ _) (fun _ _ h => h.elim) rfl rfl rfl (fun _ _ _ => Iff.rfl) hI.mem.fx (hI.mem.ho k _ hr) ?_).put o.dst (htup _ _)) hK
   refine ⟨k0,A,c,?_,?_,q3,q4,fun h => ?_⟩
   . rw [hua,List.length_reverse]
   . rw [List.length_reverse]; exact q2
   . rw [List.length_reverse] at h; omega
 . rcases t2 with ⟨-,-,t3⟩ | ⟨g,c',cur,t3,t4,t5,t6,t7,t8,t9⟩
   . exact (hl0 t3).elim
   . rw [hu,t4] at hua
     injection hua with e1 e2 e3
     subst e3
     obtain ⟨b,off,e4,hat⟩:=q5 (by omega) (by rw [hec]; omega)
     rw [e4] at e1
     injection e1 with e1
     injection e1 with e5 e6
     subst e5 e6
     have hcell : ∀ i,i < l.length -> w.cell? ⟨g,i,none⟩ = some (.int .i64 (gD l i).n) /\ (Lit.int .i64 (gD l i).n).wf = true:=fun i hi => by
      obtain ⟨ys,y1,y2,y3⟩:=hat i hi
      obtain ⟨rfl,hw⟩:=cells_int _ _ he y3
      have:=(y2 0 _ rfl).1
      rw [hec] at this
      simp only [Nat.zero_add,Nat.mul_one,Nat.add_zero] at this
      exact ⟨this,hw⟩
     have hz : (l.map (·.n)).length = l.length:=List.length_map ..
     have hget : ∀ j,j < l.length -> (l.map (·.n)).getD j 0 = (gD l j).n:=fun j hj => by
      rw [List.getD_eq_getElem?_getD,List.getElem?_map,List.getElem?_eq_getElem hj,zAx hj]; rfl
     have hcall:=Tryz.slices_Reverse_int_cells g 0 l.length c' (l.map (·.n)) w (by rw [hz]; exact Nat.le_refl _) (by omega) (fun j hj => by rw [hz] at hj; rw [Nat.zero_add,hget j hj]; exact (hcell j hj).1) (fun j hj => Lib.frozen_of_heap t5 _)
     rw [hu,t4]
     refine hcall.mono ?_
     rintro _ w' ⟨rfl,q,rfl⟩
     have hvs : ((l.map (·.n)).take l.length).reverse.map (Value.int .i64) = l.reverse.map fun x => Value.int .i64 x.n:=by
      rw [List.take_of_length_le (by rw [hz]; exact Nat.le_refl _),<- List.map_reverse,List.map_map]; rfl
     rw [hvs]
     have hlen : (l.reverse.map fun x => Value.int .i64 x.n).length = l.length:=by simp
     have hoth : ∀ (vs : List Value) (o : Nat) (w : World) (k : Nat),k ≠ g -> (w.setCells g o vs).heap[k]? = w.heap[k]?:=fun vs => by
      induction vs with
      | nil => intro _ _ _ _; rfl
      | cons v r ih => intro o w k hk; rw [World.setCells,ih _ _ _ hk,heap_setCell_other _ _ _ _ hk]
     have hrow : ∀ (vs : List Value) (o : Nat) (w : World) (cur : Array Value),w.heap[g]? = some (.cells cur e (0,0)) -> ∃ cur',(w.setCells g o vs).heap[g]? = some (.cells cur' e (0,0)) /\ cur'.size = cur.size:=fun vs => by
      induction vs with
      | nil => intro _ _ cur h; exact ⟨cur,h,rfl⟩
      | cons v r ih =>
        intro o w cur h
        obtain ⟨cur',h1,h2⟩:=ih (o + 1) _ _ (heap_setCell_same w g o cur e v h)
        exact ⟨cur',h1,by rw [h2]; simp⟩
     have hrest : ∀ (vs : List Value) (o : Nat) (w : World),(w.setCells g o vs).os = w.os /\ (w.setCells g o vs).tape = w.tape /\ (w.setCells g o vs).output = w.output /\ (w.setCells g o vs).heap.size = w.heap.size:=fun vs => by
      induction vs with
      | nil => intro _ _; exact ⟨rfl,rfl,rfl,rfl⟩
      | cons v r ih =>
        intro o w
        obtain ⟨h1,h2,h3,h4⟩:=ih (o + 1) (w.setCell ⟨g,o,none⟩ v)
        exact ⟨h1,h2,h3,by rw [World.setCells,h4]; simp [World.setCell]⟩
     have t5' : (w.drewN q).heap[g]? = some (.cells cur e (0,0)):=t5
     obtain ⟨cur',r1,r2⟩:=hrow (l.reverse.map fun x => Value.int .i64 x.n) 0 (w.drewN q) cur t5'
     obtain ⟨z1,z2,z3,z4⟩:=hrest (l.reverse.map fun x => Value.int .i64 x.n) 0 (w.drewN q)
     have hin:=World.cell?_setCells_in g (l.reverse.map fun x => Value.int .i64 x.n) 0 (w.drewN q) (fun j hj => by
      rw [hlen] at hj
      have : (w.drewN q).cell? ⟨g,0 + j,none⟩ = w.cell? ⟨g,j,none⟩:=by rw [Nat.zero_add]; rfl
      rw [this,(hcell j hj).1]; rfl)
     have hin2 : ∀ i,i < l.length -> ((w.drewN q).setCells g 0 (l.reverse.map fun x => Value.int .i64 x.n)).cell? ⟨g,i,none⟩ = some (.int .i64 (gD l.reverse i).n):=fun i hi => by
      have:=hin i (by rw [hlen]; exact hi)
      rw [Nat.zero_add] at this
      rw [this,List.getElem_map,zAx (by simpa using hi)]
     have hother : ∀ b,¬ b = g -> ((w.drewN q).setCells g 0 (l.reverse.map fun x => Value.int .i64 x.n)).heap[b]? = w.heap[b]?:=fun b hb => hoth _ _ _ _ hb
     generalize (w.drewN q).setCells g 0 (l.reverse.map fun x => Value.int .i64 x.n) = w' at *
     have hF : ∀ b o,¬ b = g -> ((if b = g then o < l.length else s.F b o) ↔ s.F b o):=fun b o hb => by rw [if_neg hb]
     refine hN _ { s with F:=fun b o => if b = g then o < l.length else s.F b o } w' _ ((rv_inv (s':={ s with F:=fun b o => if b = g then o < l.length else s.F b o }) (w':=w') hX hI (fun b => b = g) (fun b hb => by rw [hb]; exact t3) hr hu hother ⟨z1,z2,z3,by rw [z4]; exact Nat.le_refl _,fun k _ hk => hother k hk⟩ ?_ rfl rfl rfl hF ?_ ?_ ?_).put o.dst (htup _ _)) hK
     . rintro b oo rfl hFo
       have hlt : oo < l.length:=by
        rcases Nat.lt_or_ge oo l.length with h | h
        . exact h
        . exact (t9 oo (by rw [hec]; omega) hFo).elim
       exact ⟨_,(hcell oo hlt).1⟩
     . intro b oo hb
       by_cases e7 : b = g
       . subst e7
         have hb : oo < l.length:=by simpa using hb
         rw [hin2 oo hb]; rfl
       . rw [World.cell?_of_block (w:=w) (hother b e7)]
         exact hI.mem.fx b oo ((hF b oo e7).1 hb)
     . refine ⟨t1,.inr ⟨g,c',cur',t3,t4,r1,t6,t7,by rw [r2]; exact t8,fun oo ho hb => ?_⟩⟩
       have hb : oo < l.length:=by simpa using hb
       rw [hec] at ho; omega
     . rw [hu,t4]
       refine ⟨1,some ⟨g,0,none⟩,c',by rw [List.length_reverse],by rw [List.length_reverse]; exact q2,q3,fun h => (by cases h),fun _ _ => ⟨g,0,rfl,fun i hi => ?_⟩⟩
       rw [List.length_reverse] at hi
       refine ⟨[.int .i64 (gD l.reverse i).n],by rw [hec]; rfl,fun j v hj => ?_,?_⟩
       . cases j with
         | zero =>
           simp only [List.getElem?_cons_zero,Option.some.injEq] at hj
           subst hj
           rw [hec]
           simp only [Nat.zero_add,Nat.mul_one,Nat.add_zero]
           exact ⟨hin2 i hi,by simpa using hi⟩
         | succ j => simp at hj
       . unfold RepF
         simp only [he]
         refine ⟨trivial,?_⟩
         rw [gD_reverse hi]
         exact (hcell _ (by omega)).2
theorem s_rev {k : Nat} {e : TypeId} {l : List D} (hX : ∀ b o,X.s0.F b o -> b < X.w0.heap.size /\ ¬ X.pas b) (hP : X.P = Tryz.prog) (he : X.P.underlying e = some (.int .i64)) (hec : X.P.cellsOf e = 1) (hg : o.guard = none) (hd : o.dst = d) (h : act1 X.P st.rs (ev st) o.op = .call 313 [.own k e l])
 (hr : st.rs k = some (.tok e l.length)) (hK : AWo X ops rest ((st.rv X.P k e l).put d (.tup [])) KK) (hl : l.length <= 1000000000) : AWo X ops (o :: rest) st KK:=
 zAD hg (opOk_rev hX hP he hec h hr hl (by rw [hd]; exact hK))
end
theorem ace_enter1 {e : Ge} {P : Program} {f : FuncId} {fn : Func} {c : Code} {args : List V} {tR : TypeId} {cs : List V} {out : Out} (nn : Nat) (hf : P.funcs[f]? = some fn) (hb : fn.body = some c) (hnn : args.length + (fn.ntmps - args.length) = nn)
 (h : ∀ pas s w he hp,(∀ b o,s.F b o -> b < w.heap.size /\ ¬ pas b) -> AW ⟨P,pas,s,w,e,he,hp,fun pv _ _ => out = .die pv,[]⟩ c (st0b nn args [.box tR cs]) (endKE P fn.results out)) : ACE e P f args [.box tR cs] out:=by
 have hI : ∀ (pas : Nat -> Prop) (s : Sg) (w : World) (us : Array Value) (he : e.E w) (hp : ∀ k,k < e.G -> ¬ pas k),relL P s w args us.toList -> MemOk P pas w.heap.size (rsOf [.box tR cs]) s w ->
  Inv ⟨P,pas,s,w,e,he,hp,fun pv _ _ => out = .die pv,[]⟩ (st0b nn args [.box tR cs]) s w { tmps:=us ++ Array.replicate (fn.ntmps - us.size) undef,defers:=[] }:=by
  intro pas s w us he hp hus hmem
  have hlen:=hus.length
  have hl2 : us.toList.length = us.size:=by simp
  refine ⟨by simp; omega,fun i hi => ?_,rfl,Frm.refl _ _,Keeps.refl,fun _ _ _ _ h => h,hmem,PE.refl _⟩
  show rel P s w (args.getD i .any) _
  by_cases hi2 : i < args.length
  . have h1 : args[i]? = some args[i]:=List.getElem?_eq_getElem hi2
    have hi3 : i < us.size:=by omega
    have h2 : us.toList[i]? = some us[i]:=by rw [Array.getElem?_toList]; exact Array.getElem?_eq_getElem hi3
    rw [List.getD_eq_getElem?_getD,h1]
    have : (us ++ Array.replicate (fn.ntmps - us.size) undef).getD i undef = us[i]:=by
     rw [Array.getD_eq_getD_getElem?,Array.getElem?_append_left hi3,Array.getElem?_eq_getElem hi3]; rfl
    rw [this]
    exact hus.get i _ _ h1 h2
  . rw [List.getD_eq_getElem?_getD,List.getElem?_eq_none (by omega)]
    simp [rel]
 -- only the box may turn
 have hnar : ∀ (pas : Nat -> Prop) (s : Sg) (w : World),MemOk P pas w.heap.size (rsOf [.box tR cs]) s w -> MemOk P (fun b => pas b /\ ∀ o,¬ s.F b o) w.heap.size (rsOf [.box tR cs]) s w:=fun pas s w hm => by
  refine ⟨hm.fx,hm.ho,fun n ρ b hn hb => ?_,hm.dj⟩
  refine (hm.bs n ρ b hn hb).imp id fun hp => ⟨hp,?_⟩
  obtain ⟨i,rfl,hi⟩:=zp hn
  cases i with
  | zero =>
    simp only [List.getElem?_cons_zero,Option.some.injEq] at hi
    subst hi
    obtain ⟨b',cs',h1,-,-,h4⟩:=hm.ho _ _ hn
    rw [show s.bx (pn 0) = some b from hb] at h1
    cases h1
    exact h4
  | succ i => simp at hi
 have hFX : ∀ (pas : Nat -> Prop) (s : Sg) (w : World),MemOk P pas w.heap.size (rsOf [.box tR cs]) s w -> ∀ b o,s.F b o -> b < w.heap.size /\ ¬ (pas b /\ ∀ o,¬ s.F b o):=fun pas s w hm b o hF => by
  obtain ⟨v,hv⟩:=Option.isSome_iff_exists.1 (hm.fx b o hF)
  exact ⟨block_lt_of_cell hv,fun hh => hh.2 o hF⟩
 have hwide : ∀ (pas : Nat -> Prop) (s : Sg) (w w' : World),Frm (fun b => pas b /\ ∀ o,¬ s.F b o) w w' -> Frm pas w w':=fun pas s w w' h => ⟨h.os,h.tape,h.output,h.size,fun k hk hp => h.block k hk fun hh => hp hh.1⟩
 cases out with
 | ret r bs' =>
   intro pas s w us hus hmem he hp
   have hmem':=hnar pas s w hmem
   have hp' : ∀ k,k < e.G -> ¬ (pas k /\ ∀ o,¬ s.F k o):=fun k hk hh => hp k hk hh.1
   refine calls_of_wp hf hb (Code.wp_mono (fun en a' w' ⟨st',s',hI',hK⟩ => ?_) (h _ s w he hp' (hFX pas s w hmem) s w _ (hI _ s w us he hp' hus hmem')))
   have fin : (∃ r' bs2,Out.ret r bs' = .ret r' bs2 /\ retV P st' fn.results.toList r' /\ zEl st' 0 bs2) -> a'.defers = [] /\ ∃ v,(results fn a'.tmps).run P w' = .ok v w' /\ ∃ v' s2,Ending.returned v = .returned v' /\ Frm pas w w' /\ Keeps s.F s2.F w w' /\ (∀ b o,b < w.heap.size -> ¬ pas b -> s2.F b o -> s.F b o) /\ MemOk P pas w.heap.size (rsOf bs') s2 w' /\ PE s s2 /\ rel P s2 w' r v':=fun ⟨r',bs2,e1,hv,hh⟩ => by
    cases e1
    obtain ⟨u,h1,h2⟩:=zEd (X:=⟨P,fun b => pas b /\ ∀ o,¬ s.F b o,s,w,e,he,hp',fun pv _ _ => Out.ret r bs' = .die pv,[]⟩) hv hI'
    have hm2 : MemOk P (fun b => pas b /\ ∀ o,¬ s.F b o) w.heap.size (rsOf bs') s' w':=hI'.mem.sub fun n ρ hn => by
     obtain ⟨i,rfl,hi⟩:=zp hn
     have:=zDT hh i ρ hi
     rwa [Nat.zero_add] at this
    refine ⟨hI'.df,u,h1,u,s',rfl,hwide _ _ _ _ hI'.fr,hI'.kp,fun b o hb' hnp hF => hI'.nf b o hb' (fun hh => hnp hh.1) hF,⟨hm2.fx,hm2.ho,fun n ρ b hn hb => (hm2.bs n ρ b hn hb).imp id fun hh => hh.1,hm2.dj⟩,hI'.pe,h2⟩
   rcases hK with hK | ⟨_,_,hK⟩
   . cases en
     case normal => exact fin hK
     case ret => exact fin hK
     all_goals exact hK.elim
   . cases hK
 | die pv =>
   intro pas s w us hus hmem he hp
   have hmem':=hnar pas s w hmem
   have hp' : ∀ k,k < e.G -> ¬ (pas k /\ ∀ o,¬ s.F k o):=fun k hk hh => hp k hk hh.1
   refine calls_of_wp hf hb (Code.wp_mono (fun en a' w' ⟨st',s',hI',hK⟩ => ?_) (h _ s w he hp' (hFX pas s w hmem) s w _ (hI _ s w us he hp' hus hmem')))
   rcases hK with hK | ⟨pv',rfl,hK⟩
   . cases en
     case normal => obtain ⟨_,_,e1,_⟩:=hK; cases e1
     case ret => obtain ⟨_,_,e1,_⟩:=hK; cases e1
     all_goals exact hK.elim
   . cases hK
     exact ⟨hI'.df,rfl,s'.F,hwide _ _ _ _ hI'.fr,hI'.kp,fun b o hb' hnp hF => hI'.nf b o hb' (fun hh => hnp hh.1) hF,hI'.mem.fx⟩
end Go.Proofs.YthjiclhfhjdjpaaGreatDoor
namespace Go.Proofs.YthjiclhfhjdjpaaGreatDoor
open Go.RowKit
attribute [local irreducible] wpList Calls Code.wp AW AWo OpOk seqK zx zAI loopK endK AC zm Yld Sub
attribute [local irreducible] ACB ACX ACE absLexG YldG
theorem zJn : zy Tryz.prog 32 = some (3,8):=by kernel_rfl
theorem zAg {x : PS} (h : En x) (s : List UInt8) : ACB EN5 Tryz.prog 99 [.bx (pn 0) 0,.c (.string (bs s))] [boxP x] (.c (.bool (isS x s))) [boxP x]:=by
 obtain ⟨t,r,ht⟩:=h.cons
 exact zI7 x t r ht s
theorem zA3 {x : PS} (h : En x) : ACB EN5 Tryz.prog 103 [.bx (pn 0) 0] [boxP x] (.agg (tokC (hdT x))) [boxP (nxT x)]:=by
 obtain ⟨t,r,ht⟩:=h.cons
 rw [zAe ht]
 exact zGC x t r ht
theorem zFE {x : PS} (h : En x) (s : List UInt8) : ACE EN5 Tryz.prog 177 [.bx (pn 0) 0,.c (.string (bs s))] [boxP x] (outQ (fun _ => .agg (tokC (hdT x))) (takeQ s x)):=by
 obtain ⟨t,r,ht⟩:=h.cons
 rw [zAe ht]
 exact take_ace x t r ht s
theorem zCP {x : PS} (h : En x) : ACE EN5 Tryz.prog 179 [.bx (pn 0) 0] [boxP x] (outQ (fun n => .c (.string (bs n))) (nameQ x)):=by
 obtain ⟨t,r,ht⟩:=h.cons
 exact name_ace x t r ht
theorem zDp {x : PS} (h : En x) (n most : Nat) : ACE EN5 Tryz.prog 101 [.bx (pn 0) 0,.c (.int .i64 n),.c (.int .i64 most)] [boxP x] (outQ (fun _ => .tup []) (limQ n most x)):=by
 obtain ⟨t,r,ht⟩:=h.cons
 exact limit_ace x t r ht n most
noncomputable def HiO (y : PS) (n : Nat) : Vst 38:=
 stS 38 [(0,.bx (pn 0) 0),(2,.bx 2 0),(3,.bx 3 0),(4,.c (.int .i64 (n : Int)))] [(pn 0,boxP y),(2,.box 71 [.c (.string ⟨#[]⟩),.c (.slice none 0 0)]),(3,.box 71 [.c (.string ⟨#[]⟩),.c (.slice none 0 0)])]
noncomputable def HiC (y : PS) (nm : List UInt8) (n : Nat) (w : List Int) : Vst 38:=
 stS 38 [(0,.bx (pn 0) 0),(2,.bx 2 0),(3,.bx 3 0),(4,.c (.int .i64 (n : Int)))] [(pn 0,boxP y),(2,.box 71 [.c (.string ⟨#[]⟩),.c (.slice none 0 0)]),(3,.box 71 [.c (.string (bs nm)),.own 900 3 ((w.map D.int).reverse)]),(900,.tok 3 ((w.map D.int).reverse).length)]
noncomputable def HiE (y : PS) (nm : List UInt8) (w : List Int) : Vst 38:=
 stS 38 [(0,.bx (pn 0) 0),(2,.bx 2 0),(3,.bx 3 0)] [(pn 0,boxP y),(2,.box 71 [.c (.string ⟨#[]⟩),.c (.slice none 0 0)]),(3,.box 71 [.c (.string (bs nm)),.own 900 3 (w.map D.int)])]
theorem flat_tok : (flatB Tryz.prog 143).isSome = true:=by kernel_rfl
theorem inner_ace (x : PS) (h : En x) (hlen : x.ts.length <= 100000) : ACE EN5 Tryz.prog 256 [.bx (pn 0) 0] [boxP x] (outQ (fun t => .agg [.c (.string (bs t.1)),.sl 3 (t.2.map D.int)]) (innerQ x)):=by
 refine ace_enter1 (fn:=Tryz.f256) 38 Tryz.func256 rfl rfl ?_
 intro pas w0 w he hp hX
 have hs:=zAg h [91]
 repeat' (first
|refine zA ?_
|refine zB ?_
|refine zK ?_
|apply aw_1
 conv => whnf
 refine ⟨?_,trivial⟩
|apply s_1
 conv => whnf; arg 1; arg 4; arg 3; whnf
 refine ⟨?_,?_⟩
|exact trivial)
 refine zV (fun j st => ∃ y n,En y /\ y.ts.length <= j /\ n + y.ts.length <= x.ts.length /\ openQ x.ts.length x = ((openQ j y).1 + n,(openQ j y).2) /\ Sub (cxE EN5 Tryz.prog pas w0 w he hp (outQ (fun t => V.agg [.c (.string (bs t.1)),.sl 3 (t.2.map D.int)]) (innerQ x))) st (HiO y n)) x.ts.length ⟨x,0,h,Nat.le_refl _,by omega,rfl,?_⟩ ?_
 . exact Sub.live ⟨rfl,rfl,rfl,rfl,trivial⟩ ⟨rfl,rfl,rfl,trivial⟩
 rintro j st ⟨y,n,hy,hyj,hyl,hO,hsub⟩
 refine zW hsub ?_
 have hs:=zAg hy [91]
 have hn:=zA3 hy
 have hnm:=zCP hy
 clear hsub
 obtain ⟨t0,r0,ht0⟩:=hy.cons
 cases j with
 | zero => rw [ht0] at hyj; simp at hyj
 | succ j =>
 repeat' (first
|apply s_m zh zN rfl
 . conv => lhs; whnf
 . conv => lhs; whnf
 . rfl
 . conv => lhs; whnf; arg 1; whnf
 . first | exact zv _
 . first | exact hs | exact hn
 . exact fun _ => rfl
 . exact fun _ => rfl
|apply s_pr zh zN rfl
 . conv => lhs; whnf
 . conv => lhs; whnf
 . rfl
 . conv => lhs; whnf; arg 1; whnf
 . first | exact zv _
 . first | exact hnm
 . exact fun _ => rfl
 . first | (intro _ _; simp only [renL,renV,ren_cells]; done) | exact fun _ _ => rfl
 refine fun ee hq => ?_
 change _ = Out.die _
 rotate_left 1
 refine fun aa xx hq => ?_
 first | (replace hq:=zAZ hq; obtain ⟨hq,rfl⟩:=hq) | (cases hq; have hq:=True.intro) | skip
|refine zA ?_
|refine zB ?_
|refine zK ?_
|refine zb ?_
|apply aw_1
 conv => whnf
 refine ⟨?_,trivial⟩
|apply s_1
 conv => whnf; arg 1; arg 4; arg 3; whnf
 refine ⟨?_,?_⟩
|apply zY rfl rfl rfl
 . conv => lhs; whnf
 . conv => lhs; whnf; arg 1; whnf
 . conv => lhs; whnf; arg 1; whnf
 . exact ⟨by kernel_rfl,by kernel_rfl⟩
 . rfl
|refine zP (by conv => lhs; whnf) ?_ ?_ <;> intro hb
|refine zI ?_
|refine zE rfl ?_
|refine zF ?_
|exact trivial)
 . have hsg:=hy.sg hb
   refine zH (j':=j) (by omega) ⟨nxT y,n + 1,hsg.1,by omega,by omega,?_,Sub.live ⟨rfl,rfl,rfl,rfl,trivial⟩ ⟨rfl,rfl,rfl,trivial⟩⟩
   rw [hO,openQ,if_pos hb]
   show ((openQ j (nxT y)).1 + 1 + n,_) = ((openQ j (nxT y)).1 + (n + 1),_)
   rw [Nat.add_assoc,Nat.add_comm 1 n]
 . exact zT (by omega)
 . have hO2 : openQ x.ts.length x = (n,y):=by rw [hO,openQ,if_neg (by rw [hb]; decide)]; simp
   have hI : innerQ x = thenQ (closeQ n [] xx) fun w z => .ok ((aa,w),z):=by
    unfold innerQ
    rw [hO2]
    show thenQ (nameQ y) _ = _
    rw [hq]; rfl
   have hxx:=hy.name hq
   clear hs hn hnm hO hO2
   refine zW (Sub.ownF (m:=3) (q:=900) (i:=1) (e:=3) rfl (by decide) rfl rfl rfl) ?_
   refine zV (fun j st => ∃ z w',En z /\ w'.length + 2 * j <= 2 * n /\ innerQ x = thenQ (closeQ j w' z) (fun w u => .ok ((aa,w),u)) /\ Sub (cxE EN5 Tryz.prog pas w0 w he hp (outQ (fun t => V.agg [.c (.string (bs t.1)),.sl 3 (t.2.map D.int)]) (innerQ x))) st (HiC z aa j w')) n ⟨xx,[],hxx.1,by simp,hI,?_⟩ ?_
   . exact Sub.live ⟨rfl,rfl,rfl,rfl,trivial⟩ ⟨rfl,rfl,rfl,rfl,trivial⟩
   rintro j st ⟨z,w',hz,hwl,hI2,hsub⟩
   refine zW hsub ?_
   clear hsub hI
   have hs:=zAg hz [33]
   have hn:=zA3 hz
   obtain ⟨z2,hz2⟩ : ∃ z2,z2 = if isS z [33] = true then nxT z else z:=⟨_,rfl⟩
   obtain ⟨w2,hw2⟩ : ∃ w2,w2 = if isS z [33] = true then 1 :: w' else w':=⟨_,rfl⟩
   have hen2 : En z2:=by rw [hz2]; split <;> first | exact hz.nx0 | exact hz
   have hwl2 : w2.length <= w'.length + 1:=by rw [hw2]; split <;> simp
   have ht2:=zFE hen2 [93]
   repeat' (first
|apply s_m zh zN rfl
 . conv => lhs; whnf
 . conv => lhs; whnf
 . rfl
 . conv => lhs; whnf; arg 1; whnf
 . first | exact zv _
 . first | exact hs | exact hn
 . exact fun _ => rfl
 . exact fun _ => rfl
|apply s_pr zh zN rfl
 . conv => lhs; whnf
 . conv => lhs; whnf
 . rfl
 . conv => lhs; whnf; arg 1; whnf
 . first | exact zv _
 . first | exact ht2
 . exact fun _ => rfl
 . first | (intro _ _; simp only [renL,renV,ren_cells]; done) | exact fun _ _ => rfl
 refine fun ee hq => ?_
 change _ = Out.die _
 rotate_left 1
 refine fun aa xx hq => ?_
 first | (replace hq:=zAZ hq; obtain ⟨hq,rfl⟩:=hq) | (cases hq; have hq:=True.intro) | skip
|apply zBA 10 (HiC z2 aa j w2) rfl
|refine zHN ?_
|refine zA ?_
|refine zB ?_
|refine zK ?_
|refine zb ?_
|apply aw_1
 conv => whnf
 refine ⟨?_,trivial⟩
|apply s_1
 conv => whnf; arg 1; arg 4; arg 3; whnf
 refine ⟨?_,?_⟩
|apply zY rfl rfl rfl
 . conv => lhs; whnf
 . conv => lhs; whnf; arg 1; whnf
 . conv => lhs; whnf; arg 1; whnf
 . exact ⟨by kernel_rfl,by kernel_rfl⟩
 . rfl
|apply zDk rfl rfl
 . conv => lhs; whnf
 . first | exact zJn | (conv => lhs; whnf; arg 1; whnf)
 . first | exact fun _ => rfl | (intro _; kernel_rfl)
 . conv => lhs; whnf
 . conv => lhs; whnf; arg 1; whnf
 . conv => lhs; whnf
|apply zFL rfl rfl
 . conv => lhs; whnf
 . first | exact zJn | (conv => lhs; whnf; arg 1; whnf)
 . conv => lhs; whnf; arg 1; whnf
 . rfl
 . rfl
|refine zP (by conv => lhs; whnf) ?_ ?_ <;> intro hb
|exact trivial)
   . rw [hz2,hw2,if_pos hb,if_pos hb]
     refine Sub.live ⟨rfl,rfl,rfl,rfl,trivial⟩ ⟨rfl,rfl,?_,?_,trivial⟩
     . show some (Res.box _ [_,V.own 900 _ ((w'.map D.int).reverse ++ [D.int 1])]) = some (Res.box _ [_,V.own 900 _ (((1 :: w').map D.int).reverse)])
       rw [List.map_cons,List.reverse_cons]
     . show some (Res.tok _ ((w'.map D.int).reverse.length + 1)) = some (Res.tok _ (((1 :: w').map D.int).reverse).length)
       rw [List.map_cons,List.reverse_cons,List.length_append]; rfl
   . refine ⟨by simp,?_,?_⟩ <;> simp only [List.length_reverse,List.length_map,List.length_cons,List.length_nil,maxLen] <;> omega
   . have hb' : ¬ isS z [33] = true:=by rw [hb]; decide
     rw [hz2,hw2,if_neg hb',if_neg hb']
     exact Sub.live ⟨rfl,rfl,rfl,rfl,trivial⟩ ⟨rfl,rfl,rfl,rfl,trivial⟩
   . have hj : j = 0:=by simpa using hb
     subst hj
     have c0 : closeQ 0 w' z = .ok (w2,z2):=by unfold closeQ; rw [hz2,hw2]; split <;> rfl
     rw [c0] at hI2
     have hI3 : innerQ x = .ok ((aa,w2),z2):=hI2
     rw [hI3]
     refine s_rev (k:=900) (e:=3) (l:=(w2.map D.int).reverse) hX rfl (by kernel_rfl) (by kernel_rfl) rfl rfl rfl rfl ?_ (by simp; omega)
     refine awo_sub (st':=HiE z2 aa w2) (Sub.live ⟨rfl,rfl,rfl,trivial⟩ ⟨?_,rfl,?_,trivial⟩) ?_
     . show some (Res.box _ [if (flatB Tryz.prog 143).isSome then V.sl 143 (z2.ts.map tokD) else V.any,V.c (.bool z2.vr),V.c (.int .i64 (z2.nd : Int))]) = _
       rw [if_pos flat_tok]; rfl
     . show some (Res.box _ [V.c (.string (bs aa)),if 900 = 900 /\ ((w2.map D.int).reverse).length = ((w2.map D.int).reverse).length then V.own 900 _ ((w2.map D.int).reverse).reverse else V.any]) = _
       rw [if_pos ⟨rfl,rfl⟩,List.reverse_reverse]
     repeat' (first
|refine zA ?_
|refine zB ?_
|refine zK ?_
|apply aw_1
 conv => whnf
 refine ⟨?_,trivial⟩
|apply s_1
 conv => whnf; arg 1; arg 4; arg 3; whnf
 refine ⟨?_,?_⟩
|apply zY rfl rfl rfl
 . conv => lhs; whnf
 . conv => lhs; whnf; arg 1; whnf
 . conv => lhs; whnf; arg 1; whnf
 . exact ⟨by kernel_rfl,by kernel_rfl⟩
 . rfl
|refine zM ?_
|refine zO ?_
|refine zl ?_
|apply zAK rfl
 . conv => lhs; whnf; arg 2; whnf
 . conv => lhs; whnf; arg 1; whnf
|exact trivial)
     rfl
   . have hj : j ≠ 0:=by rintro rfl; simp at hb
     have c1 : closeQ j w' z = closeQ (j - 1) (2 :: w2) xx:=by
      obtain ⟨j',rfl⟩ : ∃ j',j = j' + 1:=⟨j - 1,by omega⟩
      rw [closeQ,<- hz2,<- hw2]
      show thenQ (takeQ [93] z2) _ = _
      rw [hq]; rfl
     refine zH (j':=j - 1) (by omega) ⟨xx,2 :: w2,(hen2.take hq).1,by simp only [List.length_cons]; omega,by rw [hI2,c1],Sub.live ⟨rfl,rfl,rfl,?_,trivial⟩ ⟨rfl,rfl,?_,?_,trivial⟩⟩
     . show V.c (.int .i64 ((j : Int) - 1)) = V.c (.int .i64 ((j - 1 : Nat) : Int))
       rw [show ((j - 1 : Nat) : Int) = (j : Int) - 1 by omega]
     . show some (Res.box _ [_,V.own 900 _ ((w2.map D.int).reverse ++ [D.int 2])]) = some (Res.box _ [_,V.own 900 _ (((2 :: w2).map D.int).reverse)])
       rw [List.map_cons,List.reverse_cons]
     . show some (Res.tok _ ((w2.map D.int).reverse.length + 1)) = some (Res.tok _ (((2 :: w2).map D.int).reverse).length)
       rw [List.map_cons,List.reverse_cons,List.length_append]; rfl
   . exact zT (by omega)
   . refine ⟨by simp,?_,?_⟩ <;> simp only [List.length_reverse,List.length_map,List.length_cons,List.length_nil,maxLen] <;> omega
   . have hj : j ≠ 0:=by rintro rfl; simp at hb
     have c1 : closeQ j w' z = .error ee:=by
      obtain ⟨j',rfl⟩ : ∃ j',j = j' + 1:=⟨j - 1,by omega⟩
      rw [closeQ,<- hz2,<- hw2]
      show thenQ (takeQ [93] z2) _ = _
      rw [hq]; rfl
     rw [hI2,c1]; rfl
 . have hO2 : openQ x.ts.length x = (n,y):=by rw [hO,openQ,if_neg (by rw [hb]; decide)]; simp
   have hI : innerQ x = .error ee:=by
    unfold innerQ
    rw [hO2]
    show thenQ (nameQ y) _ = _
    rw [hq]; rfl
   rw [hI]; rfl
theorem typ_ace (x : PS) (h : En x) (hlen : x.ts.length <= 100000) : ACE EN5 Tryz.prog 180 [.bx (pn 0) 0] [boxP x] (outQ (fun d => .agg (cellsV Tryz.prog 12 71 d)) (typQ x)):=by
 have hi:=inner_ace x h hlen
 obtain ⟨t,r,ht⟩:=h.cons
 have hf:=zAz t 5
 have hh:=zAe ht
 obtain ⟨ts,vr,nd⟩:=x
 cases ht
 refine zAF (fn:=Tryz.f180) 20 Tryz.func180 rfl rfl ?_
 intro pas w0 w he hp
 repeat' (first
|apply s_pr zh zN rfl
 . conv => lhs; whnf
 . conv => lhs; whnf
 . rfl
 . conv => lhs; whnf; arg 1; whnf
 . first | exact zv _
 . first | exact hi
 . exact fun _ => rfl
 . first | (intro _ _; simp only [renL,renV,ren_cells]; done) | exact fun _ _ => rfl
 refine fun ee hq => ?_
 change _ = Out.die _
 rotate_left 1
 refine fun aa xx hq => ?_
 first | (replace hq:=zAZ hq; obtain ⟨hq,rfl⟩:=hq) | (cases hq; have hq:=True.intro) | skip
|apply zCM rfl
 . conv => lhs; whnf
 . first | exact hf
 . first | exact fun _ => rfl | (intro _; simp only [renL,renV,ren_cells])
 change _ = Out.die _
|refine zA ?_
|refine zB ?_
|refine zK ?_
|apply aw_1
 conv => whnf
 refine ⟨?_,trivial⟩
|apply s_1
 conv => whnf; arg 1; arg 4; arg 3; whnf
 refine ⟨?_,?_⟩
|apply zY rfl rfl rfl
 . conv => lhs; whnf
 . conv => lhs; whnf; arg 1; whnf
 . conv => lhs; whnf; arg 1; whnf
 . exact ⟨by kernel_rfl,by kernel_rfl⟩
 . rfl
|refine zP (by conv => lhs; whnf) ?_ ?_ <;> intro hb
|apply zAK rfl
 . conv => lhs; whnf; arg 2; whnf
 . conv => lhs; whnf; arg 1; whnf
|exact trivial)
 . have hb : 24 < aa.2.length:=by simp at hb; omega
   unfold typQ thenQ
   rw [hq,hh]
   dsimp only
   rw [if_pos hb]; rfl
 . have hb : ¬ 24 < aa.2.length:=by simp at hb; omega
   unfold typQ thenQ
   rw [hq]
   dsimp only
   rw [if_neg hb]; rfl
 . unfold typQ thenQ
   rw [hq]; rfl
 . exact zBT _ _
theorem zDi {s : List UInt8} {a : Array UInt8} (h : ((bs s).toList == (⟨a⟩ : ByteArray).toList) = true) : s = a.toList:=by
 rw [Lib.toList_data,Lib.toList_data,zAi] at h
 simpa using h
theorem zBI {s : List UInt8} {a : Array UInt8} (h : ((bs s).toList == (⟨a⟩ : ByteArray).toList) = false) : s ≠ a.toList:=by
 rw [Lib.toList_data,Lib.toList_data,zAi] at h
 simpa using h
noncomputable def VV (d : D) : V:=.agg (cellsV Tryz.prog 12 84 d)
theorem vInt_ac (n : Int) : AC EN5 Tryz.prog 248 [.c (.int .i64 n)] (VV (valD 2 n [] [] [])):=by
 refine zG 5 Tryz.func248 rfl rfl rfl rfl ?_
 intro s w he
 repeat' (first
|apply zAW (VV (valD 2 n [] [] [])) rfl rfl
 . conv => lhs; whnf; arg 2; whnf
 . repeat' (first | exact VLe.refl _ | exact VLe.nil _ | exact VLe.lit _ _ | exact VLe.own _ _ _ | apply VLe.agg | apply VLeL.cons | exact VLeL.nil)
|refine zA ?_
|refine zB ?_
|refine zK ?_
|apply aw_1
 conv => whnf
 refine ⟨?_,trivial⟩
|apply s_1
 conv => whnf; arg 1; arg 4; arg 3; whnf
 refine ⟨?_,?_⟩
|apply zY rfl rfl rfl
 . conv => lhs; whnf
 . conv => lhs; whnf; arg 1; whnf
 . conv => lhs; whnf; arg 1; whnf
 . exact ⟨by kernel_rfl,by kernel_rfl⟩
 . rfl
|refine zC ?_
|refine ⟨_,by conv => lhs; whnf; arg 2; whnf,?_⟩; conv => rhs; whnf
|exact trivial)
 rfl
theorem vText_ac (t : List UInt8) : AC EN5 Tryz.prog 170 [.c (.string (bs t))] (VV (valD 3 0 t [] [])):=by
 refine zG 5 Tryz.func170 rfl rfl rfl rfl ?_
 intro s w he
 repeat' (first
|apply zAW (VV (valD 3 0 t [] [])) rfl rfl
 . conv => lhs; whnf; arg 2; whnf
 . repeat' (first | exact VLe.refl _ | exact VLe.nil _ | exact VLe.lit _ _ | exact VLe.own _ _ _ | apply VLe.agg | apply VLeL.cons | exact VLeL.nil)
|refine zA ?_
|refine zB ?_
|refine zK ?_
|apply aw_1
 conv => whnf
 refine ⟨?_,trivial⟩
|apply s_1
 conv => whnf; arg 1; arg 4; arg 3; whnf
 refine ⟨?_,?_⟩
|apply zY rfl rfl rfl
 . conv => lhs; whnf
 . conv => lhs; whnf; arg 1; whnf
 . conv => lhs; whnf; arg 1; whnf
 . exact ⟨by kernel_rfl,by kernel_rfl⟩
 . rfl
|refine zC ?_
|refine ⟨_,by conv => lhs; whnf; arg 2; whnf,?_⟩; conv => rhs; whnf
|exact trivial)
 rfl
theorem vEnum_ac (t : List UInt8) : AC EN5 Tryz.prog 314 [.c (.string (bs t))] (VV (valD 4 0 t [] [])):=by
 refine zG 5 Tryz.func314 rfl rfl rfl rfl ?_
 intro s w he
 repeat' (first
|apply zAW (VV (valD 4 0 t [] [])) rfl rfl
 . conv => lhs; whnf; arg 2; whnf
 . repeat' (first | exact VLe.refl _ | exact VLe.nil _ | exact VLe.lit _ _ | exact VLe.own _ _ _ | apply VLe.agg | apply VLeL.cons | exact VLeL.nil)
|refine zA ?_
|refine zB ?_
|refine zK ?_
|apply aw_1
 conv => whnf
 refine ⟨?_,trivial⟩
|apply s_1
 conv => whnf; arg 1; arg 4; arg 3; whnf
 refine ⟨?_,?_⟩
|apply zY rfl rfl rfl
 . conv => lhs; whnf
 . conv => lhs; whnf; arg 1; whnf
 . conv => lhs; whnf; arg 1; whnf
 . exact ⟨by kernel_rfl,by kernel_rfl⟩
 . rfl
|refine zC ?_
|refine ⟨_,by conv => lhs; whnf; arg 2; whnf,?_⟩; conv => rhs; whnf
|exact trivial)
 rfl
theorem vBool_ac (b : Bool) : AC EN5 Tryz.prog 89 [.c (.bool b)] (VV (valD 1 (if b = true then 1 else 0) [] [] [])):=by
 refine zG 8 Tryz.func89 rfl rfl rfl rfl ?_
 intro s w he
 repeat' (first
|apply zAW (VV (valD 1 0 [] [] [])) rfl rfl
 . conv => lhs; whnf; arg 2; whnf
 . repeat' (first | exact VLe.refl _ | exact VLe.nil _ | exact VLe.lit _ _ | exact VLe.own _ _ _ | apply VLe.agg | apply VLeL.cons | exact VLeL.nil)
|refine zA ?_
|refine zB ?_
|refine zK ?_
|apply aw_1
 conv => whnf
 refine ⟨?_,trivial⟩
|apply s_1
 conv => whnf; arg 1; arg 4; arg 3; whnf
 refine ⟨?_,?_⟩
|apply zY rfl rfl rfl
 . conv => lhs; whnf
 . conv => lhs; whnf; arg 1; whnf
 . conv => lhs; whnf; arg 1; whnf
 . exact ⟨by kernel_rfl,by kernel_rfl⟩
 . rfl
|refine zP (by conv => lhs; whnf) ?_ ?_ <;> intro hb
|refine zC ?_
|refine ⟨_,by conv => lhs; whnf; arg 2; whnf,?_⟩; conv => rhs; whnf
|exact trivial)
 . rw [if_pos hb]; rfl
 . rw [if_neg (by rw [hb]; decide)]; rfl
def eqS (k : ByteArray) (d : D) : Bool:=k.toList == d.s.toList
def idxL (l : List D) (k : ByteArray) : Int:=match l.findIdx? (eqS k) with | some i => (i : Int) | none => -1
def hasL (l : List D) (k : ByteArray) : Bool:=l.any (eqS k)
theorem idxL_at {l : List D} {k : ByteArray} {i : Nat} (hi : i < l.length) (h : ∀ m,m < i -> eqS k (gD l m) = false) (he : eqS k (gD l i) = true) : idxL l k = i:=by
 unfold idxL
 have : l.findIdx? (eqS k) = some i:=by
  rw [List.findIdx?_eq_some_iff_getElem]
  refine ⟨hi,by rw [<- zAx hi]; exact he,fun j hj => ?_⟩
  have hj2 : j < l.length:=by omega
  have:=h j hj
  rw [zAx hj2] at this
  simp [this]
 rw [this]
theorem idxL_no {l : List D} {k : ByteArray} (h : ∀ m,m < l.length -> eqS k (gD l m) = false) : idxL l k = -1:=by
 unfold idxL
 have : l.findIdx? (eqS k) = none:=by
  rw [List.findIdx?_eq_none_iff]
  intro x hx
  obtain ⟨i,hi,rfl⟩:=List.getElem_of_mem hx
  rw [<- zAx hi]; exact h i hi
 rw [this]
theorem idxL_has (l : List D) (k : ByteArray) : decide (idxL l k >= 0) = hasL l k:=by
 unfold idxL hasL
 cases hx : l.findIdx? (eqS k) with
 | none =>
   rw [List.findIdx?_eq_none_iff] at hx
   have : l.any (eqS k) = false:=by rw [List.any_eq_false]; exact fun x hm => by rw [hx x hm]; decide
   rw [this]; rfl
 | some i =>
   rw [List.findIdx?_eq_some_iff_getElem] at hx
   obtain ⟨h1,h2,-⟩:=hx
   have : l.any (eqS k) = true:=List.any_eq_true.2 ⟨_,List.getElem_mem h1,h2⟩
   rw [this]
   exact decide_eq_true (Int.natCast_nonneg i)
noncomputable def HiS (l : List D) (k : ByteArray) (i : Nat) : Vst 19:=
 stS 19 [(0,.sl 9 l),(1,.c (.string k)),(7,.c (.int .i64 l.length)),(8,.c (.int .i64 i))] []
theorem indexS_ac (l : List D) (k : ByteArray) (hn : l.length <= 1000000000) : AC EN5 Tryz.prog 267 [.sl 9 l,.c (.string k)] (.c (.int .i64 (idxL l k))):=by
 refine zG 19 Tryz.func267 rfl rfl rfl rfl ?_
 intro s w he
 repeat' (first
|refine zA ?_
|refine zB ?_
|refine zK ?_
|apply aw_1
 conv => whnf
 refine ⟨?_,trivial⟩
|apply s_1
 conv => whnf; arg 1; arg 4; arg 3; whnf
 refine ⟨?_,?_⟩
|exact trivial)
 refine zV (fun j st => ∃ i,i + j = l.length /\ (∀ m,m < i -> eqS k (gD l m) = false) /\ Sub (cx EN5 Tryz.prog s w he) st (HiS l k i)) l.length ⟨0,by omega,fun m hm => absurd hm (Nat.not_lt_zero m),?_⟩ ?_
 . exact Sub.live ⟨rfl,rfl,rfl,rfl,trivial⟩ trivial
 . rintro j st ⟨i,hij,hno,hs2⟩
   refine zW hs2 ?_
   clear hs2
   repeat' (first
|refine zA ?_
|refine zB ?_
|refine zK ?_
|refine zb ?_
|apply aw_1
 conv => whnf
 refine ⟨?_,trivial⟩
|apply s_1
 conv => whnf; arg 1; arg 4; arg 3; whnf
 refine ⟨?_,?_⟩
|refine zP (by conv => lhs; whnf) ?_ ?_ <;> intro hb
|refine zI ?_
|refine zM ?_
|refine zO ?_
|refine zE rfl ?_
|refine zF ?_
|refine zl ?_
|refine zC ?_
|refine ⟨_,by conv => lhs; whnf; arg 2; whnf,?_⟩; conv => rhs; whnf
|exact trivial)
   all_goals
    first
     | exact zT (by omega)
     | (have g0 : decide ((i : Int) < (l.length : Int)) = true:=by assumption
        have g0 : i < l.length:=by simpa using g0
        first
         | exact (⟨by omega,by omega⟩ : 0 <= (i : Int) /\ (i : Int) < (l.length : Int))
         | (have g1 : eqS k (gD l i) = true:=by assumption
            rw [idxL_at g0 hno g1])
         | (have g1 : eqS k (gD l i) = false:=by assumption
            refine zH (j':=j - 1) (by omega) ⟨i + 1,by omega,fun m hm => ?_,Sub.live ⟨rfl,rfl,rfl,rfl,trivial⟩ trivial⟩
            by_cases e : m = i
            . subst e; exact g1
            . exact hno m (by omega)))
     | (have g0 : decide ((i : Int) < (l.length : Int)) = false:=by assumption
        have g0 : ¬ (i : Int) < (l.length : Int):=of_decide_eq_false g0
        rw [idxL_no fun m hm => hno m (by omega)])
theorem zHi (l : List D) (k : ByteArray) (hn : l.length <= 1000000000) : AC EN5 Tryz.prog 194 [.sl 9 l,.c (.string k)] (.c (.bool (hasL l k))):=by
 have h1:=indexS_ac l k hn
 rw [<- idxL_has]
 refine zG 9 Tryz.func194 rfl rfl rfl rfl ?_
 intro s w he
 repeat' (first
|refine zA ?_
|refine zB ?_
|refine zK ?_
|apply aw_1
 conv => whnf
 refine ⟨?_,trivial⟩
|apply s_1
 conv => whnf; arg 1; arg 4; arg 3; whnf
 refine ⟨?_,?_⟩
|apply zd rfl
 . conv => lhs; whnf
 . conv => lhs; whnf
 . first | exact h1
|refine zC ?_
|refine ⟨_,by conv => lhs; whnf; arg 2; whnf,?_⟩; conv => rhs; whnf
|exact trivial)
 all_goals rfl
theorem zEI (ks : List (List UInt8)) (u : List UInt8) : hasL (ks.map strD) (bs u) = ks.contains u:=by
 unfold hasL
 rw [List.any_map,List.contains_eq_any_beq]
 congr 1
 funext x
 show ((bs u).toList == (bs x).toList) = (u == x)
 rw [Lib.toList_data,Lib.toList_data,zAi,zAi]
theorem etaP2 (l : List Tok) (v : Bool) (n : Nat) : [V.sl 143 (l.map tokD),.c (.bool v),.c (.int .i64 ((n : Int) + 1))] = zh ⟨l,v,n + 1⟩:=rfl
theorem etaP3 (l : List Tok) (v : Bool) : [V.sl 143 (l.map tokD),.c (.bool v),.c (.int .i64 0)] = zh ⟨l,v,0⟩:=rfl
def zVal : List V:=[.c (.int .i64 0),.c (.int .i64 0),.c (.string ⟨#[]⟩),.c (.slice none 0 0),.c (.slice none 0 0)]
noncomputable def HvL (lv : Nat) (y : PS) (acc : List D) : Vst 165:=
 stS 165 [(0,.bx (pn 0) 0),(1,.c (.int .i64 (lv : Int))),(4,.bx 4 0),(8,.bx 8 0)] [(pn 0,boxP y),(4,.box 84 zVal),(8,.box 84 [.c (.int .i64 5),.c (.int .i64 0),.c (.string ⟨#[]⟩),.own 901 84 acc,.c (.slice none 0 0)]),(901,.tok 84 acc.length)]
noncomputable def HvO (lv : Nat) (y : PS) (ks : List (List UInt8)) (acc : List D) : Vst 165:=
 stS 165 [(0,.bx (pn 0) 0),(1,.c (.int .i64 (lv : Int))),(4,.bx 4 0),(9,.bx 9 0)] [(pn 0,boxP y),(4,.box 84 zVal),(9,.box 84 [.c (.int .i64 6),.c (.int .i64 0),.c (.string ⟨#[]⟩),.own 901 84 acc,.own 902 9 (ks.map strD)]),(901,.tok 84 acc.length),(902,.tok 9 (ks.map strD).length)]
theorem nx_nd (x : PS) (n : Nat) : ({ nxT x with nd:=n } : PS) = nxT ⟨x.ts,x.vr,n⟩:=by
 unfold nxT hdT
 split <;> rfl
theorem En.nd {x : PS} (h : En x) (n : Nat) (v : Bool) : En ⟨x.ts,v,n⟩:=h
theorem zCW : zy Tryz.prog 82 = some (84,80):=by kernel_rfl
noncomputable def HvA (lv : Nat) (x : PS) (t : Tok) : Vst 165:=
 stS 165 [(0,.bx (pn 0) 0),(1,.c (.int .i64 (lv : Int))),(4,.bx 4 0),(5,.bx 5 0)] [(pn 0,boxP x),(4,.box 84 zVal),(5,.box 143 (tokC t))]
theorem nx_len (x : PS) : (nxT x).ts.length <= x.ts.length:=by
 unfold nxT
 split
 . exact Nat.le_refl _
 . show (x.ts.drop 1).length <= _
   rw [List.length_drop]; omega
theorem zJS (t : Tok) (r : List Tok) (vr : Bool) (nd : Nat) : zB8 ⟨t :: r,vr,nd⟩ = (t.k == 5 || (t.k == 1 && !isS ⟨t :: r,vr,nd⟩ [91] && !isS ⟨t :: r,vr,nd⟩ [123] && !(vr && isS ⟨t :: r,vr,nd⟩ [36]))):=rfl
theorem value_bad {f lv : Nat} {x : PS} (h : zB8 x = true) : valueQ (f + 1) lv x = .error ((hdT x).i,3):=by rw [valueQ,if_pos h]
theorem value_deep {f lv : Nat} {x : PS} (h : zB8 x = false) (h2 : 24 < lv) : valueQ (f + 1) lv x = .error ((hdT x).i,5):=by rw [valueQ,if_neg (by rw [h]; decide),if_pos h2]
theorem value_big {f lv : Nat} {x : PS} (h : zB8 x = false) (h2 : ¬ 24 < lv) (h3 : 4096 <= x.nd) : valueQ (f + 1) lv x = .error ((hdT x).i,4):=by rw [valueQ,if_neg (by rw [h]; decide),if_neg h2,if_pos h3]
def zA4 (f lv : Nat) (t : Tok) (y : PS) : PR D:=
 if t.k = 3 then .ok (valD 2 (numQ t.s) [] [] [],y)
 else if t.k = 4 then .ok (valD 3 0 t.s [] [],y)
 else if t.k = 2 then .ok (zDg t.s,y)
 else if t.s = [36] then thenQ (nameQ y) fun n z => .ok (valD 7 0 n [] [],z)
 else if t.s = [91] then thenQ (itemsQ (valueQ f (lv + 1)) (y.ts.length + 1) [] y) fun l z => .ok (valD 5 0 [] l [],z)
 else thenQ (zu (valueQ f (lv + 1)) (y.ts.length + 1) [] [] y) fun l z => .ok (valD 6 0 [] l.2 l.1,z)
theorem value_go {f lv : Nat} {x : PS} (h : zB8 x = false) (h2 : ¬ 24 < lv) (h3 : ¬ 4096 <= x.nd) : valueQ (f + 1) lv x = zA4 f lv (hdT x) (nxT ⟨x.ts,x.vr,x.nd + 1⟩):=by
 have e:=(nx_nd x (x.nd + 1)).symm
 rw [valueQ,if_neg (by rw [h]; decide),if_neg h2,if_neg h3,e]
 rfl
theorem zAp {n most : Nat} {x : PS} {e : Nat × Int} (h : limQ n most x = .error e) : most <= n /\ e = ((hdT x).i,4):=by
 unfold limQ at h
 split at h
 . cases h; exact ⟨by assumption,rfl⟩
 . cases h
section
variable {f lv : Nat} {t : Tok} {y : PS}
theorem vt_3 (h : (t.k == 3) = true) : zA4 f lv t y = .ok (valD 2 (numQ t.s) [] [] [],y):=by rw [zA4,if_pos (by simpa using h)]
theorem vt_4 (h3 : (t.k == 3) = false) (h : (t.k == 4) = true) : zA4 f lv t y = .ok (valD 3 0 t.s [] [],y):=by rw [zA4,if_neg (by simpa using h3),if_pos (by simpa using h)]
theorem vt_2 (h3 : (t.k == 3) = false) (h4 : (t.k == 4) = false) (h : (t.k == 2) = true) : zA4 f lv t y = .ok (zDg t.s,y):=by rw [zA4,if_neg (by simpa using h3),if_neg (by simpa using h4),if_pos (by simpa using h)]
theorem vt_v (h3 : (t.k == 3) = false) (h4 : (t.k == 4) = false) (h2 : (t.k == 2) = false) (h : ((bs t.s).toList == (⟨#[36]⟩ : ByteArray).toList) = true) : zA4 f lv t y = thenQ (nameQ y) fun n z => .ok (valD 7 0 n [] [],z):=by
 rw [zA4,if_neg (by simpa using h3),if_neg (by simpa using h4),if_neg (by simpa using h2),if_pos (zDi h)]
theorem vt_l (h3 : (t.k == 3) = false) (h4 : (t.k == 4) = false) (h2 : (t.k == 2) = false) (h7 : ((bs t.s).toList == (⟨#[36]⟩ : ByteArray).toList) = false) (h : ((bs t.s).toList == (⟨#[91]⟩ : ByteArray).toList) = true) : zA4 f lv t y = thenQ (itemsQ (valueQ f (lv + 1)) (y.ts.length + 1) [] y) fun l z => .ok (valD 5 0 [] l [],z):=by
 rw [zA4,if_neg (by simpa using h3),if_neg (by simpa using h4),if_neg (by simpa using h2),if_neg (zBI h7),if_pos (zDi h)]
theorem vt_o (h3 : (t.k == 3) = false) (h4 : (t.k == 4) = false) (h2 : (t.k == 2) = false) (h7 : ((bs t.s).toList == (⟨#[36]⟩ : ByteArray).toList) = false) (h : ((bs t.s).toList == (⟨#[91]⟩ : ByteArray).toList) = false) : zA4 f lv t y = thenQ (zu (valueQ f (lv + 1)) (y.ts.length + 1) [] [] y) fun l z => .ok (valD 6 0 [] l.2 l.1,z):=by
 rw [zA4,if_neg (by simpa using h3),if_neg (by simpa using h4),if_neg (by simpa using h2),if_neg (zBI h7),if_neg (zBI h)]
end
section
variable {s : List UInt8}
theorem w_true (h : ((bs s).toList == (⟨#[116,114,117,101]⟩ : ByteArray).toList) = true) : zDg s = valD 1 (if ((bs s).toList == (⟨#[116,114,117,101]⟩ : ByteArray).toList) = true then 1 else 0) [] [] []:=by
 rw [zDg,if_pos (zDi h),if_pos h]
theorem w_false (h0 : ((bs s).toList == (⟨#[116,114,117,101]⟩ : ByteArray).toList) = false) (h : ((bs s).toList == (⟨#[102,97,108,115,101]⟩ : ByteArray).toList) = true) : zDg s = valD 1 (if ((bs s).toList == (⟨#[116,114,117,101]⟩ : ByteArray).toList) = true then 1 else 0) [] [] []:=by
 rw [zDg,if_neg (zBI h0),if_pos (zDi h),if_neg (by rw [h0]; decide)]
theorem w_null (h0 : ((bs s).toList == (⟨#[116,114,117,101]⟩ : ByteArray).toList) = false) (h1 : ((bs s).toList == (⟨#[102,97,108,115,101]⟩ : ByteArray).toList) = false) (h : ((bs s).toList == (⟨#[110,117,108,108]⟩ : ByteArray).toList) = true) : zDg s = zE9:=by
 rw [zDg,if_neg (zBI h0),if_neg (zBI h1),if_pos (zDi h)]
theorem w_enum (h0 : ((bs s).toList == (⟨#[116,114,117,101]⟩ : ByteArray).toList) = false) (h1 : ((bs s).toList == (⟨#[102,97,108,115,101]⟩ : ByteArray).toList) = false) (h : ((bs s).toList == (⟨#[110,117,108,108]⟩ : ByteArray).toList) = false) : zDg s = valD 4 0 s [] []:=by
 rw [zDg,if_neg (zBI h0),if_neg (zBI h1),if_neg (zBI h)]
theorem w_no {a : Bool} (h : a = true) (h2 : a = false) : False:=by rw [h] at h2; cases h2
end
theorem items_end {v : PS -> PR D} {j : Nat} {acc : List D} {z : PS} (h : (!isS z [93]) = false) : itemsQ v (j + 1) acc z = .ok (acc,nxT z):=by rw [itemsQ,if_pos (by simpa using h)]
theorem zJZ {v : PS -> PR D} {j : Nat} {acc : List D} {z : PS} (h : (!isS z [93]) = true) : itemsQ v (j + 1) acc z = thenQ (v z) fun a y => itemsQ v j (acc ++ [a]) y:=by rw [itemsQ,if_neg (by simpa using h)]
theorem zS {α β : Type} {r : PR α} {f : α -> PS -> PR β} {a : α} {x : PS} (h : r = .ok (a,x)) : thenQ r f = f a x:=by rw [h]; rfl
theorem then_err {α β : Type} {r : PR α} {f : α -> PS -> PR β} {e : Nat × Int} (h : r = .error e) : thenQ r f = .error e:=by rw [h]; rfl
theorem fields_end {v : PS -> PR D} {j : Nat} {ks : List (List UInt8)} {acc : List D} {z : PS} (h : (!isS z [125]) = false) : zu v (j + 1) ks acc z = .ok ((ks,acc),nxT z):=by rw [zu,if_pos (by simpa using h)]
theorem zCU {v : PS -> PR D} {j : Nat} {ks : List (List UInt8)} {acc : List D} {z : PS} (h : (!isS z [125]) = true) : zu v (j + 1) ks acc z = thenQ (nameQ z) fun k y => if ks.contains k = true then .error ((hdT z).i,7) else thenQ (takeQ [58] y) fun _ z => thenQ (v z) fun a u => zu v j (ks ++ [k]) (acc ++ [a]) u:=by rw [zu,if_neg (by simpa using h)]
section
variable {v : PS -> PR D} {j : Nat} {ks : List (List UInt8)} {acc : List D} {z y z2 u2 : PS} {k : List UInt8} {e : Nat × Int} {u : Unit} {a : D}
theorem fl_nm (h : (!isS z [125]) = true) (h1 : nameQ z = .error e) : zu v (j + 1) ks acc z = .error e:=by rw [zCU h,then_err h1]
theorem fl_dup (h : (!isS z [125]) = true) (h1 : nameQ z = .ok (k,y)) (h2 : hasL (ks.map strD) (bs k) = true) : zu v (j + 1) ks acc z = .error ((hdT z).i,7):=by
 rw [zEI] at h2
 rw [zCU h,zS h1,if_pos h2]
theorem fl_col (h : (!isS z [125]) = true) (h1 : nameQ z = .ok (k,y)) (h2 : hasL (ks.map strD) (bs k) = false) (h3 : takeQ [58] y = .error e) : zu v (j + 1) ks acc z = .error e:=by
 rw [zEI] at h2
 rw [zCU h,zS h1,if_neg (by rw [h2]; decide),then_err h3]
theorem fl_val (h : (!isS z [125]) = true) (h1 : nameQ z = .ok (k,y)) (h2 : hasL (ks.map strD) (bs k) = false) (h3 : takeQ [58] y = .ok (u,z2)) (h4 : v z2 = .error e) : zu v (j + 1) ks acc z = .error e:=by
 rw [zEI] at h2
 rw [zCU h,zS h1,if_neg (by rw [h2]; decide),zS h3,then_err h4]
theorem fl_ok (h : (!isS z [125]) = true) (h1 : nameQ z = .ok (k,y)) (h2 : hasL (ks.map strD) (bs k) = false) (h3 : takeQ [58] y = .ok (u,z2)) (h4 : v z2 = .ok (a,u2)) : zu v (j + 1) ks acc z = zu v j (ks ++ [k]) (acc ++ [a]) u2:=by
 rw [zEI] at h2
 rw [zCU h,zS h1,if_neg (by rw [h2]; decide),zS h3,zS h4]
end
theorem zGn : ∀ (f lv : Nat) (x : PS),En x -> x.ts.length <= 100000 -> f + lv = 26 -> lv <= 25 -> ACE EN5 Tryz.prog 257 [.bx (pn 0) 0,.c (.int .i64 (lv : Int))] [boxP x] (outQ VV (valueQ f lv x))
 | 0,lv,x,h,hlen,hf,h25 => by omega
 | f + 1,lv,x,h,hlen,hf,h25 => by
   have ih:=zGn f
   have hs1:=zAg h [91]
   have hs2:=zAg h [123]
   have hs3:=zAg h [36]
   have hli:=zDp h x.nd 4096
   obtain ⟨y,hy⟩ : ∃ y,y = nxT ⟨x.ts,x.vr,x.nd + 1⟩:=⟨_,rfl⟩
   have hn:=zA3 (h.nd (x.nd + 1) x.vr)
   rw [<- hy] at hn
   have hnu:=zFR (bs (hdT x).s) (by rw [zg]; have:=h.hd; omega)
   have hvt:=vText_ac (hdT x).s
   have hve:=vEnum_ac (hdT x).s
   have hvi:=vInt_ac (numQ (hdT x).s)
   have hvb:=vBool_ac
   have hen : En y:=by rw [hy]; exact (h.nd (x.nd + 1) x.vr).nx0
   have hyl : y.ts.length <= 100000:=by rw [hy]; exact Nat.le_trans (nx_len _) hlen
   have hnm:=zCP hen
   have hf3:=zAz (hdT x) 3
   have hf5:=zAz (hdT x) 5
   obtain ⟨t,r,ht⟩:=h.cons
   have hh:=zAe ht
   rw [hh] at hnu hvt hve hvi hf3 hf5
   obtain ⟨ts,vr,nd⟩:=x
   cases ht
   refine zAF (fn:=Tryz.f257) 165 Tryz.func257 rfl rfl ?_
   intro pas w0 w he hp
   by_cases hnv : zB8 ⟨t :: r,vr,nd⟩ = true
   . have hv:=value_bad (f:=f) (lv:=lv) hnv
     rw [hh] at hv
     rw [zJS] at hnv
     have k1 : ((t.k == 5) == false) = true -> ((t.k == 1) == true) = false -> False:=fun a b => by simp_all
     have k2 : ((t.k == 5) == false) = true -> ((!isS ⟨t :: r,vr,nd⟩ [91]) == true) = false -> False:=fun a b => by simp_all
     have k3 : ((t.k == 5) == false) = true -> ((!isS ⟨t :: r,vr,nd⟩ [123]) == true) = false -> False:=fun a b => by simp_all
     have k4 : ((t.k == 5) == false) = true -> (vr == true) = true -> (!isS ⟨t :: r,vr,nd⟩ [36]) = false -> False:=fun a b c => by simp_all
     rw [hv]
     repeat' (first
|apply zAM rfl rfl rfl
 . conv => lhs; whnf
 . first | rfl | assumption
 . conv => lhs; whnf
 . first | exact bT1 ‹_› | exact bT2 ‹_› | rfl
|apply zAN rfl rfl rfl
 . conv => lhs; whnf
 . first | rfl | assumption
 . conv => lhs; whnf
 . first | exact bF1 ‹_› | exact bF2 ‹_› | rfl
|apply zAV zh zN rfl
 . conv => lhs; whnf
 . conv => lhs; whnf
 . first | rfl | assumption
 . conv => lhs; whnf
 . rfl
 . conv => lhs; whnf; arg 1; whnf
 . first | exact zv _
 . first | exact hs1 | exact hs2 | exact hs3
 . exact fun _ => rfl
 . exact fun _ => rfl
|apply ze rfl
 . conv => lhs; whnf
 . conv => lhs; whnf
 . first | rfl | assumption
|apply zEZ rfl
 . conv => lhs; whnf
 . rfl
 . rfl
|apply zCM rfl
 . conv => lhs; whnf
 . first | exact hf3
 . first | exact fun _ => rfl | (intro _; simp only [renL,renV,ren_cells])
 change _ = Out.die _
|exact (k1 ‹_› ‹_›).elim
|exact (k2 ‹_› ‹_›).elim
|exact (k3 ‹_› ‹_›).elim
|exact (k4 ‹_› ‹_› ‹_›).elim
|refine zA ?_
|refine zB ?_
|refine zK ?_
|apply aw_1
 conv => whnf
 refine ⟨?_,trivial⟩
|apply zX rfl rfl
 . conv => lhs; whnf
 . conv => lhs; whnf
 . first | exact bT1 ‹_› | exact bT2 ‹_›
|apply zR rfl rfl
 . conv => lhs; whnf
 . conv => lhs; whnf
 . first | exact bF1 ‹_› | exact bF2 ‹_›
|apply s_1
 conv => whnf; arg 1; arg 4; arg 3; whnf
 refine ⟨?_,?_⟩
|apply zY rfl rfl rfl
 . conv => lhs; whnf
 . conv => lhs; whnf; arg 1; whnf
 . conv => lhs; whnf; arg 1; whnf
 . exact ⟨by kernel_rfl,by kernel_rfl⟩
 . rfl
|apply zD rfl
 . conv => lhs; whnf
 . conv => lhs; whnf
 . first | rfl | assumption
 . conv => lhs; whnf; arg 2; whnf
|apply zJ rfl
 . conv => lhs; whnf
 . conv => lhs; whnf
 . conv => lhs; whnf; arg 2; whnf
|refine zP (by conv => lhs; whnf) ?_ ?_ <;> intro hb
|exact trivial
|intro hg)
     all_goals first
      | exact zBT _ _
      | rfl
      | skip
   . have hnv : zB8 ⟨t :: r,vr,nd⟩ = false:=by simpa using hnv
     have hv5:=value_deep (f:=f) (lv:=lv) hnv
     have hv4:=value_big (f:=f) (lv:=lv) hnv
     have hvg:=value_go (f:=f) (lv:=lv) hnv
     rw [zJS] at hnv
     have k1 : ((t.k == 5) == false) = false -> False:=fun a => by simp_all
     have k2 : ((t.k == 5) == false) = true -> ((t.k == 1) == true) = true -> ((!isS ⟨t :: r,vr,nd⟩ [91]) == true) = true -> ((!isS ⟨t :: r,vr,nd⟩ [123]) == true) = true -> (vr == true) = false -> False:=fun a b c d e => by simp_all
     have k3 : ((t.k == 5) == false) = true -> ((t.k == 1) == true) = true -> ((!isS ⟨t :: r,vr,nd⟩ [91]) == true) = true -> ((!isS ⟨t :: r,vr,nd⟩ [123]) == true) = true -> (!isS ⟨t :: r,vr,nd⟩ [36]) = true -> False:=fun a b c d e => by simp_all
     repeat' (first
|apply zAM rfl rfl rfl
 . conv => lhs; whnf
 . first | rfl | assumption
 . conv => lhs; whnf
 . first | exact bT1 ‹_› | exact bT2 ‹_› | rfl
|apply zAN rfl rfl rfl
 . conv => lhs; whnf
 . first | rfl | assumption
 . conv => lhs; whnf
 . first | exact bF1 ‹_› | exact bF2 ‹_› | rfl
|apply zAW (VV zE9) rfl rfl
 . conv => lhs; whnf; arg 2; whnf
 . repeat' (first | exact VLe.refl _ | exact VLe.nil _ | exact VLe.lit _ _ | exact VLe.own _ _ _ | apply VLe.agg | apply VLeL.cons | exact VLeL.nil)
|apply zAW (VV (valD 7 0 _ [] [])) rfl rfl
 . conv => lhs; whnf; arg 2; whnf
 . repeat' (first | exact VLe.refl _ | exact VLe.nil _ | exact VLe.lit _ _ | exact VLe.own _ _ _ | apply VLe.agg | apply VLeL.cons | exact VLeL.nil)
|apply s_m zh zN rfl
 . conv => lhs; whnf
 . conv => lhs; whnf
 . rfl
 . conv => lhs; whnf; arg 1; whnf
 . first | exact zv _ | exact etaP2 _ _ _
 . first | exact hs1 | exact hs2 | exact hs3 | exact hn
 . exact fun _ => rfl
 . exact fun _ => rfl
|apply zAV zh zN rfl
 . conv => lhs; whnf
 . conv => lhs; whnf
 . first | rfl | assumption
 . conv => lhs; whnf
 . rfl
 . conv => lhs; whnf; arg 1; whnf
 . first | exact zv _ | exact etaP2 _ _ _
 . first | exact hs1 | exact hs2 | exact hs3 | exact hn
 . exact fun _ => rfl
 . exact fun _ => rfl
|apply ze rfl
 . conv => lhs; whnf
 . conv => lhs; whnf
 . first | rfl | assumption
|apply zEZ rfl
 . conv => lhs; whnf
 . rfl
 . rfl
|apply s_pr zh zN rfl
 . conv => lhs; whnf
 . conv => lhs; whnf
 . rfl
 . conv => lhs; whnf; arg 1; whnf
 . first | exact zv _ | exact etaP2 _ _ _
 . first | exact hli | exact hnm
 . exact fun _ => rfl
 . first | (intro _ _; simp only [renL,renV,ren_cells]; done) | exact fun _ _ => rfl
 refine fun ee hq => ?_
 change _ = Out.die _
 rotate_left 1
 refine fun aa xx hq => ?_
 first | (replace hq:=zAZ hq; obtain ⟨hq,rfl⟩:=hq) | (cases hq; have hq:=True.intro) | skip
|apply zCM rfl
 . conv => lhs; whnf
 . first | exact hf3 | exact hf5
 . first | exact fun _ => rfl | (intro _; simp only [renL,renV,ren_cells])
 change _ = Out.die _
|exact (k1 ‹_›).elim
|exact (k2 ‹_› ‹_› ‹_› ‹_› ‹_›).elim
|exact (k3 ‹_› ‹_› ‹_› ‹_› ‹_›).elim
|apply zBA 4 (HvA lv ⟨t :: r,vr,nd⟩ t) rfl
|apply zBA 9 (HvA lv y t) rfl
|refine zHN ?_
|refine zA ?_
|refine zB ?_
|refine zK ?_
|refine zb ?_
|apply aw_1
 conv => whnf
 refine ⟨?_,trivial⟩
|apply zR rfl rfl
 . conv => lhs; whnf
 . conv => lhs; whnf
 . first | exact bF1 ‹_› | exact bF2 ‹_›
|apply s_1
 conv => whnf; arg 1; arg 4; arg 3; whnf
 refine ⟨?_,?_⟩
|apply zd rfl
 . conv => lhs; whnf
 . conv => lhs; whnf
 . first | exact hnu | exact hvt | exact hve | exact hvi | exact hvb _
|apply zY rfl rfl rfl
 . conv => lhs; whnf
 . conv => lhs; whnf; arg 1; whnf
 . conv => lhs; whnf; arg 1; whnf
 . exact ⟨by kernel_rfl,by kernel_rfl⟩
 . rfl
|apply zD rfl
 . conv => lhs; whnf
 . conv => lhs; whnf
 . first | rfl | assumption
 . conv => lhs; whnf; arg 2; whnf
|apply zJ rfl
 . conv => lhs; whnf
 . conv => lhs; whnf
 . conv => lhs; whnf; arg 2; whnf
|refine zP (by conv => lhs; whnf) ?_ ?_ <;> intro hb
|refine zM ?_
|refine zO ?_
|apply zAK rfl
 . conv => lhs; whnf; arg 2; whnf
 . conv => lhs; whnf; arg 1; whnf
|exact trivial
|intro hg)
     all_goals first
      | exact zBT _ _
      | exact Sub.live ⟨rfl,rfl,rfl,rfl,trivial⟩ ⟨rfl,rfl,rfl,trivial⟩
      | (exact (w_no (a:=(bs t.s).toList == (⟨#[116,114,117,101]⟩ : ByteArray).toList) ‹_› ‹_›).elim)
      | (have g : nd < 4096:=by assumption
         exact zT ⟨by show -9223372036854775808 <= (nd : Int) + 1; omega,by show (nd : Int) + 1 <= 9223372036854775807; omega⟩)
      | (have g1 : decide ((lv : Int) > 24) = true:=by assumption
         rw [hv5 (by simp at g1; omega)]; rfl)
      | (have g1 : decide ((lv : Int) > 24) = false:=by assumption
         have g1 : ¬ 24 < lv:=by simp at g1; omega
         first
          | (have g2:=zAp hq
             rw [hv4 g1 g2.1,g2.2]; rfl)
          | (have g : nd < 4096:=by assumption
             rw [hvg g1 (by show ¬ 4096 <= nd; omega),hh,<- hy]
             first
              | (rw [vt_3 ‹_›]; rfl)
              | (rw [vt_4 ‹_› ‹_›]; rfl)
              | (rw [vt_2 ‹_› ‹_› ‹_›,w_true ‹_›]; rfl)
              | (rw [vt_2 ‹_› ‹_› ‹_›,w_false ‹_› ‹_›]; rfl)
              | (rw [vt_2 ‹_› ‹_› ‹_›,w_null ‹_› ‹_› ‹_›]; rfl)
              | (rw [vt_2 ‹_› ‹_› ‹_›,w_enum ‹_› ‹_› ‹_›]; rfl)
              | (rw [vt_v ‹_› ‹_› ‹_› ‹_›,hq]; rfl)))
      | skip
     . have g1 : ¬ 24 < lv:=by have g1 : decide ((lv : Int) > 24) = false:=by assumption
                               simp at g1; omega
       have g : nd < 4096:=by assumption
       have hgo:=hvg g1 (by show ¬ 4096 <= nd; omega)
       rw [hh,<- hy,vt_l ‹_› ‹_› ‹_› ‹_› ‹_›] at hgo
       rw [hgo]
       clear hs1 hs2 hs3 hli hn hnu hvt hve hvi hvb hnm hf3 hf5 hvg hv4 hv5 hgo k1 k2 k3
       refine zW (Sub.ownF (m:=8) (q:=901) (i:=3) (e:=84) rfl (by decide) rfl rfl rfl) ?_
       refine zV (fun j st => ∃ z acc,En z /\ z.ts.length < j /\ acc.length + z.ts.length <= y.ts.length /\ itemsQ (valueQ f (lv + 1)) (y.ts.length + 1) [] y = itemsQ (valueQ f (lv + 1)) j acc z /\ Sub (cxE EN5 Tryz.prog pas w0 w he hp (outQ VV (thenQ (itemsQ (valueQ f (lv + 1)) (y.ts.length + 1) [] y) fun l z => .ok (valD 5 0 [] l [],z)))) st (HvL lv z acc)) (y.ts.length + 1) ⟨y,[],hen,by omega,by simp,rfl,?_⟩ ?_
       . exact Sub.live ⟨rfl,rfl,rfl,rfl,trivial⟩ ⟨rfl,rfl,rfl,rfl,trivial⟩
       rintro j st ⟨z,acc,hz,hzj,hzl,hI,hsub⟩
       refine zW hsub ?_
       clear hsub
       rw [hI]
       clear hI
       cases j with
       | zero => omega
       | succ j =>
       have hs:=zAg hz [93]
       have hn:=zA3 hz
       have hv:=ih (lv + 1) z hz (by omega) (by omega) (by omega)
       repeat' (first
|apply zAW (VV (valD 5 0 [] acc [])) rfl rfl
 . conv => lhs; whnf; arg 2; whnf
 . repeat' (first | exact VLe.refl _ | exact VLe.nil _ | exact VLe.lit _ _ | exact VLe.own _ _ _ | apply VLe.agg | apply VLeL.cons | exact VLeL.nil)
|apply zBR 10 ([(1,[8])]) ([(5,[1000000]),(7,[901]),(9,[8])]) rfl (by kernel_rfl) (by kernel_rfl) (by kernel_rfl)
|apply zEB
|apply zEA rfl
 . conv => lhs; whnf
 . conv => lhs; whnf; arg 2; whnf
|apply g_app rfl rfl
 . conv => lhs; whnf
 . first | exact zCW | (conv => lhs; whnf; arg 1; whnf)
 . first | exact fun _ => rfl | (intro _; kernel_rfl)
 . conv => lhs; whnf
 . rfl
 . conv => lhs; whnf; arg 1; whnf
 . conv => lhs; whnf
|apply zBw rfl rfl rfl
 . conv => lhs; whnf
 . rfl
 . conv => lhs; whnf; arg 1; whnf
 . conv => lhs; whnf; arg 1; whnf
 . exact ⟨by kernel_rfl,by kernel_rfl⟩
 . rfl
|exact Or.inl ⟨pn 0,_,rfl⟩
|refine Or.inr ?_
|apply g_pr zh zN (default : D) rfl
 . conv => lhs; whnf
 . conv => lhs; whnf
 . rfl
 . conv => lhs; whnf; arg 1; whnf
 . first | exact zv _
 . first | exact hv
 . exact fun _ => rfl
 . first | (intro _ _; simp only [renL,renV,ren_cells]; done) | exact fun _ _ => rfl
 . rfl
 refine fun ee hq tm rs => ?_
 change _ = Out.die _
 rotate_left 1
 refine fun aa xx hq => ?_
 rotate_left 1
 refine fun ee hq => ?_
|show inO _ _ = true; rfl
|apply zFB [aa] rfl rfl
 . conv => lhs; whnf
 . first | exact zCW | (conv => lhs; whnf; arg 1; whnf)
 . rfl
 . rfl
 . repeat' (first | exact trivial | apply And.intro | rfl)
|apply zFB [default] rfl rfl
 . conv => lhs; whnf
 . first | exact zCW | (conv => lhs; whnf; arg 1; whnf)
 . rfl
 . rfl
 . repeat' (first | exact trivial | apply And.intro | rfl)
|apply s_m zh zN rfl
 . conv => lhs; whnf
 . conv => lhs; whnf
 . rfl
 . conv => lhs; whnf; arg 1; whnf
 . first | exact zv _
 . first | exact hs | exact hn
 . exact fun _ => rfl
 . exact fun _ => rfl
|refine zA ?_
|refine zB ?_
|refine zK ?_
|refine zb ?_
|apply aw_1
 conv => whnf
 refine ⟨?_,trivial⟩
|apply s_1
 conv => whnf; arg 1; arg 4; arg 3; whnf
 refine ⟨?_,?_⟩
|apply zY rfl rfl rfl
 . conv => lhs; whnf
 . conv => lhs; whnf; arg 1; whnf
 . conv => lhs; whnf; arg 1; whnf
 . exact ⟨by kernel_rfl,by kernel_rfl⟩
 . rfl
|refine zP (by conv => lhs; whnf) ?_ ?_ <;> intro hb
|refine zI ?_
|refine zM ?_
|refine zO ?_
|refine zE rfl ?_
|refine zF ?_
|apply zAK rfl
 . conv => lhs; whnf; arg 2; whnf
 . conv => lhs; whnf; arg 1; whnf
|exact trivial)
       all_goals first
        | exact zT (by omega)
        | (refine ⟨by simp,?_,?_⟩ <;> simp only [List.length_cons,List.length_nil,maxLen] <;> omega)
        | (rw [items_end ‹_›]; rfl)
        | (rw [zJZ ‹_›,then_err hq]; rfl)
        | skip
       have hx:=hz.valueL hq
       refine zH (j':=j) (by omega) ⟨xx,acc ++ [aa],hx.1,by omega,by rw [List.length_append]; simp only [List.length_cons,List.length_nil]; omega,by rw [zJZ ‹_›,zS hq],Sub.live ⟨rfl,rfl,rfl,rfl,trivial⟩ ⟨rfl,rfl,rfl,?_,trivial⟩⟩
       show some (Res.tok _ (acc.length + 1)) = some (Res.tok _ (acc ++ [aa]).length)
       rw [List.length_append]; rfl
     . have g1 : ¬ 24 < lv:=by have g1 : decide ((lv : Int) > 24) = false:=by assumption
                               simp at g1; omega
       have g : nd < 4096:=by assumption
       have hgo:=hvg g1 (by show ¬ 4096 <= nd; omega)
       rw [hh,<- hy,vt_o ‹_› ‹_› ‹_› ‹_› ‹_›] at hgo
       rw [hgo]
       clear hs1 hs2 hs3 hli hn hnu hvt hve hvi hvb hnm hf3 hf5 hvg hv4 hv5 hgo k1 k2 k3
       refine zW ((Sub.ownF (m:=9) (q:=901) (i:=3) (e:=84) rfl (by decide) rfl rfl rfl).trans (Sub.ownF (m:=9) (q:=902) (i:=4) (e:=9) rfl (by decide) rfl rfl rfl)) ?_
       refine zV (fun j st => ∃ z ks acc,En z /\ z.ts.length < j /\ acc.length + z.ts.length <= y.ts.length /\ ks.length = acc.length /\ zu (valueQ f (lv + 1)) (y.ts.length + 1) [] [] y = zu (valueQ f (lv + 1)) j ks acc z /\ Sub (cxE EN5 Tryz.prog pas w0 w he hp (outQ VV (thenQ (zu (valueQ f (lv + 1)) (y.ts.length + 1) [] [] y) fun l z => .ok (valD 6 0 [] l.2 l.1,z)))) st (HvO lv z ks acc)) (y.ts.length + 1) ⟨y,[],[],hen,by omega,by simp,rfl,rfl,?_⟩ ?_
       . exact Sub.live ⟨rfl,rfl,rfl,rfl,trivial⟩ ⟨rfl,rfl,rfl,rfl,rfl,trivial⟩
       rintro j st ⟨z,ks,acc,hz,hzj,hzl,hka,hI,hsub⟩
       refine zW hsub ?_
       clear hsub
       rw [hI]
       clear hI
       cases j with
       | zero => omega
       | succ j =>
       have hs:=zAg hz [125]
       have hn:=zA3 hz
       have hnm:=zCP hz
       obtain ⟨t2,r2,ht2⟩:=hz.cons
       have hh2:=zAe ht2
       have hf7:=zAz (hdT z) 7
       rw [hh2] at hf7
       have hcon : ∀ k,AC EN5 Tryz.prog 194 [.sl 9 (ks.map strD),.c (.string (bs k))] (.c (.bool (hasL (ks.map strD) (bs k)))):=fun k => zHi _ _ (by rw [List.length_map]; omega)
       have htk : ∀ {k y},nameQ z = .ok (k,y) -> ACE EN5 Tryz.prog 177 [.bx (pn 0) 0,.c (.string (bs [58]))] [boxP y] (outQ (fun _ => .agg (tokC (hdT y))) (takeQ [58] y)):=fun hq => zFE (hz.name hq).1 [58]
       have hv : ∀ {k y u z2},nameQ z = .ok (k,y) -> takeQ [58] y = .ok (u,z2) -> ACE EN5 Tryz.prog 257 [.bx (pn 0) 0,.c (.int .i64 ((lv + 1 : Nat) : Int))] [boxP z2] (outQ VV (valueQ f (lv + 1) z2)):=fun h1 h2 =>
        ih (lv + 1) _ ((hz.name h1).1.take h2).1 (by have:=hz.name h1; have:=this.1.take h2; omega) (by omega) (by omega)
       have hlz : z.ts.length <= 100000:=by omega
       obtain ⟨zts,zvr,znd⟩:=z
       cases ht2
       repeat' (first
|apply zAW (VV (valD 6 0 [] acc ks)) rfl rfl
 . conv => lhs; whnf; arg 2; whnf
 . repeat' (first | exact VLe.refl _ | exact VLe.nil _ | exact VLe.lit _ _ | exact VLe.own _ _ _ | apply VLe.agg | apply VLeL.cons | exact VLeL.nil)
|apply zBR 10 ([(1,[9])]) ([(5,[1000000]),(7,[901]),(9,[9])]) rfl (by kernel_rfl) (by kernel_rfl) (by kernel_rfl)
|apply zEB
|apply zEA rfl
 . conv => lhs; whnf
 . conv => lhs; whnf; arg 2; whnf
|apply g_app rfl rfl
 . conv => lhs; whnf
 . first | exact zCW | exact zAP | (conv => lhs; whnf; arg 1; whnf)
 . first | exact fun _ => rfl | (intro _; kernel_rfl)
 . conv => lhs; whnf
 . rfl
 . conv => lhs; whnf; arg 1; whnf
 . conv => lhs; whnf
|apply zBw rfl rfl rfl
 . conv => lhs; whnf
 . rfl
 . conv => lhs; whnf; arg 1; whnf
 . conv => lhs; whnf; arg 1; whnf
 . exact ⟨by kernel_rfl,by kernel_rfl⟩
 . rfl
|exact Or.inl ⟨pn 0,_,rfl⟩
|refine Or.inr ?_
|apply g_pr zh zN (default : D) rfl
 . conv => lhs; whnf
 . conv => lhs; whnf
 . rfl
 . conv => lhs; whnf; arg 1; whnf
 . first | exact zv _
 . first | exact hv ‹_› ‹_›
 . exact fun _ => rfl
 . first | (intro _ _; simp only [renL,renV,ren_cells]; done) | exact fun _ _ => rfl
 . rfl
 refine fun ee hq tm rs => ?_
 change _ = Out.die _
 rotate_left 1
 refine fun aa xx hq => ?_
 rotate_left 1
 refine fun ee hq => ?_
|show inO _ _ = true; rfl
|apply zFB [aa] rfl rfl
 . conv => lhs; whnf
 . first | exact zCW | exact zAP | (conv => lhs; whnf; arg 1; whnf)
 . rfl
 . rfl
 . repeat' (first | exact trivial | apply And.intro | rfl)
|apply zFB [default] rfl rfl
 . conv => lhs; whnf
 . first | exact zCW | exact zAP | (conv => lhs; whnf; arg 1; whnf)
 . rfl
 . rfl
 . repeat' (first | exact trivial | apply And.intro | rfl)
|apply s_m zh zN rfl
 . conv => lhs; whnf
 . conv => lhs; whnf
 . rfl
 . conv => lhs; whnf; arg 1; whnf
 . first | exact zv _
 . first | exact hs | exact hn
 . exact fun _ => rfl
 . exact fun _ => rfl
|apply s_pr zh zN rfl
 . conv => lhs; whnf
 . conv => lhs; whnf
 . rfl
 . conv => lhs; whnf; arg 1; whnf
 . first | exact zv _
 . first | exact hnm | exact htk ‹_›
 . exact fun _ => rfl
 . first | (intro _ _; simp only [renL,renV,ren_cells]; done) | exact fun _ _ => rfl
 refine fun ee hq => ?_
 change _ = Out.die _
 rotate_left 1
 refine fun aa xx hq => ?_
 first | (replace hq:=zAZ hq; obtain ⟨hq,rfl⟩:=hq) | (cases hq; have hq:=True.intro) | skip
|apply zCM rfl
 . conv => lhs; whnf
 . first | exact hf7
 . first | exact fun _ => rfl | (intro _; simp only [renL,renV,ren_cells])
 change _ = Out.die _
|refine zA ?_
|refine zB ?_
|refine zK ?_
|refine zb ?_
|apply aw_1
 conv => whnf
 refine ⟨?_,trivial⟩
|apply s_1
 conv => whnf; arg 1; arg 4; arg 3; whnf
 refine ⟨?_,?_⟩
|apply zd rfl
 . conv => lhs; whnf
 . conv => lhs; whnf
 . first | exact hcon _
|apply zY rfl rfl rfl
 . conv => lhs; whnf
 . conv => lhs; whnf; arg 1; whnf
 . conv => lhs; whnf; arg 1; whnf
 . exact ⟨by kernel_rfl,by kernel_rfl⟩
 . rfl
|apply zDk rfl rfl
 . conv => lhs; whnf
 . first | exact zCW | exact zAP | (conv => lhs; whnf; arg 1; whnf)
 . first | exact fun _ => rfl | (intro _; kernel_rfl)
 . conv => lhs; whnf
 . conv => lhs; whnf; arg 1; whnf
 . conv => lhs; whnf
|apply zFL rfl rfl
 . conv => lhs; whnf
 . first | exact zCW | exact zAP | (conv => lhs; whnf; arg 1; whnf)
 . conv => lhs; whnf; arg 1; whnf
 . rfl
 . rfl
|refine zP (by conv => lhs; whnf) ?_ ?_ <;> intro hb
|refine zI ?_
|refine zE rfl ?_
|refine zF ?_
|apply zAK rfl
 . conv => lhs; whnf; arg 2; whnf
 . conv => lhs; whnf; arg 1; whnf
|exact trivial)
       all_goals first
        | exact zBT _ _
        | exact zT (by omega)
        | (refine ⟨by simp,?_,?_⟩ <;> simp only [List.length_map,List.length_cons,List.length_nil,maxLen] <;> omega)
        | (rw [fields_end ‹_›]; rfl)
        | (rw [fl_nm ‹_› ‹_›]; rfl)
        | (rw [fl_dup ‹_› ‹_› ‹_›]; rfl)
        | (rw [fl_col ‹_› ‹_› ‹_› ‹_›]; rfl)
        | (rw [fl_val ‹_› ‹_› ‹_› ‹_› ‹_›]; rfl)
        | skip
       rename_i kk yy hnm1 uu zz htk1
       have l1:=hz.name hnm1
       have l2:=l1.1.take htk1
       have l3:=l2.1.valueL hq
       refine zH (j':=j) (by omega) ⟨xx,ks ++ [kk],acc ++ [aa],l3.1,by omega,by rw [List.length_append]; simp only [List.length_cons,List.length_nil]; omega,by rw [List.length_append,List.length_append,hka]; rfl,fl_ok ‹_› hnm1 hb htk1 hq,Sub.live ⟨rfl,rfl,rfl,rfl,trivial⟩ ⟨rfl,rfl,?_,?_,?_,trivial⟩⟩
       . show some (Res.box _ [_,_,_,V.own 901 _ (acc ++ [aa]),V.own 902 _ (ks.map strD ++ [D.str (bs kk)])]) = some (Res.box _ [_,_,_,V.own 901 _ (acc ++ [aa]),V.own 902 _ ((ks ++ [kk]).map strD)])
         rw [List.map_append]; rfl
       . show some (Res.tok _ (acc.length + 1)) = some (Res.tok _ (acc ++ [aa]).length)
         rw [List.length_append]; rfl
       . show some (Res.tok _ ((ks.map strD).length + 1)) = some (Res.tok _ ((ks ++ [kk]).map strD).length)
         rw [List.map_append,List.length_append]; rfl
theorem zGh (x : PS) (h : En x) (hlen : x.ts.length <= 100000) : ACE EN5 Tryz.prog 181 [.bx (pn 0) 0] [boxP x] (outQ VV (zAf x)):=by
 have hv:=zGn 25 1 ⟨x.ts,x.vr,0⟩ h hlen rfl (by omega)
 have e : zAf x = valueQ 25 1 ⟨x.ts,x.vr,0⟩:=rfl
 rw [e]
 obtain ⟨ts,vr,nd⟩:=x
 refine zAF (fn:=Tryz.f181) 8 Tryz.func181 rfl rfl ?_
 intro pas w0 w he hp
 repeat' (first
|apply s_pr zh zN rfl
 . conv => lhs; whnf
 . conv => lhs; whnf
 . rfl
 . conv => lhs; whnf; arg 1; whnf
 . first | exact zv _ | exact etaP3 _ _
 . first | exact hv
 . exact fun _ => rfl
 . first | (intro _ _; simp only [renL,renV,ren_cells]; done) | exact fun _ _ => rfl
 refine fun ee hq => ?_
 change _ = Out.die _
 rotate_left 1
 refine fun aa xx hq => ?_
 first | (replace hq:=zAZ hq; obtain ⟨hq,rfl⟩:=hq) | (cases hq; have hq:=True.intro) | skip
|refine zA ?_
|refine zB ?_
|refine zK ?_
|apply aw_1
 conv => whnf
 refine ⟨?_,trivial⟩
|apply s_1
 conv => whnf; arg 1; arg 4; arg 3; whnf
 refine ⟨?_,?_⟩
|apply zY rfl rfl rfl
 . conv => lhs; whnf
 . conv => lhs; whnf; arg 1; whnf
 . conv => lhs; whnf; arg 1; whnf
 . exact ⟨by kernel_rfl,by kernel_rfl⟩
 . rfl
|apply zAK rfl
 . conv => lhs; whnf; arg 2; whnf
 . conv => lhs; whnf; arg 1; whnf
|exact trivial)
 . rw [hq]; rfl
 . rw [hq]; rfl
end Go.Proofs.YthjiclhfhjdjpaaGreatDoor
