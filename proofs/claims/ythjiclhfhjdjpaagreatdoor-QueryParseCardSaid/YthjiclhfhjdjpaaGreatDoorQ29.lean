import Derived.Laws.IdiomCopy
import Derived.Lib.EndianMore
import Derived.Lib.Builder
import Derived.Test.YthjiclhfhjdjpaaGreatDoorQ28
set_option maxHeartbeats 8000000
set_option maxRecDepth 100000
set_option linter.unusedVariables false
set_option linter.unusedSimpArgs false
namespace Go.Proofs.YthjiclhfhjdjpaaGreatDoor
open Go.RowKit
attribute [local irreducible] wpList Calls Code.wp
def isStrB (P : Program) (t : TypeId) : Bool:=match P.underlying t with | some .string => true | _ => false
theorem isStrB_ok {P : Program} {t : TypeId} (h : isStrB P t = true) : P.underlying t = some .string:=by
 unfold isStrB at h
 split at h
 . assumption
 . cases h
def flatB (P : Program) (e : TypeId) : Option Nat:=
 match P.underlying e with
 | some (.struct fs) =>
   if fs.toList.all (fun f => P.cellsOf f.type == 1 && match P.underlying f.type with | some .bool => true | some (.int _) => true | some .string => true | _ => false) = true then
    (fs.toList.find? fun f => isStrB P f.type).map (·.offset)
   else none
 | _ => none
def rvV (P : Program) (k : Nat) (e : TypeId) (l : List D) : V -> V
 | .c v => .c v
 | .bx n o => .bx n o
 | .sl e' l' => if (flatB P e').isSome then .sl e' l' else .any
 | .own k' _ l' => if k' = k /\ l'.length = l.length then .own k e l.reverse else .any
 | _ => .any
def rvR (P : Program) (k : Nat) (e : TypeId) (l : List D) (m : Nat) : Res -> Option Res
 | .box t vs => some (.box t (vs.map (rvV P k e l)))
 | .tok e' n => if m = k then some (.tok e' n) else none
 | .bld _ _ _ => none
def Vst.rv {nn : Nat} (P : Program) (st : Vst nn) (k : Nat) (e : TypeId) (l : List D) : Vst nn:=⟨fun i => rvV P k e l (st.tm i),fun m => (st.rs m).bind (rvR P k e l m)⟩
section
variable {P : Program} {s : Sg} {w w' : World}
theorem find_mem {α : Type} {p : α -> Bool} {l : List α} {a : α} (h : l.find? p = some a) : ∃ j : Nat,l[j]? = some a /\ p a = true:=by
 have h1:=List.mem_of_find?_eq_some h
 obtain ⟨j,hj,rfl⟩:=List.getElem_of_mem h1
 exact ⟨j,List.getElem?_eq_getElem hj,List.find?_some h⟩
theorem flat_apart {k e : Nat} {q : Nat} {A : Option Addr} {l : List D} {F : Nat -> Nat -> Prop} {g : Nat} (h : SlF P w F k e A l) (hq : flatB P e = some q) (hg : ∀ o,F g o -> ∃ n,w.cell? ⟨g,o,none⟩ = some (.int .i64 n)) : SlF P w (fun b o => F b o /\ b ≠ g) k e A l:=fun hl hc => by
 obtain ⟨b,off,hA,hi⟩:=h hl hc
 unfold flatB at hq
 split at hq
 . rename_i fs hu
   split at hq
   . rename_i hall
     obtain ⟨f,hf,rfl⟩:=Option.map_eq_some_iff.1 hq
     obtain ⟨j,hj,hs⟩:=find_mem hf
     have hs:=isStrB_ok hs
     have hbg : b ≠ g:=by
      intro e1
      subst e1
      obtain ⟨ys,y1,y2,y3⟩:=hi 0 hl
      cases k with
      | zero => exact y3.elim
      | succ k =>
        unfold RepF at y3
        simp only [hu] at y3
        have h4:=y3.2 j f (by simpa using hj)
        cases k with
        | zero => exact h4.elim
        | succ k =>
          unfold RepF at h4
          simp only [hs] at h4
          have h5 : ys[f.offset]? = some (.string (((gD l 0).f j).s)):=by
           have h6 : ((ys.drop f.offset).take (P.cellsOf f.type))[0]? = some (.string (((gD l 0).f j).s)):=by rw [h4.1]; rfl
           rw [List.getElem?_take] at h6
           split at h6
           . rwa [List.getElem?_drop] at h6
           . cases h6
          obtain ⟨h7,h8⟩:=y2 _ _ h5
          obtain ⟨n,hn⟩:=hg _ h8
          rw [hn] at h7
          cases h7
     refine ⟨b,off,hA,fun i hil => ?_⟩
     obtain ⟨ys,y1,y2,y3⟩:=hi i hil
     refine ⟨ys,y1,fun j u hu => ⟨(y2 j u hu).1,(y2 j u hu).2,hbg⟩,?_⟩
     cases k with
     | zero => exact y3.elim
     | succ k =>
       unfold RepF at y3 |-
       simp only [hu] at y3 |-
       refine ⟨y3.1,fun j' f' hf' => ?_⟩
       have h4:=y3.2 j' f' hf'
       have hm : f' ∈ fs.toList:=List.mem_of_getElem? (by simpa using hf')
       have h5:=(List.all_eq_true.1 hall) f' hm
       cases k with
       | zero => exact h4.elim
       | succ k =>
         unfold RepF at h4 |-
         split at h4 <;> rename_i hu' <;> simp only [hu'] at h5 |- <;> first | exact h4 | (simp at h5; done) | trivial
   . cases hq
 . cases hq
end
section
variable {X : Cx} {nn : Nat} {st : Vst nn} {o : Oper} {ops : Array Oper} {rest : List Oper} {d : Option Tmp} {KK : Vst nn -> Prop}
theorem cells_int (k : Nat) (q : IntKind) {P : Program} {w : World} {F : Nat -> Nat -> Prop} {e : TypeId} {ys : List Value} {x : D} (hu : P.underlying e = some (.int q)) (h : RepF P w F k e ys x) : ys = [.int q x.n] /\ (Lit.int q x.n).wf = true:=by
 cases k with
 | zero => exact h.elim
 | succ k => unfold RepF at h; simp only [hu] at h; exact h
theorem gD_reverse {l : List D} {i : Nat} (h : i < l.length) : gD l.reverse i = gD l (l.length - 1 - i):=by
 rw [zEm (by simpa using h),zEm (by omega),List.getElem_reverse]
theorem zIw {P : Program} {s s' : Sg} {w w' : World} {f : V -> V} (h : ∀ v x,rel P s w v x -> rel P s' w' (f v) x) : ∀ (vs : List V) (us : List Value),relL P s w vs us -> relL P s' w' (vs.map f) us
 | [],[],_ => by simp [relL]
 | [],_ :: _,hh => by simp [relL] at hh
 | _ :: _,[],hh => by simp [relL] at hh
 | v :: vs,u :: us,hh => by
   rw [relL] at hh
   rw [List.map_cons,relL]
   exact ⟨h v u hh.1,zIw h vs us hh.2⟩
theorem rv_inv {k : Nat} {e : TypeId} {l : List D} {s s' : Sg} {w w' : World} {a : Act} {u : Value} (hX : ∀ b o,X.s0.F b o -> b < X.w0.heap.size /\ ¬ X.pas b) (hI : Inv X st s w a) (g : Nat -> Prop) (hg : ∀ b,g b -> s.tb k = some b)
 (hr : st.rs k = some (.tok e l.length)) (hu : u = (s.tk k).1) (hsame : ∀ b,¬ g b -> w'.heap[b]? = w.heap[b]?) (hfr : Frm g w w') (hgF : ∀ b o,g b -> s.F b o -> ∃ n,w.cell? ⟨b,o,none⟩ = some (.int .i64 n))
 (hbx : s'.bx = s.bx) (htb : s'.tb = s.tb) (htk : s'.tk = s.tk) (hF1 : ∀ b o,¬ g b -> (s'.F b o ↔ s.F b o)) (hF2 : ∀ b o,s'.F b o -> (w'.cell? ⟨b,o,none⟩).isSome) (htok : Holds X.P s' w' k (.tok e l.length)) (hsl : SlV X.P w' s'.F e l.reverse u) :
 Inv X (st.rv X.P k e l) s' w' a:=by
 have hgb : ∀ b,g b -> X.w0.heap.size <= b \/ X.pas b:=fun b hb => hI.mem.bs k _ b hr (hg b hb)
 have hkeep : Keeps (fun b o => s.F b o /\ ¬ g b) s'.F w w':=fun b o hb => ⟨World.cell?_of_block (w:=w) (hsame b hb.2),(hF1 b o hb.2).2 hb.1⟩
 have hone : ∀ b b',g b -> g b' -> b = b':=fun b b' h h' => by have:=(hg b h).symm.trans (hg b' h'); cases this; rfl
 have hrel : ∀ v x,rel X.P s w v x -> rel X.P s' w' (rvV X.P k e l v) x:=fun v x h => by
  cases v with
  | c y => simpa [rvV,rel] using h
  | bx n o => simp only [rvV]; rw [rel] at h |-; rw [hbx]; exact h
  | sl e' l' =>
    simp only [rvV]
    split
    . rename_i hf
      obtain ⟨q,hq⟩:=Option.isSome_iff_exists.1 hf
      rw [rel] at h |-
      obtain ⟨k',A,c,h1,h2,h3,h4,h5⟩:=h
      refine ⟨k',A,c,h1,h2,h3,h4,?_⟩
      by_cases hgx : ∃ b,g b
      . obtain ⟨b,hb⟩:=hgx
        have h6:=flat_apart h5 hq (g:=b) fun o ho => hgF b o hb ho
        exact h6.turn fun b' o' hb' => hkeep b' o' ⟨hb'.1,fun hc => hb'.2 (hone _ _ hc hb)⟩
      . exact h5.turn fun b' o' hb' => hkeep b' o' ⟨hb',fun hc => hgx ⟨_,hc⟩⟩
    . simp [rel]
  | own k' e' l' =>
    simp only [rvV]
    split
    . rename_i hc
      obtain ⟨rfl,hc⟩:=hc
      rw [rel] at h |-
      obtain ⟨h1,h2,h3⟩:=h
      have ht:=(hI.mem.ho k' _ hr).1
      have hx : x = u:=by rw [hu]; exact h3 (by omega)
      subst hx
      refine ⟨hsl,?_,?_⟩ <;> rw [htk,List.length_reverse]
      . omega
      . intro _; exact hu
    . simp [rel]
  | _ => simp [rvV,rel]
 have hget : ∀ m ρ',(st.rv X.P k e l).rs m = some ρ' -> ∃ ρ,st.rs m = some ρ /\ rvR X.P k e l m ρ = some ρ' /\ s'.bk m ρ' = s.bk m ρ:=fun m ρ' h => by
  obtain ⟨ρ,h1,h2⟩:=Option.bind_eq_some_iff.1 h
  refine ⟨ρ,h1,h2,?_⟩
  cases ρ with
  | box t vs => simp only [rvR,Option.some.injEq] at h2; subst h2; funext x; simp [Sg.bk,hbx]
  | tok e' n => simp only [rvR] at h2; split at h2 <;> cases h2; funext x; simp [Sg.bk,htb]
  | bld _ _ _ => simp [rvR] at h2
 refine ⟨hI.sz,fun i hi => hrel _ _ (hI.tm i hi),hI.df,hI.fr.trans hfr hgb,?_,?_,⟨hF2,?_,?_,?_⟩,?_⟩
 . intro b o hb
   have h1:=hX b o hb
   have hng : ¬ g b:=fun hgb' => (hgb b hgb').elim (fun h => by omega) h1.2
   have h2:=hI.kp b o hb
   exact ⟨(World.cell?_of_block (w:=w) (hsame b hng)).trans h2.1,(hF1 b o hng).2 h2.2⟩
 . intro b o hb hnp hF
   have hng : ¬ g b:=fun hgb' => (hgb b hgb').elim (fun h => by omega) hnp
   exact hI.nf b o hb hnp ((hF1 b o hng).1 hF)
 . intro m ρ' hm
   obtain ⟨ρ,h1,h2,-⟩:=hget m ρ' hm
   cases ρ with
   | box t vs =>
     simp only [rvR,Option.some.injEq] at h2
     subst h2
     obtain ⟨b,cs,q1,q2,q3,q4⟩:=hI.mem.ho m _ h1
     have hng : ¬ g b:=fun hgb' => by
      have:=hI.mem.dj m k _ _ b h1 hr q1 (hg b hgb')
      subst this
      rw [h1] at hr; cases hr
     exact ⟨b,cs,by rw [hbx]; exact q1,(hsame b hng).trans q2,zIw hrel _ _ q3,fun o ho => q4 o ((hF1 b o hng).1 ho)⟩
   | tok e' n =>
     simp only [rvR] at h2
     split at h2
     . rename_i hmk; subst hmk; cases h2; rw [h1] at hr; cases hr; exact htok
     . cases h2
   | bld _ _ _ => simp [rvR] at h2
 . intro m ρ' b hm hb
   obtain ⟨ρ,h1,-,h3⟩:=hget m ρ' hm
   exact hI.mem.bs m ρ b h1 (by rw [<- h3]; exact hb)
 . intro m m' ρ ρ' b hm hm' hb hb'
   obtain ⟨ρ1,h1,-,h3⟩:=hget m ρ hm
   obtain ⟨ρ2,h4,-,h5⟩:=hget m' ρ' hm'
   exact hI.mem.dj m m' ρ1 ρ2 b h1 h4 (by rw [<- h3]; exact hb) (by rw [<- h5]; exact hb')
 . intro i
   have:=hI.pe i
   rw [hbx,htk]; exact this
theorem opOk_rev {K : Vst nn -> Prop} {k : Nat} {e : TypeId} {l : List D} (hX : ∀ b o,X.s0.F b o -> b < X.w0.heap.size /\ ¬ X.pas b) (hP : X.P = Tryz.prog) (he : X.P.underlying e = some (.int .i64)) (hec : X.P.cellsOf e = 1) (h : act1 X.P st.rs (ev st) o.op = .call 313 [.own k e l])
 (hr : st.rs k = some (.tok e l.length)) (hl : l.length <= 1000000000) (hK : K ((st.rv X.P k e l).put o.dst (.tup []))) : OpOk X o st K:=by
 intro s w a hI N Q hPQ hN
 obtain ⟨us,h1,h2⟩:=zEJ h hI.ev (fun _ => rfl)
 obtain ⟨u,rfl,h3⟩:=rel_one h2
 rw [rel] at h3
 obtain ⟨h4,h5,h6⟩:=h3
 obtain ⟨t1,t2⟩:=hI.mem.ho k _ hr
 have hu : u = (s.tk k).1:=h6 t1.symm
 unfold Oper.wp
 rw [h1,Oper.upon_enter]
 obtain ⟨k0,A,c,hua,q2,q3,q4,q5⟩:=h4
 rw [hP]
 have htup : ∀ s' w',rel X.P s' w' (.tup []) (.tuple #[]):=fun s' w' => by rw [rel]; exact ⟨#[],rfl,by simp [relL]⟩
 by_cases hl0 : l.length = 0
 . have hcall:=Tryz.slices_Reverse_int_empty A c w
   rw [hua,hl0]
   refine hcall.mono ?_
   rintro _ w' ⟨rfl,rfl⟩
   have hnil : l = []:=List.eq_nil_of_length_eq_zero hl0
   refine hN _ s w' _ ((rv_inv hX hI (fun _ => False) (fun _ h => h.elim) hr hu (fun _ _ => rfl) (Frm.refl _ _) (fun _ _ h => h.elim) rfl rfl rfl (fun _ _ _ => Iff.rfl) hI.mem.fx (hI.mem.ho k _ hr) ?_).put o.dst (htup _ _)) hK
   refine ⟨k0,A,c,?_,?_,q3,q4,fun h => ?_⟩
   . rw [hua,List.length_reverse]
   . rw [List.length_reverse]; exact q2
   . rw [List.length_reverse] at h; omega
 . rcases t2 with ⟨-,-,t3⟩ | ⟨g,c',cur,t3,t4,t5,t6,t7,t8,t9⟩
   . exact (hl0 t3).elim
   . rw [hu,t4] at hua
     injection hua with e1 e2 e3
     subst e3
     obtain ⟨b,off,e4,hat⟩:=q5 (by omega) (by rw [hec]; omega)
     rw [e4] at e1
     injection e1 with e1
     injection e1 with e5 e6
     subst e5 e6
     have hcell : ∀ i,i < l.length -> w.cell? ⟨g,i,none⟩ = some (.int .i64 (gD l i).n) /\ (Lit.int .i64 (gD l i).n).wf = true:=fun i hi => by
      obtain ⟨ys,y1,y2,y3⟩:=hat i hi
      obtain ⟨rfl,hw⟩:=cells_int _ _ he y3
      have:=(y2 0 _ rfl).1
      rw [hec] at this
      simp only [Nat.zero_add,Nat.mul_one,Nat.add_zero] at this
      exact ⟨this,hw⟩
     have hz : (l.map (·.n)).length = l.length:=List.length_map ..
     have hget : ∀ j,j < l.length -> (l.map (·.n)).getD j 0 = (gD l j).n:=fun j hj => by
      rw [List.getD_eq_getElem?_getD,List.getElem?_map,List.getElem?_eq_getElem hj,zEm hj]; rfl
     have hcall:=Tryz.slices_Reverse_int_cells g 0 l.length c' (l.map (·.n)) w (by rw [hz]; exact Nat.le_refl _) (by omega) (fun j hj => by rw [hz] at hj; rw [Nat.zero_add,hget j hj]; exact (hcell j hj).1) (fun j hj => Lib.frozen_of_heap t5 _)
     rw [hu,t4]
     refine hcall.mono ?_
     rintro _ w' ⟨rfl,q,rfl⟩
     have hvs : ((l.map (·.n)).take l.length).reverse.map (Value.int .i64) = l.reverse.map fun x => Value.int .i64 x.n:=by
      rw [List.take_of_length_le (by rw [hz]; exact Nat.le_refl _),<- List.map_reverse,List.map_map]; rfl
     rw [hvs]
     have hlen : (l.reverse.map fun x => Value.int .i64 x.n).length = l.length:=by simp
     have hoth : ∀ (vs : List Value) (o : Nat) (w : World) (k : Nat),k ≠ g -> (w.setCells g o vs).heap[k]? = w.heap[k]?:=fun vs => by
      induction vs with
      | nil => intro _ _ _ _; rfl
      | cons v r ih => intro o w k hk; rw [World.setCells,ih _ _ _ hk,heap_setCell_other _ _ _ _ hk]
     have hrow : ∀ (vs : List Value) (o : Nat) (w : World) (cur : Array Value),w.heap[g]? = some (.cells cur e (0,0)) -> ∃ cur',(w.setCells g o vs).heap[g]? = some (.cells cur' e (0,0)) /\ cur'.size = cur.size:=fun vs => by
      induction vs with
      | nil => intro _ _ cur h; exact ⟨cur,h,rfl⟩
      | cons v r ih =>
        intro o w cur h
        obtain ⟨cur',h1,h2⟩:=ih (o + 1) _ _ (heap_setCell_same w g o cur e v h)
        exact ⟨cur',h1,by rw [h2]; simp⟩
     have hrest : ∀ (vs : List Value) (o : Nat) (w : World),(w.setCells g o vs).os = w.os /\ (w.setCells g o vs).tape = w.tape /\ (w.setCells g o vs).output = w.output /\ (w.setCells g o vs).heap.size = w.heap.size:=fun vs => by
      induction vs with
      | nil => intro _ _; exact ⟨rfl,rfl,rfl,rfl⟩
      | cons v r ih =>
        intro o w
        obtain ⟨h1,h2,h3,h4⟩:=ih (o + 1) (w.setCell ⟨g,o,none⟩ v)
        exact ⟨h1,h2,h3,by rw [World.setCells,h4]; simp [World.setCell]⟩
     have t5' : (w.drewN q).heap[g]? = some (.cells cur e (0,0)):=t5
     obtain ⟨cur',r1,r2⟩:=hrow (l.reverse.map fun x => Value.int .i64 x.n) 0 (w.drewN q) cur t5'
     obtain ⟨z1,z2,z3,z4⟩:=hrest (l.reverse.map fun x => Value.int .i64 x.n) 0 (w.drewN q)
     have hin:=World.cell?_setCells_in g (l.reverse.map fun x => Value.int .i64 x.n) 0 (w.drewN q) (fun j hj => by
      rw [hlen] at hj
      have : (w.drewN q).cell? ⟨g,0 + j,none⟩ = w.cell? ⟨g,j,none⟩:=by rw [Nat.zero_add]; rfl
      rw [this,(hcell j hj).1]; rfl)
     have hin2 : ∀ i,i < l.length -> ((w.drewN q).setCells g 0 (l.reverse.map fun x => Value.int .i64 x.n)).cell? ⟨g,i,none⟩ = some (.int .i64 (gD l.reverse i).n):=fun i hi => by
      have:=hin i (by rw [hlen]; exact hi)
      rw [Nat.zero_add] at this
      rw [this,List.getElem_map,zEm (by simpa using hi)]
     have hother : ∀ b,¬ b = g -> ((w.drewN q).setCells g 0 (l.reverse.map fun x => Value.int .i64 x.n)).heap[b]? = w.heap[b]?:=fun b hb => hoth _ _ _ _ hb
     generalize (w.drewN q).setCells g 0 (l.reverse.map fun x => Value.int .i64 x.n) = w' at *
     have hF : ∀ b o,¬ b = g -> ((if b = g then o < l.length else s.F b o) ↔ s.F b o):=fun b o hb => by rw [if_neg hb]
     refine hN _ { s with F:=fun b o => if b = g then o < l.length else s.F b o } w' _ ((rv_inv (s':={ s with F:=fun b o => if b = g then o < l.length else s.F b o }) (w':=w') hX hI (fun b => b = g) (fun b hb => by rw [hb]; exact t3) hr hu hother ⟨z1,z2,z3,by rw [z4]; exact Nat.le_refl _,fun k _ hk => hother k hk⟩ ?_ rfl rfl rfl hF ?_ ?_ ?_).put o.dst (htup _ _)) hK
     . rintro b oo rfl hFo
       have hlt : oo < l.length:=by
        rcases Nat.lt_or_ge oo l.length with h | h
        . exact h
        . exact (t9 oo (by rw [hec]; omega) hFo).elim
       exact ⟨_,(hcell oo hlt).1⟩
     . intro b oo hb
       by_cases e7 : b = g
       . subst e7
         have hb : oo < l.length:=by simpa using hb
         rw [hin2 oo hb]; rfl
       . rw [World.cell?_of_block (w:=w) (hother b e7)]
         exact hI.mem.fx b oo ((hF b oo e7).1 hb)
     . refine ⟨t1,.inr ⟨g,c',cur',t3,t4,r1,t6,t7,by rw [r2]; exact t8,fun oo ho hb => ?_⟩⟩
       have hb : oo < l.length:=by simpa using hb
       rw [hec] at ho; omega
     . rw [hu,t4]
       refine ⟨1,some ⟨g,0,none⟩,c',by rw [List.length_reverse],by rw [List.length_reverse]; exact q2,q3,fun h => (by cases h),fun _ _ => ⟨g,0,rfl,fun i hi => ?_⟩⟩
       rw [List.length_reverse] at hi
       refine ⟨[.int .i64 (gD l.reverse i).n],by rw [hec]; rfl,fun j v hj => ?_,?_⟩
       . cases j with
         | zero =>
           simp only [List.getElem?_cons_zero,Option.some.injEq] at hj
           subst hj
           rw [hec]
           simp only [Nat.zero_add,Nat.mul_one,Nat.add_zero]
           exact ⟨hin2 i hi,by simpa using hi⟩
         | succ j => simp at hj
       . unfold RepF
         simp only [he]
         refine ⟨trivial,?_⟩
         rw [gD_reverse hi]
         exact (hcell _ (by omega)).2
theorem s_rev {k : Nat} {e : TypeId} {l : List D} (hX : ∀ b o,X.s0.F b o -> b < X.w0.heap.size /\ ¬ X.pas b) (hP : X.P = Tryz.prog) (he : X.P.underlying e = some (.int .i64)) (hec : X.P.cellsOf e = 1) (hg : o.guard = none) (hd : o.dst = d) (h : act1 X.P st.rs (ev st) o.op = .call 313 [.own k e l])
 (hr : st.rs k = some (.tok e l.length)) (hK : AWo X ops rest ((st.rv X.P k e l).put d (.tup [])) KK) (hl : l.length <= 1000000000) : AWo X ops (o :: rest) st KK:=
 zAC hg (opOk_rev hX hP he hec h hr hl (by rw [hd]; exact hK))
end
theorem ace_enter1 {e : Ge} {P : Program} {f : FuncId} {fn : Func} {c : Code} {args : List V} {tR : TypeId} {cs : List V} {out : Out} (nn : Nat) (hf : P.funcs[f]? = some fn) (hb : fn.body = some c) (hnn : args.length + (fn.ntmps - args.length) = nn)
 (h : ∀ pas s w he hp,(∀ b o,s.F b o -> b < w.heap.size /\ ¬ pas b) -> AW ⟨P,pas,s,w,e,he,hp,fun pv _ _ => out = .die pv,[]⟩ c (st0b nn args [.box tR cs]) (endKE P fn.results out)) : ACE e P f args [.box tR cs] out:=by
 have hI : ∀ (pas : Nat -> Prop) (s : Sg) (w : World) (us : Array Value) (he : e.E w) (hp : ∀ k,k < e.G -> ¬ pas k),relL P s w args us.toList -> MemOk P pas w.heap.size (rsOf [.box tR cs]) s w ->
  Inv ⟨P,pas,s,w,e,he,hp,fun pv _ _ => out = .die pv,[]⟩ (st0b nn args [.box tR cs]) s w { tmps:=us ++ Array.replicate (fn.ntmps - us.size) undef,defers:=[] }:=by
  intro pas s w us he hp hus hmem
  have hlen:=hus.length
  have hl2 : us.toList.length = us.size:=by simp
  refine ⟨by simp; omega,fun i hi => ?_,rfl,Frm.refl _ _,Keeps.refl,fun _ _ _ _ h => h,hmem,PE.refl _⟩
  show rel P s w (args.getD i .any) _
  by_cases hi2 : i < args.length
  . have h1 : args[i]? = some args[i]:=List.getElem?_eq_getElem hi2
    have hi3 : i < us.size:=by omega
    have h2 : us.toList[i]? = some us[i]:=by rw [Array.getElem?_toList]; exact Array.getElem?_eq_getElem hi3
    rw [List.getD_eq_getElem?_getD,h1]
    have : (us ++ Array.replicate (fn.ntmps - us.size) undef).getD i undef = us[i]:=by
     rw [Array.getD_eq_getD_getElem?,Array.getElem?_append_left hi3,Array.getElem?_eq_getElem hi3]; rfl
    rw [this]
    exact hus.get i _ _ h1 h2
  . rw [List.getD_eq_getElem?_getD,List.getElem?_eq_none (by omega)]
    simp [rel]
 -- only the box may turn
 have hnar : ∀ (pas : Nat -> Prop) (s : Sg) (w : World),MemOk P pas w.heap.size (rsOf [.box tR cs]) s w -> MemOk P (fun b => pas b /\ ∀ o,¬ s.F b o) w.heap.size (rsOf [.box tR cs]) s w:=fun pas s w hm => by
  refine ⟨hm.fx,hm.ho,fun n ρ b hn hb => ?_,hm.dj⟩
  refine (hm.bs n ρ b hn hb).imp id fun hp => ⟨hp,?_⟩
  obtain ⟨i,rfl,hi⟩:=zAF hn
  cases i with
  | zero =>
    simp only [List.getElem?_cons_zero,Option.some.injEq] at hi
    subst hi
    obtain ⟨b',cs',h1,-,-,h4⟩:=hm.ho _ _ hn
    rw [show s.bx (pn 0) = some b from hb] at h1
    cases h1
    exact h4
  | succ i => simp at hi
 have hFX : ∀ (pas : Nat -> Prop) (s : Sg) (w : World),MemOk P pas w.heap.size (rsOf [.box tR cs]) s w -> ∀ b o,s.F b o -> b < w.heap.size /\ ¬ (pas b /\ ∀ o,¬ s.F b o):=fun pas s w hm b o hF => by
  obtain ⟨v,hv⟩:=Option.isSome_iff_exists.1 (hm.fx b o hF)
  exact ⟨block_lt_of_cell hv,fun hh => hh.2 o hF⟩
 have hwide : ∀ (pas : Nat -> Prop) (s : Sg) (w w' : World),Frm (fun b => pas b /\ ∀ o,¬ s.F b o) w w' -> Frm pas w w':=fun pas s w w' h => ⟨h.os,h.tape,h.output,h.size,fun k hk hp => h.block k hk fun hh => hp hh.1⟩
 cases out with
 | ret r bs' =>
   intro pas s w us hus hmem he hp
   have hmem':=hnar pas s w hmem
   have hp' : ∀ k,k < e.G -> ¬ (pas k /\ ∀ o,¬ s.F k o):=fun k hk hh => hp k hk hh.1
   refine calls_of_wp hf hb (Code.wp_mono (fun en a' w' ⟨st',s',hI',hK⟩ => ?_) (h _ s w he hp' (hFX pas s w hmem) s w _ (hI _ s w us he hp' hus hmem')))
   have fin : (∃ r' bs2,Out.ret r bs' = .ret r' bs2 /\ retV P st' fn.results.toList r' /\ zDK st' 0 bs2) -> a'.defers = [] /\ ∃ v,(results fn a'.tmps).run P w' = .ok v w' /\ ∃ v' s2,Ending.returned v = .returned v' /\ Frm pas w w' /\ Keeps s.F s2.F w w' /\ (∀ b o,b < w.heap.size -> ¬ pas b -> s2.F b o -> s.F b o) /\ MemOk P pas w.heap.size (rsOf bs') s2 w' /\ PE s s2 /\ rel P s2 w' r v':=fun ⟨r',bs2,e1,hv,hh⟩ => by
    cases e1
    obtain ⟨u,h1,h2⟩:=zEY (X:=⟨P,fun b => pas b /\ ∀ o,¬ s.F b o,s,w,e,he,hp',fun pv _ _ => Out.ret r bs' = .die pv,[]⟩) hv hI'
    have hm2 : MemOk P (fun b => pas b /\ ∀ o,¬ s.F b o) w.heap.size (rsOf bs') s' w':=hI'.mem.sub fun n ρ hn => by
     obtain ⟨i,rfl,hi⟩:=zAF hn
     have:=zCg hh i ρ hi
     rwa [Nat.zero_add] at this
    refine ⟨hI'.df,u,h1,u,s',rfl,hwide _ _ _ _ hI'.fr,hI'.kp,fun b o hb' hnp hF => hI'.nf b o hb' (fun hh => hnp hh.1) hF,⟨hm2.fx,hm2.ho,fun n ρ b hn hb => (hm2.bs n ρ b hn hb).imp id fun hh => hh.1,hm2.dj⟩,hI'.pe,h2⟩
   rcases hK with hK | ⟨_,_,hK⟩
   . cases en
     case normal => exact fin hK
     case ret => exact fin hK
     all_goals exact hK.elim
   . cases hK
 | die pv =>
   intro pas s w us hus hmem he hp
   have hmem':=hnar pas s w hmem
   have hp' : ∀ k,k < e.G -> ¬ (pas k /\ ∀ o,¬ s.F k o):=fun k hk hh => hp k hk hh.1
   refine calls_of_wp hf hb (Code.wp_mono (fun en a' w' ⟨st',s',hI',hK⟩ => ?_) (h _ s w he hp' (hFX pas s w hmem) s w _ (hI _ s w us he hp' hus hmem')))
   rcases hK with hK | ⟨pv',rfl,hK⟩
   . cases en
     case normal => obtain ⟨_,_,e1,_⟩:=hK; cases e1
     case ret => obtain ⟨_,_,e1,_⟩:=hK; cases e1
     all_goals exact hK.elim
   . cases hK
     exact ⟨hI'.df,rfl,s'.F,hwide _ _ _ _ hI'.fr,hI'.kp,fun b o hb' hnp hF => hI'.nf b o hb' (fun hh => hnp hh.1) hF,hI'.mem.fx⟩
end Go.Proofs.YthjiclhfhjdjpaaGreatDoor
namespace Go.Proofs.YthjiclhfhjdjpaaGreatDoor
open Go.RowKit
attribute [local irreducible] wpList Calls Code.wp AW AWo OpOk seqK zAI zAO loopK endK AC zp Yld Sub
attribute [local irreducible] ACB ACX ACE absLexG YldG
theorem zJS : z6 Tryz.prog 32 = some (3,8):=by kernel_rfl
theorem zAo {x : PS} (h : En x) (s : List UInt8) : ACB EN5 Tryz.prog 99 [.bx (pn 0) 0,.c (.string (bs s))] [boxP x] (.c (.bool (isS x s))) [boxP x]:=by
 obtain ⟨t,r,ht⟩:=h.cons
 exact zIm x t r ht s
theorem zBI {x : PS} (h : En x) : ACB EN5 Tryz.prog 103 [.bx (pn 0) 0] [boxP x] (.agg (tokC (hdT x))) [boxP (nxT x)]:=by
 obtain ⟨t,r,ht⟩:=h.cons
 rw [zAn ht]
 exact zF7 x t r ht
theorem zFF {x : PS} (h : En x) (s : List UInt8) : ACE EN5 Tryz.prog 177 [.bx (pn 0) 0,.c (.string (bs s))] [boxP x] (outQ (fun _ => .agg (tokC (hdT x))) (takeQ s x)):=by
 obtain ⟨t,r,ht⟩:=h.cons
 rw [zAn ht]
 exact take_ace x t r ht s
theorem zCd {x : PS} (h : En x) : ACE EN5 Tryz.prog 179 [.bx (pn 0) 0] [boxP x] (outQ (fun n => .c (.string (bs n))) (nameQ x)):=by
 obtain ⟨t,r,ht⟩:=h.cons
 exact name_ace x t r ht
theorem zDn {x : PS} (h : En x) (n most : Nat) : ACE EN5 Tryz.prog 101 [.bx (pn 0) 0,.c (.int .i64 n),.c (.int .i64 most)] [boxP x] (outQ (fun _ => .tup []) (limQ n most x)):=by
 obtain ⟨t,r,ht⟩:=h.cons
 exact limit_ace x t r ht n most
noncomputable def HiO (y : PS) (n : Nat) : Vst 38:=
 stS 38 [(0,.bx (pn 0) 0),(2,.bx 2 0),(3,.bx 3 0),(4,.c (.int .i64 (n : Int)))] [(pn 0,boxP y),(2,.box 71 [.c (.string ⟨#[]⟩),.c (.slice none 0 0)]),(3,.box 71 [.c (.string ⟨#[]⟩),.c (.slice none 0 0)])]
noncomputable def HiC (y : PS) (nm : List UInt8) (n : Nat) (w : List Int) : Vst 38:=
 stS 38 [(0,.bx (pn 0) 0),(2,.bx 2 0),(3,.bx 3 0),(4,.c (.int .i64 (n : Int)))] [(pn 0,boxP y),(2,.box 71 [.c (.string ⟨#[]⟩),.c (.slice none 0 0)]),(3,.box 71 [.c (.string (bs nm)),.own 900 3 ((w.map D.int).reverse)]),(900,.tok 3 ((w.map D.int).reverse).length)]
noncomputable def HiE (y : PS) (nm : List UInt8) (w : List Int) : Vst 38:=
 stS 38 [(0,.bx (pn 0) 0),(2,.bx 2 0),(3,.bx 3 0)] [(pn 0,boxP y),(2,.box 71 [.c (.string ⟨#[]⟩),.c (.slice none 0 0)]),(3,.box 71 [.c (.string (bs nm)),.own 900 3 (w.map D.int)])]
theorem flat_tok : (flatB Tryz.prog 143).isSome = true:=by kernel_rfl
theorem inner_ace (x : PS) (h : En x) (hlen : x.ts.length <= 100000) : ACE EN5 Tryz.prog 256 [.bx (pn 0) 0] [boxP x] (outQ (fun t => .agg [.c (.string (bs t.1)),.sl 3 (t.2.map D.int)]) (innerQ x)):=by
 refine ace_enter1 (fn:=Tryz.f256) 38 Tryz.func256 rfl rfl ?_
 intro pas w0 w he hp hX
 have hs:=zAo h [91]
 repeat' (first
|refine zA ?_
|refine zB ?_
|refine zG ?_
|apply aw_1
 conv => whnf
 refine ⟨?_,trivial⟩
|apply s_1
 conv => whnf; arg 1; arg 4; arg 3; whnf
 refine ⟨?_,?_⟩
|exact trivial)
 refine zu (fun j st => ∃ y n,En y /\ y.ts.length <= j /\ n + y.ts.length <= x.ts.length /\ openQ x.ts.length x = ((openQ j y).1 + n,(openQ j y).2) /\ Sub (cxE EN5 Tryz.prog pas w0 w he hp (outQ (fun t => V.agg [.c (.string (bs t.1)),.sl 3 (t.2.map D.int)]) (innerQ x))) st (HiO y n)) x.ts.length ⟨x,0,h,Nat.le_refl _,by omega,rfl,?_⟩ ?_
 . exact Sub.live ⟨rfl,rfl,rfl,rfl,trivial⟩ ⟨rfl,rfl,rfl,trivial⟩
 rintro j st ⟨y,n,hy,hyj,hyl,hO,hsub⟩
 refine zn hsub ?_
 have hs:=zAo hy [91]
 have hn:=zBI hy
 have hnm:=zCd hy
 clear hsub
 obtain ⟨t0,r0,ht0⟩:=hy.cons
 cases j with
 | zero => rw [ht0] at hyj; simp at hyj
 | succ j =>
 repeat' (first
|apply s_m zi zN rfl
 . conv => lhs; whnf
 . conv => lhs; whnf
 . rfl
 . conv => lhs; whnf; arg 1; whnf
 . first | exact z7 _
 . first | exact hs | exact hn
 . exact fun _ => rfl
 . exact fun _ => rfl
|apply s_pr zi zN rfl
 . conv => lhs; whnf
 . conv => lhs; whnf
 . rfl
 . conv => lhs; whnf; arg 1; whnf
 . first | exact z7 _
 . first | exact hnm
 . exact fun _ => rfl
 . first | (intro _ _; simp only [renL,renV,ren_cells]; done) | exact fun _ _ => rfl
 refine fun ee hq => ?_
 change _ = Out.die _
 rotate_left 1
 refine fun aa xx hq => ?_
 first | (replace hq:=zAh hq; obtain ⟨hq,rfl⟩:=hq) | (cases hq; have hq:=True.intro) | skip
|refine zA ?_
|refine zB ?_
|refine zG ?_
|refine zb ?_
|apply aw_1
 conv => whnf
 refine ⟨?_,trivial⟩
|apply s_1
 conv => whnf; arg 1; arg 4; arg 3; whnf
 refine ⟨?_,?_⟩
|apply zI rfl rfl rfl
 . conv => lhs; whnf
 . conv => lhs; whnf; arg 1; whnf
 . conv => lhs; whnf; arg 1; whnf
 . exact ⟨by kernel_rfl,by kernel_rfl⟩
 . rfl
|refine zg (by conv => lhs; whnf) ?_ ?_ <;> intro hb
|refine zP ?_
|refine zM rfl ?_
|refine zW ?_
|exact trivial)
 . have hsg:=hy.sg hb
   refine zL (j':=j) (by omega) ⟨nxT y,n + 1,hsg.1,by omega,by omega,?_,Sub.live ⟨rfl,rfl,rfl,rfl,trivial⟩ ⟨rfl,rfl,rfl,trivial⟩⟩
   rw [hO,openQ,if_pos hb]
   show ((openQ j (nxT y)).1 + 1 + n,_) = ((openQ j (nxT y)).1 + (n + 1),_)
   rw [Nat.add_assoc,Nat.add_comm 1 n]
 . exact zS (by omega)
 . have hO2 : openQ x.ts.length x = (n,y):=by rw [hO,openQ,if_neg (by rw [hb]; decide)]; simp
   have hI : innerQ x = zX (closeQ n [] xx) fun w z => .ok ((aa,w),z):=by
    unfold innerQ
    rw [hO2]
    show zX (nameQ y) _ = _
    rw [hq]; rfl
   have hxx:=hy.name hq
   clear hs hn hnm hO hO2
   refine zn (Sub.ownF (m:=3) (q:=900) (i:=1) (e:=3) rfl (by decide) rfl rfl rfl) ?_
   refine zu (fun j st => ∃ z w',En z /\ w'.length + 2 * j <= 2 * n /\ innerQ x = zX (closeQ j w' z) (fun w u => .ok ((aa,w),u)) /\ Sub (cxE EN5 Tryz.prog pas w0 w he hp (outQ (fun t => V.agg [.c (.string (bs t.1)),.sl 3 (t.2.map D.int)]) (innerQ x))) st (HiC z aa j w')) n ⟨xx,[],hxx.1,by simp,hI,?_⟩ ?_
   . exact Sub.live ⟨rfl,rfl,rfl,rfl,trivial⟩ ⟨rfl,rfl,rfl,rfl,trivial⟩
   rintro j st ⟨z,w',hz,hwl,hI2,hsub⟩
   refine zn hsub ?_
   clear hsub hI
   have hs:=zAo hz [33]
   have hn:=zBI hz
   obtain ⟨z2,hz2⟩ : ∃ z2,z2 = if isS z [33] = true then nxT z else z:=⟨_,rfl⟩
   obtain ⟨w2,hw2⟩ : ∃ w2,w2 = if isS z [33] = true then 1 :: w' else w':=⟨_,rfl⟩
   have hen2 : En z2:=by rw [hz2]; split <;> first | exact hz.nx0 | exact hz
   have hwl2 : w2.length <= w'.length + 1:=by rw [hw2]; split <;> simp
   have ht2:=zFF hen2 [93]
   repeat' (first
|apply s_m zi zN rfl
 . conv => lhs; whnf
 . conv => lhs; whnf
 . rfl
 . conv => lhs; whnf; arg 1; whnf
 . first | exact z7 _
 . first | exact hs | exact hn
 . exact fun _ => rfl
 . exact fun _ => rfl
|apply s_pr zi zN rfl
 . conv => lhs; whnf
 . conv => lhs; whnf
 . rfl
 . conv => lhs; whnf; arg 1; whnf
 . first | exact z7 _
 . first | exact ht2
 . exact fun _ => rfl
 . first | (intro _ _; simp only [renL,renV,ren_cells]; done) | exact fun _ _ => rfl
 refine fun ee hq => ?_
 change _ = Out.die _
 rotate_left 1
 refine fun aa xx hq => ?_
 first | (replace hq:=zAh hq; obtain ⟨hq,rfl⟩:=hq) | (cases hq; have hq:=True.intro) | skip
|apply zAw 10 (HiC z2 aa j w2) rfl
|refine zHN ?_
|refine zA ?_
|refine zB ?_
|refine zG ?_
|refine zb ?_
|apply aw_1
 conv => whnf
 refine ⟨?_,trivial⟩
|apply s_1
 conv => whnf; arg 1; arg 4; arg 3; whnf
 refine ⟨?_,?_⟩
|apply zI rfl rfl rfl
 . conv => lhs; whnf
 . conv => lhs; whnf; arg 1; whnf
 . conv => lhs; whnf; arg 1; whnf
 . exact ⟨by kernel_rfl,by kernel_rfl⟩
 . rfl
|apply zBQ rfl rfl
 . conv => lhs; whnf
 . first | exact zJS | (conv => lhs; whnf; arg 1; whnf)
 . first | exact fun _ => rfl | (intro _; kernel_rfl)
 . conv => lhs; whnf
 . conv => lhs; whnf; arg 1; whnf
 . conv => lhs; whnf
|apply s_lit1 rfl rfl
 . conv => lhs; whnf
 . first | exact zJS | (conv => lhs; whnf; arg 1; whnf)
 . conv => lhs; whnf; arg 1; whnf
 . rfl
 . rfl
|refine zg (by conv => lhs; whnf) ?_ ?_ <;> intro hb
|exact trivial)
   . rw [hz2,hw2,if_pos hb,if_pos hb]
     refine Sub.live ⟨rfl,rfl,rfl,rfl,trivial⟩ ⟨rfl,rfl,?_,?_,trivial⟩
     . show some (Res.box _ [_,V.own 900 _ ((w'.map D.int).reverse ++ [D.int 1])]) = some (Res.box _ [_,V.own 900 _ (((1 :: w').map D.int).reverse)])
       rw [List.map_cons,List.reverse_cons]
     . show some (Res.tok _ ((w'.map D.int).reverse.length + 1)) = some (Res.tok _ (((1 :: w').map D.int).reverse).length)
       rw [List.map_cons,List.reverse_cons,List.length_append]; rfl
   . refine ⟨by simp,?_,?_⟩ <;> simp only [List.length_reverse,List.length_map,List.length_cons,List.length_nil,maxLen] <;> omega
   . have hb' : ¬ isS z [33] = true:=by rw [hb]; decide
     rw [hz2,hw2,if_neg hb',if_neg hb']
     exact Sub.live ⟨rfl,rfl,rfl,rfl,trivial⟩ ⟨rfl,rfl,rfl,rfl,trivial⟩
   . have hj : j = 0:=by simpa using hb
     subst hj
     have c0 : closeQ 0 w' z = .ok (w2,z2):=by unfold closeQ; rw [hz2,hw2]; split <;> rfl
     rw [c0] at hI2
     have hI3 : innerQ x = .ok ((aa,w2),z2):=hI2
     rw [hI3]
     refine s_rev (k:=900) (e:=3) (l:=(w2.map D.int).reverse) hX rfl (by kernel_rfl) (by kernel_rfl) rfl rfl rfl rfl ?_ (by simp; omega)
     refine awo_sub (st':=HiE z2 aa w2) (Sub.live ⟨rfl,rfl,rfl,trivial⟩ ⟨?_,rfl,?_,trivial⟩) ?_
     . show some (Res.box _ [if (flatB Tryz.prog 143).isSome then V.sl 143 (z2.ts.map tokD) else V.any,V.c (.bool z2.vr),V.c (.int .i64 (z2.nd : Int))]) = _
       rw [if_pos flat_tok]; rfl
     . show some (Res.box _ [V.c (.string (bs aa)),if 900 = 900 /\ ((w2.map D.int).reverse).length = ((w2.map D.int).reverse).length then V.own 900 _ ((w2.map D.int).reverse).reverse else V.any]) = _
       rw [if_pos ⟨rfl,rfl⟩,List.reverse_reverse]
     repeat' (first
|refine zA ?_
|refine zB ?_
|refine zG ?_
|apply aw_1
 conv => whnf
 refine ⟨?_,trivial⟩
|apply s_1
 conv => whnf; arg 1; arg 4; arg 3; whnf
 refine ⟨?_,?_⟩
|apply zI rfl rfl rfl
 . conv => lhs; whnf
 . conv => lhs; whnf; arg 1; whnf
 . conv => lhs; whnf; arg 1; whnf
 . exact ⟨by kernel_rfl,by kernel_rfl⟩
 . rfl
|refine zU ?_
|refine za ?_
|refine zAQ ?_
|apply zAM rfl
 . conv => lhs; whnf; arg 2; whnf
 . conv => lhs; whnf; arg 1; whnf
|exact trivial)
     rfl
   . have hj : j ≠ 0:=by rintro rfl; simp at hb
     have c1 : closeQ j w' z = closeQ (j - 1) (2 :: w2) xx:=by
      obtain ⟨j',rfl⟩ : ∃ j',j = j' + 1:=⟨j - 1,by omega⟩
      rw [closeQ,<- hz2,<- hw2]
      show zX (takeQ [93] z2) _ = _
      rw [hq]; rfl
     refine zL (j':=j - 1) (by omega) ⟨xx,2 :: w2,(hen2.take hq).1,by simp only [List.length_cons]; omega,by rw [hI2,c1],Sub.live ⟨rfl,rfl,rfl,?_,trivial⟩ ⟨rfl,rfl,?_,?_,trivial⟩⟩
     . show V.c (.int .i64 ((j : Int) - 1)) = V.c (.int .i64 ((j - 1 : Nat) : Int))
       rw [show ((j - 1 : Nat) : Int) = (j : Int) - 1 by omega]
     . show some (Res.box _ [_,V.own 900 _ ((w2.map D.int).reverse ++ [D.int 2])]) = some (Res.box _ [_,V.own 900 _ (((2 :: w2).map D.int).reverse)])
       rw [List.map_cons,List.reverse_cons]
     . show some (Res.tok _ ((w2.map D.int).reverse.length + 1)) = some (Res.tok _ (((2 :: w2).map D.int).reverse).length)
       rw [List.map_cons,List.reverse_cons,List.length_append]; rfl
   . exact zS (by omega)
   . refine ⟨by simp,?_,?_⟩ <;> simp only [List.length_reverse,List.length_map,List.length_cons,List.length_nil,maxLen] <;> omega
   . have hj : j ≠ 0:=by rintro rfl; simp at hb
     have c1 : closeQ j w' z = .error ee:=by
      obtain ⟨j',rfl⟩ : ∃ j',j = j' + 1:=⟨j - 1,by omega⟩
      rw [closeQ,<- hz2,<- hw2]
      show zX (takeQ [93] z2) _ = _
      rw [hq]; rfl
     rw [hI2,c1]; rfl
 . have hO2 : openQ x.ts.length x = (n,y):=by rw [hO,openQ,if_neg (by rw [hb]; decide)]; simp
   have hI : innerQ x = .error ee:=by
    unfold innerQ
    rw [hO2]
    show zX (nameQ y) _ = _
    rw [hq]; rfl
   rw [hI]; rfl
theorem typ_ace (x : PS) (h : En x) (hlen : x.ts.length <= 100000) : ACE EN5 Tryz.prog 180 [.bx (pn 0) 0] [boxP x] (outQ (fun d => .agg (cellsV Tryz.prog 12 71 d)) (typQ x)):=by
 have hi:=inner_ace x h hlen
 obtain ⟨t,r,ht⟩:=h.cons
 have hf:=zBB t 5
 have hh:=zAn ht
 obtain ⟨ts,vr,nd⟩:=x
 cases ht
 refine zAH (fn:=Tryz.f180) 20 Tryz.func180 rfl rfl ?_
 intro pas w0 w he hp
 repeat' (first
|apply s_pr zi zN rfl
 . conv => lhs; whnf
 . conv => lhs; whnf
 . rfl
 . conv => lhs; whnf; arg 1; whnf
 . first | exact z7 _
 . first | exact hi
 . exact fun _ => rfl
 . first | (intro _ _; simp only [renL,renV,ren_cells]; done) | exact fun _ _ => rfl
 refine fun ee hq => ?_
 change _ = Out.die _
 rotate_left 1
 refine fun aa xx hq => ?_
 first | (replace hq:=zAh hq; obtain ⟨hq,rfl⟩:=hq) | (cases hq; have hq:=True.intro) | skip
|apply zCb rfl
 . conv => lhs; whnf
 . first | exact hf
 . first | exact fun _ => rfl | (intro _; simp only [renL,renV,ren_cells])
 change _ = Out.die _
|refine zA ?_
|refine zB ?_
|refine zG ?_
|apply aw_1
 conv => whnf
 refine ⟨?_,trivial⟩
|apply s_1
 conv => whnf; arg 1; arg 4; arg 3; whnf
 refine ⟨?_,?_⟩
|apply zI rfl rfl rfl
 . conv => lhs; whnf
 . conv => lhs; whnf; arg 1; whnf
 . conv => lhs; whnf; arg 1; whnf
 . exact ⟨by kernel_rfl,by kernel_rfl⟩
 . rfl
|refine zg (by conv => lhs; whnf) ?_ ?_ <;> intro hb
|apply zAM rfl
 . conv => lhs; whnf; arg 2; whnf
 . conv => lhs; whnf; arg 1; whnf
|exact trivial)
 . have hb : 24 < aa.2.length:=by simp at hb; omega
   unfold typQ zX
   rw [hq,hh]
   dsimp only
   rw [if_pos hb]; rfl
 . have hb : ¬ 24 < aa.2.length:=by simp at hb; omega
   unfold typQ zX
   rw [hq]
   dsimp only
   rw [if_neg hb]; rfl
 . unfold typQ zX
   rw [hq]; rfl
 . exact zBu _ _
theorem zCa {s : List UInt8} {a : Array UInt8} (h : ((bs s).toList == (⟨a⟩ : ByteArray).toList) = true) : s = a.toList:=by
 rw [Lib.toList_data,Lib.toList_data,zAE] at h
 simpa using h
theorem zA2 {s : List UInt8} {a : Array UInt8} (h : ((bs s).toList == (⟨a⟩ : ByteArray).toList) = false) : s ≠ a.toList:=by
 rw [Lib.toList_data,Lib.toList_data,zAE] at h
 simpa using h
noncomputable def VV (d : D) : V:=.agg (cellsV Tryz.prog 12 84 d)
theorem vInt_ac (n : Int) : AC EN5 Tryz.prog 248 [.c (.int .i64 n)] (VV (valD 2 n [] [] [])):=by
 refine zF 5 Tryz.func248 rfl rfl rfl rfl ?_
 intro s w he
 repeat' (first
|apply zAL (VV (valD 2 n [] [] [])) rfl rfl
 . conv => lhs; whnf; arg 2; whnf
 . repeat' (first | exact VLe.refl _ | exact VLe.nil _ | exact VLe.lit _ _ | exact VLe.own _ _ _ | apply VLe.agg | apply VLeL.cons | exact VLeL.nil)
|refine zA ?_
|refine zB ?_
|refine zG ?_
|apply aw_1
 conv => whnf
 refine ⟨?_,trivial⟩
|apply s_1
 conv => whnf; arg 1; arg 4; arg 3; whnf
 refine ⟨?_,?_⟩
|apply zI rfl rfl rfl
 . conv => lhs; whnf
 . conv => lhs; whnf; arg 1; whnf
 . conv => lhs; whnf; arg 1; whnf
 . exact ⟨by kernel_rfl,by kernel_rfl⟩
 . rfl
|refine zC ?_
|refine ⟨_,by conv => lhs; whnf; arg 2; whnf,?_⟩; conv => rhs; whnf
|exact trivial)
 rfl
theorem vText_ac (t : List UInt8) : AC EN5 Tryz.prog 170 [.c (.string (bs t))] (VV (valD 3 0 t [] [])):=by
 refine zF 5 Tryz.func170 rfl rfl rfl rfl ?_
 intro s w he
 repeat' (first
|apply zAL (VV (valD 3 0 t [] [])) rfl rfl
 . conv => lhs; whnf; arg 2; whnf
 . repeat' (first | exact VLe.refl _ | exact VLe.nil _ | exact VLe.lit _ _ | exact VLe.own _ _ _ | apply VLe.agg | apply VLeL.cons | exact VLeL.nil)
|refine zA ?_
|refine zB ?_
|refine zG ?_
|apply aw_1
 conv => whnf
 refine ⟨?_,trivial⟩
|apply s_1
 conv => whnf; arg 1; arg 4; arg 3; whnf
 refine ⟨?_,?_⟩
|apply zI rfl rfl rfl
 . conv => lhs; whnf
 . conv => lhs; whnf; arg 1; whnf
 . conv => lhs; whnf; arg 1; whnf
 . exact ⟨by kernel_rfl,by kernel_rfl⟩
 . rfl
|refine zC ?_
|refine ⟨_,by conv => lhs; whnf; arg 2; whnf,?_⟩; conv => rhs; whnf
|exact trivial)
 rfl
theorem vEnum_ac (t : List UInt8) : AC EN5 Tryz.prog 314 [.c (.string (bs t))] (VV (valD 4 0 t [] [])):=by
 refine zF 5 Tryz.func314 rfl rfl rfl rfl ?_
 intro s w he
 repeat' (first
|apply zAL (VV (valD 4 0 t [] [])) rfl rfl
 . conv => lhs; whnf; arg 2; whnf
 . repeat' (first | exact VLe.refl _ | exact VLe.nil _ | exact VLe.lit _ _ | exact VLe.own _ _ _ | apply VLe.agg | apply VLeL.cons | exact VLeL.nil)
|refine zA ?_
|refine zB ?_
|refine zG ?_
|apply aw_1
 conv => whnf
 refine ⟨?_,trivial⟩
|apply s_1
 conv => whnf; arg 1; arg 4; arg 3; whnf
 refine ⟨?_,?_⟩
|apply zI rfl rfl rfl
 . conv => lhs; whnf
 . conv => lhs; whnf; arg 1; whnf
 . conv => lhs; whnf; arg 1; whnf
 . exact ⟨by kernel_rfl,by kernel_rfl⟩
 . rfl
|refine zC ?_
|refine ⟨_,by conv => lhs; whnf; arg 2; whnf,?_⟩; conv => rhs; whnf
|exact trivial)
 rfl
theorem vBool_ac (b : Bool) : AC EN5 Tryz.prog 89 [.c (.bool b)] (VV (valD 1 (if b = true then 1 else 0) [] [] [])):=by
 refine zF 8 Tryz.func89 rfl rfl rfl rfl ?_
 intro s w he
 repeat' (first
|apply zAL (VV (valD 1 0 [] [] [])) rfl rfl
 . conv => lhs; whnf; arg 2; whnf
 . repeat' (first | exact VLe.refl _ | exact VLe.nil _ | exact VLe.lit _ _ | exact VLe.own _ _ _ | apply VLe.agg | apply VLeL.cons | exact VLeL.nil)
|refine zA ?_
|refine zB ?_
|refine zG ?_
|apply aw_1
 conv => whnf
 refine ⟨?_,trivial⟩
|apply s_1
 conv => whnf; arg 1; arg 4; arg 3; whnf
 refine ⟨?_,?_⟩
|apply zI rfl rfl rfl
 . conv => lhs; whnf
 . conv => lhs; whnf; arg 1; whnf
 . conv => lhs; whnf; arg 1; whnf
 . exact ⟨by kernel_rfl,by kernel_rfl⟩
 . rfl
|refine zg (by conv => lhs; whnf) ?_ ?_ <;> intro hb
|refine zC ?_
|refine ⟨_,by conv => lhs; whnf; arg 2; whnf,?_⟩; conv => rhs; whnf
|exact trivial)
 . rw [if_pos hb]; rfl
 . rw [if_neg (by rw [hb]; decide)]; rfl
def eqS (k : ByteArray) (d : D) : Bool:=k.toList == d.s.toList
def idxL (l : List D) (k : ByteArray) : Int:=match l.findIdx? (eqS k) with | some i => (i : Int) | none => -1
def hasL (l : List D) (k : ByteArray) : Bool:=l.any (eqS k)
theorem idxL_at {l : List D} {k : ByteArray} {i : Nat} (hi : i < l.length) (h : ∀ m,m < i -> eqS k (gD l m) = false) (he : eqS k (gD l i) = true) : idxL l k = i:=by
 unfold idxL
 have : l.findIdx? (eqS k) = some i:=by
  rw [List.findIdx?_eq_some_iff_getElem]
  refine ⟨hi,by rw [<- zEm hi]; exact he,fun j hj => ?_⟩
  have hj2 : j < l.length:=by omega
  have:=h j hj
  rw [zEm hj2] at this
  simp [this]
 rw [this]
theorem idxL_no {l : List D} {k : ByteArray} (h : ∀ m,m < l.length -> eqS k (gD l m) = false) : idxL l k = -1:=by
 unfold idxL
 have : l.findIdx? (eqS k) = none:=by
  rw [List.findIdx?_eq_none_iff]
  intro x hx
  obtain ⟨i,hi,rfl⟩:=List.getElem_of_mem hx
  rw [<- zEm hi]; exact h i hi
 rw [this]
theorem idxL_has (l : List D) (k : ByteArray) : decide (idxL l k >= 0) = hasL l k:=by
 unfold idxL hasL
 cases hx : l.findIdx? (eqS k) with
 | none =>
   rw [List.findIdx?_eq_none_iff] at hx
   have : l.any (eqS k) = false:=by rw [List.any_eq_false]; exact fun x hm => by rw [hx x hm]; decide
   rw [this]; rfl
 | some i =>
   rw [List.findIdx?_eq_some_iff_getElem] at hx
   obtain ⟨h1,h2,-⟩:=hx
   have : l.any (eqS k) = true:=List.any_eq_true.2 ⟨_,List.getElem_mem h1,h2⟩
   rw [this]
   exact decide_eq_true (Int.natCast_nonneg i)
noncomputable def HiS (l : List D) (k : ByteArray) (i : Nat) : Vst 19:=
 stS 19 [(0,.sl 9 l),(1,.c (.string k)),(7,.c (.int .i64 l.length)),(8,.c (.int .i64 i))] []
theorem indexS_ac (l : List D) (k : ByteArray) (hn : l.length <= 1000000000) : AC EN5 Tryz.prog 267 [.sl 9 l,.c (.string k)] (.c (.int .i64 (idxL l k))):=by
 refine zF 19 Tryz.func267 rfl rfl rfl rfl ?_
 intro s w he
 repeat' (first
|refine zA ?_
|refine zB ?_
|refine zG ?_
|apply aw_1
 conv => whnf
 refine ⟨?_,trivial⟩
|apply s_1
 conv => whnf; arg 1; arg 4; arg 3; whnf
 refine ⟨?_,?_⟩
|exact trivial)
 refine zu (fun j st => ∃ i,i + j = l.length /\ (∀ m,m < i -> eqS k (gD l m) = false) /\ Sub (cx EN5 Tryz.prog s w he) st (HiS l k i)) l.length ⟨0,by omega,fun m hm => absurd hm (Nat.not_lt_zero m),?_⟩ ?_
 . exact Sub.live ⟨rfl,rfl,rfl,rfl,trivial⟩ trivial
 . rintro j st ⟨i,hij,hno,hs2⟩
   refine zn hs2 ?_
   clear hs2
   repeat' (first
|refine zA ?_
|refine zB ?_
|refine zG ?_
|refine zb ?_
|apply aw_1
 conv => whnf
 refine ⟨?_,trivial⟩
|apply s_1
 conv => whnf; arg 1; arg 4; arg 3; whnf
 refine ⟨?_,?_⟩
|refine zg (by conv => lhs; whnf) ?_ ?_ <;> intro hb
|refine zP ?_
|refine zU ?_
|refine za ?_
|refine zM rfl ?_
|refine zW ?_
|refine zAQ ?_
|refine zC ?_
|refine ⟨_,by conv => lhs; whnf; arg 2; whnf,?_⟩; conv => rhs; whnf
|exact trivial)
   all_goals
    first
     | exact zS (by omega)
     | (have g0 : decide ((i : Int) < (l.length : Int)) = true:=by assumption
        have g0 : i < l.length:=by simpa using g0
        first
         | exact (⟨by omega,by omega⟩ : 0 <= (i : Int) /\ (i : Int) < (l.length : Int))
         | (have g1 : eqS k (gD l i) = true:=by assumption
            rw [idxL_at g0 hno g1])
         | (have g1 : eqS k (gD l i) = false:=by assumption
            refine zL (j':=j - 1) (by omega) ⟨i + 1,by omega,fun m hm => ?_,Sub.live ⟨rfl,rfl,rfl,rfl,trivial⟩ trivial⟩
            by_cases e : m = i
            . subst e; exact g1
            . exact hno m (by omega)))
     | (have g0 : decide ((i : Int) < (l.length : Int)) = false:=by assumption
        have g0 : ¬ (i : Int) < (l.length : Int):=of_decide_eq_false g0
        rw [idxL_no fun m hm => hno m (by omega)])
theorem zHY (l : List D) (k : ByteArray) (hn : l.length <= 1000000000) : AC EN5 Tryz.prog 194 [.sl 9 l,.c (.string k)] (.c (.bool (hasL l k))):=by
 have h1:=indexS_ac l k hn
 rw [<- idxL_has]
 refine zF 9 Tryz.func194 rfl rfl rfl rfl ?_
 intro s w he
 repeat' (first
|refine zA ?_
|refine zB ?_
|refine zG ?_
|apply aw_1
 conv => whnf
 refine ⟨?_,trivial⟩
|apply s_1
 conv => whnf; arg 1; arg 4; arg 3; whnf
 refine ⟨?_,?_⟩
|apply ze rfl
 . conv => lhs; whnf
 . conv => lhs; whnf
 . first | exact h1
|refine zC ?_
|refine ⟨_,by conv => lhs; whnf; arg 2; whnf,?_⟩; conv => rhs; whnf
|exact trivial)
 all_goals rfl
theorem zED (ks : List (List UInt8)) (u : List UInt8) : hasL (ks.map strD) (bs u) = ks.contains u:=by
 unfold hasL
 rw [List.any_map,List.contains_eq_any_beq]
 congr 1
 funext x
 show ((bs u).toList == (bs x).toList) = (u == x)
 rw [Lib.toList_data,Lib.toList_data,zAE,zAE]
end Go.Proofs.YthjiclhfhjdjpaaGreatDoor
namespace Go.Proofs.YthjiclhfhjdjpaaGreatDoor
structure RS where
 at' : Nat
 ct : Nat
 fx : Bool
 er : Int
 wr : Nat
def tkZ (l : List Tok) (x : RS) : Tok:=l.getD x.at' ⟨5,[],0⟩
def zCC (l : List Tok) (e : Int) (a : Nat) (x : RS) : RS:=if x.er = 0 then { x with er:=e,wr:=(l.getD a ⟨5,[],0⟩).i } else x
def zk (l : List Tok) (e : Int) (x : RS) : RS:=zCC l e x.at' x
def sgZ (l : List Tok) (s : List UInt8) (x : RS) : Bool:=x.er == 0 && (tkZ l x).k == 1 && (tkZ l x).s == s
def nmZ (l : List Tok) (x : RS) : Bool:=x.er == 0 && (tkZ l x).k == 2
def wdZ (l : List Tok) (s : List UInt8) (x : RS) : Bool:=nmZ l x && (tkZ l x).s == s
def upZ (x : RS) : RS:={ x with at':=x.at' + 1 }
def needZ (l : List Tok) (s : List UInt8) (x : RS) : RS:=if sgZ l s x = true then upZ x else zk l 3 x
def nameZ (l : List Tok) (x : RS) : List UInt8 × RS:=if nmZ l x = true then ((tkZ l x).s,upZ x) else ([],zk l 3 x)
def zAA (l : List Tok) (x : RS) : List UInt8 × RS:=nameZ l (if wdZ l onT x = true then zk l 3 x else x)
def zCQ (l : List Tok) (r : RS -> (List UInt8 × List Int) × RS) (x : RS) : (List UInt8 × List Int) × RS:=
 if sgZ l [91] x = true then (((r (upZ x)).1.1,2 :: (r (upZ x)).1.2),needZ l [93] (r (upZ x)).2) else (((nameZ l x).1,[]),(nameZ l x).2)
def zDr (l : List Tok) (p : (List UInt8 × List Int) × RS) : (List UInt8 × List Int) × RS:=
 if sgZ l [33] p.2 = true then ((p.1.1,1 :: p.1.2),upZ p.2) else p
def refZ : List Tok -> Nat -> RS -> (List UInt8 × List Int) × RS
 | _,0,x => (([],[]),x)
 | l,f + 1,x => zDr l (zCQ l (refZ l f) x)
def typZ (l : List Tok) (x : RS) : (List UInt8 × List Int) × RS:=
 ((refZ l (l.length + 1 - x.at') x).1,if (refZ l (l.length + 1 - x.at') x).1.2.length > 24 then zCC l 5 x.at' (refZ l (l.length + 1 - x.at') x).2 else (refZ l (l.length + 1 - x.at') x).2)
def simpV (t : Tok) : D:=if t.k = 3 then valD 2 (numQ t.s) [] [] [] else if t.k = 4 then valD 3 0 t.s [] [] else if t.k = 2 then zC9 t.s else zBG
def simpB (t : Tok) : Bool:=t.k == 3 || t.k == 4 || t.k == 2
def keyZ (l : List Tok) (ob : Bool) (ks : List (List UInt8)) (x : RS) : List (List UInt8) × RS:=
 if ob = true then
  (ks ++ [(nameZ l (if (nmZ l x && ks.contains (tkZ l x).s) = true then zk l 7 x else x)).1],needZ l [58] (nameZ l (if (nmZ l x && ks.contains (tkZ l x).s) = true then zk l 7 x else x)).2)
 else (ks,x)
def elemsZ (l : List Tok) (val : RS -> D × RS) (ob : Bool) (e : List UInt8) : Nat -> List (List UInt8) -> List D -> RS -> (List (List UInt8) × List D) × RS
 | 0,ks,vs,x => ((ks,vs),x)
 | f + 1,ks,vs,x =>
   if x.er = 0 /\ sgZ l e x = false then elemsZ l val ob e f (keyZ l ob ks x).1 (vs ++ [(val (keyZ l ob ks x).2).1]) (val (keyZ l ob ks x).2).2
   else ((ks,vs),needZ l e x)
def chk1 (l : List Tok) (x : RS) : RS:=if simpB (tkZ l x) = false /\ sgZ l [91] x = false /\ sgZ l [123] x = false /\ (sgZ l [36] x && !x.fx) = false then zk l 3 x else x
def chk2 (l : List Tok) (lv : Nat) (x : RS) : RS:=if 24 < lv then zk l 5 x else x
def chk3 (l : List Tok) (x : RS) : RS:=if 4096 < x.ct then zk l 4 x else x
def chkZ (l : List Tok) (lv : Nat) (x : RS) : RS:=chk3 l { chk2 l lv (chk1 l x) with ct:=(chk2 l lv (chk1 l x)).ct + 1 }
def valueZ : List Tok -> Nat -> Nat -> RS -> D × RS
 | _,0,_,x => (zBG,x)
 | l,f + 1,lv,x =>
   if x.er ≠ 0 then (zBG,x)
   else if (chkZ l lv x).er ≠ 0 then (zBG,chkZ l lv x)
   else if (sgZ l [36] x && !x.fx) = true then (valD 7 0 (nameZ l (upZ (chkZ l lv x))).1 [] [],(nameZ l (upZ (chkZ l lv x))).2)
   else if sgZ l [91] x = true then
    (valD 5 0 [] (elemsZ l (valueZ l f (lv + 1)) false [93] (l.length + 1 - (upZ (chkZ l lv x)).at') [] [] (upZ (chkZ l lv x))).1.2 (elemsZ l (valueZ l f (lv + 1)) false [93] (l.length + 1 - (upZ (chkZ l lv x)).at') [] [] (upZ (chkZ l lv x))).1.1,(elemsZ l (valueZ l f (lv + 1)) false [93] (l.length + 1 - (upZ (chkZ l lv x)).at') [] [] (upZ (chkZ l lv x))).2)
   else if sgZ l [123] x = true then
    (valD 6 0 [] (elemsZ l (valueZ l f (lv + 1)) true [125] (l.length + 1 - (upZ (chkZ l lv x)).at') [] [] (upZ (chkZ l lv x))).1.2 (elemsZ l (valueZ l f (lv + 1)) true [125] (l.length + 1 - (upZ (chkZ l lv x)).at') [] [] (upZ (chkZ l lv x))).1.1,(elemsZ l (valueZ l f (lv + 1)) true [125] (l.length + 1 - (upZ (chkZ l lv x)).at') [] [] (upZ (chkZ l lv x))).2)
   else (simpV (tkZ l x),upZ (chkZ l lv x))
def wholeZ (l : List Tok) (b : Bool) (x : RS) : D × RS:=valueZ l 25 1 { x with ct:=0,fx:=b }
def manyZ (l : List Tok) (one : Nat -> RS -> D × RS) (s : List UInt8) : Nat -> List D -> RS -> List D × RS
 | 0,acc,x => (acc,x)
 | f + 1,acc,x =>
   if x.er = 0 /\ (acc.length = 0 \/ sgZ l s x = false) then manyZ l one s f (acc ++ [(one acc.length x).1]) (one acc.length x).2
   else (acc,needZ l s x)
def oneArg (l : List Tok) (n : Nat) (x : RS) : D × RS:=
 (fun a => (fun v => (argD a.1 v.1,v.2)) (wholeZ l false (needZ l [58] a.2))) (nameZ l (if 16 <= n /\ nmZ l x = true then zk l 4 x else x))
def zv (l : List Tok) (x : RS) : List D × RS:=if sgZ l [40] x = true then manyZ l (oneArg l) [41] (l.length + 1 - (upZ x).at') [] (upZ x) else ([],x)
def zEd (l : List Tok) (x : RS) : D × RS:=
 (fun a => (fun v => (dirD a.1 v.1,v.2)) (zv l a.2)) (nameZ l (upZ x))
def dirsLZ (l : List Tok) : Nat -> List D -> RS -> List D × RS
 | 0,acc,x => (acc,x)
 | f + 1,acc,x =>
   if sgZ l [64] x = true then (if 16 <= acc.length then ([],zk l 4 x) else dirsLZ l f (acc ++ [(zEd l x).1]) (zEd l x).2)
   else (acc,x)
def zw (l : List Tok) (x : RS) : List D × RS:=dirsLZ l (l.length + 1 - x.at') [] x
def dotT : List UInt8:=[46,46,46]
def zHo (l : List Tok) (x : RS) : D × RS:=
 (fun a => (fun d => (selD 2 [] a.1 [] [] d.1 [],d.2)) (zw l a.2)) (nameZ l x)
def zEj (l : List Tok) (sels : RS -> List D × RS) (x : RS) : D × RS:=
 (fun o => (fun d => (fun s => (selD 3 [] [] o.1 [] d.1 s.1,s.2)) (sels d.2)) (zw l o.2)) (if wdZ l onT x = true then nameZ l (upZ x) else ([],x))
def zAe (l : List Tok) (n : List UInt8 × RS) : (List UInt8 × List UInt8) × RS:=
 if sgZ l [58] n.2 = true then ((n.1,(nameZ l (upZ n.2)).1),(nameZ l (upZ n.2)).2) else (([],n.1),n.2)
def zEq (l : List Tok) (sels : RS -> List D × RS) (x : RS) : D × RS:=
 (fun an => (fun a => (fun d => (fun s => (selD 1 an.1.1 an.1.2 [] a.1 d.1 s.1,s.2)) (if sgZ l [123] d.2 = true then sels d.2 else ([],d.2))) (zw l a.2)) (zv l an.2)) (zAe l (nameZ l x))
def selZ (l : List Tok) (sels : RS -> List D × RS) (x : RS) : D × RS:=
 if sgZ l dotT x = true then
  (if (nmZ l (upZ x) && !wdZ l onT (upZ x)) = true then zHo l (upZ x) else zEj l sels (upZ x))
 else zEq l sels x
def oneSel (l : List Tok) (sel : RS -> D × RS) (n : Nat) (x : RS) : D × RS:=sel (if 64 <= n /\ (nmZ l x = true \/ sgZ l dotT x = true) then zk l 4 x else x)
def openZ (l : List Tok) (lv : Nat) (x : RS) : RS:=needZ l [123] (if sgZ l [123] x = true /\ 24 < lv then zk l 5 x else x)
def selsZ : List Tok -> Nat -> Nat -> RS -> List D × RS
 | _,0,_,x => ([],x)
 | l,f + 1,lv,x => manyZ l (oneSel l (selZ l (selsZ l f (lv + 1)))) [125] (l.length + 1 - (openZ l lv x).at') [] (openZ l lv x)
def zHW (l : List Tok) (x : RS) : (Bool × D) × RS:=
 if sgZ l [61] x = true then ((true,(wholeZ l true (upZ x)).1),(wholeZ l true (upZ x)).2) else ((false,zBG),x)
def oneVar (l : List Tok) (n : Nat) (x : RS) : D × RS:=
 (fun a => (fun t => (fun d => (varD a.1 (refD t.1.1 t.1.2) d.1.1 d.1.2,d.2)) (zHW l t.2)) (typZ l (needZ l [58] a.2))) (nameZ l (needZ l [36] (if 16 <= n /\ sgZ l [36] x = true then zk l 4 x else x)))
def zBN (l : List Tok) (x : RS) : List D × RS:=if sgZ l [40] x = true then manyZ l (oneVar l) [41] (l.length + 1 - (upZ x).at') [] (upZ x) else ([],x)
def zGO (l : List Tok) (x : RS) : D × RS:=
 (fun a => (fun o => (fun s => (zGP a.1 o.1 s.1,s.2)) (selsZ l 25 1 o.2)) (nameZ l (if wdZ l onT a.2 = true then upZ a.2 else zk l 3 a.2))) (zAA l x)
def headZ (l : List Tok) (k : Int) (x : RS) : (List UInt8 × List D) × RS:=
 if 0 < k then (fun n => (fun v => ((n.1,v.1),v.2)) (zBN l n.2)) (if nmZ l (upZ x) = true then nameZ l (upZ x) else ([],upZ x)) else (([],[]),x)
def opZ (l : List Tok) (k : Int) (x : RS) : D × RS:=
 (fun h => (fun s => (opD (max k 1) h.1.1 h.1.2 s.1,s.2)) (selsZ l 25 1 h.2)) (headZ l k x)
def kndZ (l : List Tok) (x : RS) : Int:=if nmZ l x = true then zAi (tkZ l x).s else 0
def defZ (l : List Tok) (q : List D × List D) (x : RS) : (List D × List D) × RS:=
 if wdZ l zBH x = false /\ kndZ l x = 0 /\ sgZ l [123] x = false then (q,zk l 3 x)
 else if 64 <= q.1.length + q.2.length then (q,zk l 4 x)
 else if wdZ l zBH x = true then ((q.1,q.2 ++ [(zGO l (upZ x)).1]),(zGO l (upZ x)).2)
 else ((q.1 ++ [(opZ l (kndZ l x) x).1],q.2),(opZ l (kndZ l x) x).2)
def docLZ (l : List Tok) : Nat -> List D × List D -> RS -> (List D × List D) × RS
 | 0,q,x => (q,x)
 | f + 1,q,x => if x.er = 0 /\ (x.at' = 0 \/ (tkZ l x).k ≠ 5) then docLZ l f (defZ l q x).1 (defZ l q x).2 else (q,x)
def docZ (l : List Tok) : (List D × List D) × RS:=docLZ l (l.length + 1) ([],[]) ⟨0,0,false,0,0⟩
def parseZ (s : List UInt8) : Except (Nat × Int) D:=
 match zAp s with
 | .error e => .error e
 | .ok ts => if (docZ ts).2.er ≠ 0 then .error ((docZ ts).2.wr,(docZ ts).2.er) else .ok (queD (docZ ts).1.1 (docZ ts).1.2)
end Go.Proofs.YthjiclhfhjdjpaaGreatDoor
namespace Go.Proofs.YthjiclhfhjdjpaaGreatDoor
set_option linter.unusedSectionVars false
def Ed (l : List Tok) : Prop:=∀ i,i < l.length -> (l.getD i ⟨5,[],0⟩).k ≠ 5 -> i + 1 < l.length
def Ck (x : RS) : Prop:=x.ct <= 4097 /\ (x.er = 0 -> x.ct <= 4096)
structure Mw (l : List Tok) (x y : RS) : Prop where
 lo : x.at' <= y.at'
 hi : y.at' < l.length
 er : x.er ≠ 0 -> y.er = x.er /\ y.wr = x.wr
 ct : Ck x -> Ck y
structure Pg (l : List Tok) (x y : RS) : Prop where
 mv : Mw l x y
 up : y.er = 0 -> x.at' < y.at'
section
variable {l : List Tok} {x y z : RS}
theorem Mw.refl (h : x.at' < l.length) : Mw l x x:=⟨Nat.le_refl _,h,fun _ => ⟨rfl,rfl⟩,id⟩
theorem Mw.zero (h : Mw l x y) (h0 : y.er = 0) : x.er = 0:=by
 rcases Classical.em (x.er = 0) with h1 | h1
 . exact h1
 . exact (h.er h1).1.symm.trans h0
theorem Mw.trans (h1 : Mw l x y) (h2 : Mw l y z) : Mw l x z:=
 ⟨Nat.le_trans h1.lo h2.lo,h2.hi,fun h => by
   have a:=h1.er h
   have b:=h2.er (by rw [a.1]; exact h)
   exact ⟨b.1.trans a.1,b.2.trans a.2⟩,fun h => h2.ct (h1.ct h)⟩
theorem Pg.mw (h1 : Pg l x y) (h2 : Mw l y z) : Pg l x z:=⟨h1.mv.trans h2,fun h => Nat.lt_of_lt_of_le (h1.up (h2.zero h)) h2.lo⟩
theorem Mw.pg (h1 : Mw l x y) (h2 : Pg l y z) : Pg l x z:=⟨h1.trans h2.mv,fun h => Nat.lt_of_le_of_lt h1.lo (h2.up h)⟩
theorem Mw.ite {c : Prop} [Decidable c] (h1 : c -> Mw l x y) (h2 : ¬ c -> Mw l x z) : Mw l x (if c then y else z):=by
 split
 . rename_i h; exact h1 h
 . rename_i h; exact h2 h
theorem Pg.ite {c : Prop} [Decidable c] (h1 : c -> Pg l x y) (h2 : ¬ c -> Pg l x z) : Pg l x (if c then y else z):=by
 split
 . rename_i h; exact h1 h
 . rename_i h; exact h2 h
theorem zEF (h : x.at' < l.length) {e : Int} (he : e ≠ 0) (a : Nat) : Mw l x (zCC l e a x):=by
 unfold zCC
 by_cases h0 : x.er = 0
 . rw [if_pos h0]
   exact ⟨Nat.le_refl _,h,fun h1 => (h1 h0).elim,fun hc => ⟨hc.1,fun h1 => (he h1).elim⟩⟩
 . rw [if_neg h0]; exact .refl h
theorem zGR {e : Int} (he : e ≠ 0) (a : Nat) : (zCC l e a x).er ≠ 0:=by
 unfold zCC
 by_cases h0 : x.er = 0
 . rw [if_pos h0]; exact he
 . rw [if_neg h0]; exact h0
theorem zBM (h : x.at' < l.length) {e : Int} (he : e ≠ 0) : Mw l x (zk l e x):=zEF h he _
theorem zEE (h : x.at' < l.length) {e : Int} (he : e ≠ 0) : Pg l x (zk l e x):=⟨zEF h he _,fun h => (zGR he _ h).elim⟩
theorem zCj (e : Int) (a : Nat) : (zCC l e a x).at' = x.at':=by unfold zCC; split <;> rfl
theorem sg_k {s : List UInt8} (h : sgZ l s x = true) : (tkZ l x).k = 1 /\ x.er = 0 /\ (tkZ l x).s = s:=by
 unfold sgZ at h
 simp only [Bool.and_eq_true,beq_iff_eq] at h
 exact ⟨h.1.2,h.1.1,h.2⟩
theorem nm_k (h : nmZ l x = true) : (tkZ l x).k = 2 /\ x.er = 0:=by
 unfold nmZ at h
 simp only [Bool.and_eq_true,beq_iff_eq] at h
 exact ⟨h.2,h.1⟩
theorem wd_k {s : List UInt8} (h : wdZ l s x = true) : (tkZ l x).k = 2 /\ x.er = 0 /\ (tkZ l x).s = s:=by
 unfold wdZ at h
 simp only [Bool.and_eq_true,beq_iff_eq] at h
 exact ⟨(nm_k h.1).1,(nm_k h.1).2,h.2⟩
variable (hE : Ed l)
include hE
theorem up_pg (h : x.at' < l.length) (hk : (tkZ l x).k ≠ 5) : Pg l x (upZ x):=⟨⟨Nat.le_succ _,hE _ h hk,fun _ => ⟨rfl,rfl⟩,id⟩,fun _ => Nat.lt_succ_self _⟩
theorem zAY {s : List UInt8} (h : x.at' < l.length) (hk : sgZ l s x = true) : Pg l x (upZ x):=up_pg hE h (by rw [(sg_k hk).1]; decide)
theorem zH2 (h : x.at' < l.length) (hk : nmZ l x = true) : Pg l x (upZ x):=up_pg hE h (by rw [(nm_k hk).1]; decide)
theorem zDE {s : List UInt8} (h : x.at' < l.length) (hk : wdZ l s x = true) : Pg l x (upZ x):=up_pg hE h (by rw [(wd_k hk).1]; decide)
theorem zAB (s : List UInt8) (h : x.at' < l.length) : Pg l x (needZ l s x):=.ite (fun hs => zAY hE h hs) fun _ => zEE h (by decide)
theorem zm (h : x.at' < l.length) : Pg l x (nameZ l x).2:=by
 unfold nameZ
 by_cases hs : nmZ l x = true
 . rw [if_pos hs]; exact zH2 hE h hs
 . rw [if_neg hs]; exact zEE h (by decide)
theorem zFR {c : Prop} [Decidable c] {e : Int} (he : e ≠ 0) (h : x.at' < l.length) : Mw l x (if c then zk l e x else x):=.ite (fun _ => zBM h he) fun _ => .refl h
theorem zFp (h : x.at' < l.length) : Pg l x (zAA l x).2:=by
 have h1 : Mw l x (if wdZ l onT x = true then zk l 3 x else x):=zFR hE (by decide) h
 exact h1.pg (zm hE h1.hi)
theorem zGg (p : (List UInt8 × List Int) × RS) (h : p.2.at' < l.length) : Mw l p.2 (zDr l p).2:=by
 unfold zDr
 by_cases hs : sgZ l [33] p.2 = true
 . rw [if_pos hs]; exact (zAY hE h hs).mv
 . rw [if_neg hs]; exact .refl h
theorem base_pg {r : RS -> (List UInt8 × List Int) × RS} (hr : ∀ y,y.at' < l.length -> Mw l y (r y).2) (h : x.at' < l.length) : Pg l x (zCQ l r x).2:=by
 unfold zCQ
 by_cases hs : sgZ l [91] x = true
 . rw [if_pos hs]
   have h1:=zAY hE h hs
   have h2:=hr _ h1.mv.hi
   exact (h1.mw h2).mw (zAB hE _ h2.hi).mv
 . rw [if_neg hs]; exact zm hE h
theorem zFL : ∀ (f : Nat) (x : RS),x.at' < l.length -> Mw l x (refZ l f x).2
 | 0,_,h => .refl h
 | f + 1,x,h => by
   have h1:=base_pg hE (r:=refZ l f) (zFL f) h
   exact h1.mv.trans (zGg hE _ h1.mv.hi)
theorem ref_pg (f : Nat) (h : x.at' < l.length) : Pg l x (refZ l (f + 1) x).2:=by
 have h1:=base_pg hE (r:=refZ l f) (zFL hE f) h
 exact h1.mw (zGg hE _ h1.mv.hi)
theorem zIg (h : x.at' < l.length) : Pg l x (typZ l x).2:=by
 unfold typZ
 obtain ⟨f,hf⟩ : ∃ f,l.length + 1 - x.at' = f + 1:=⟨l.length - x.at',by omega⟩
 rw [hf]
 have h1:=ref_pg hE f h
 exact .ite (fun _ => h1.mw (zEF h1.mv.hi (by decide) _)) fun _ => h1
theorem key_mw (ob : Bool) (ks : List (List UInt8)) (h : x.at' < l.length) : Mw l x (keyZ l ob ks x).2:=by
 unfold keyZ
 by_cases hs : ob = true
 . rw [if_pos hs]
   have h1 : Mw l x (if (nmZ l x && ks.contains (tkZ l x).s) = true then zk l 7 x else x):=zFR hE (by decide) h
   have h2:=zm hE h1.hi
   exact (h1.trans h2.mv).trans (zAB hE _ h2.mv.hi).mv
 . rw [if_neg hs]; exact .refl h
theorem zB0 {val : RS -> D × RS} (hv : ∀ y,y.at' < l.length -> Mw l y (val y).2) (ob : Bool) (e : List UInt8) : ∀ (f : Nat) (ks : List (List UInt8)) (vs : List D) (x : RS),x.at' < l.length -> Mw l x (elemsZ l val ob e f ks vs x).2
 | 0,_,_,_,h => .refl h
 | f + 1,ks,vs,x,h => by
   unfold elemsZ
   split
   . have h1:=key_mw hE ob ks h
     have h2:=hv _ h1.hi
     exact (h1.trans h2).trans (zB0 hv ob e f _ _ _ h2.hi)
   . exact (zAB hE _ h).mv
omit hE in
theorem chk1_at : (chk1 l x).at' = x.at':=by unfold chk1; split <;> first | exact zCj _ _ | rfl
omit hE in
theorem chk2_at (lv : Nat) : (chk2 l lv x).at' = x.at':=by unfold chk2; split <;> first | exact zCj _ _ | rfl
omit hE in
theorem chk3_at : (chk3 l x).at' = x.at':=by unfold chk3; split <;> first | exact zCj _ _ | rfl
omit hE in
theorem chk_at (lv : Nat) : (chkZ l lv x).at' = x.at':=by
 unfold chkZ
 rw [chk3_at]
 show (chk2 l lv (chk1 l x)).at' = _
 rw [chk2_at,chk1_at]
omit hE in
theorem chk1_ct : (chk1 l x).ct = x.ct:=by unfold chk1 zk zCC; split <;> first | rfl | (split <;> rfl)
omit hE in
theorem chk2_ct (lv : Nat) : (chk2 l lv x).ct = x.ct:=by unfold chk2 zk zCC; split <;> first | rfl | (split <;> rfl)
omit hE in
theorem zEz (lv : Nat) (h0 : x.er = 0) : chkZ l lv x =
 if simpB (tkZ l x) = false /\ sgZ l [91] x = false /\ sgZ l [123] x = false /\ (sgZ l [36] x && !x.fx) = false then { x with ct:=x.ct + 1,er:=3,wr:=(tkZ l x).i }
 else if 24 < lv then { x with ct:=x.ct + 1,er:=5,wr:=(tkZ l x).i }
 else if 4096 < x.ct + 1 then { x with ct:=x.ct + 1,er:=4,wr:=(tkZ l x).i }
 else { x with ct:=x.ct + 1 }:=by
 obtain ⟨a,c,b,e,w⟩:=x
 have h0 : e = 0:=h0
 subst h0
 by_cases h1 : simpB (tkZ l ⟨a,c,b,0,w⟩) = false /\ sgZ l [91] ⟨a,c,b,0,w⟩ = false /\ sgZ l [123] ⟨a,c,b,0,w⟩ = false /\ (sgZ l [36] ⟨a,c,b,0,w⟩ && !b) = false
 . have e1 : chk1 l ⟨a,c,b,0,w⟩ = ⟨a,c,b,3,(tkZ l ⟨a,c,b,0,w⟩).i⟩:=by unfold chk1; rw [if_pos h1]; rfl
   rw [if_pos h1]
   unfold chkZ
   rw [e1]
   have e2 : chk2 l lv ⟨a,c,b,3,(tkZ l ⟨a,c,b,0,w⟩).i⟩ = ⟨a,c,b,3,(tkZ l ⟨a,c,b,0,w⟩).i⟩:=by unfold chk2; split <;> rfl
   rw [e2]
   unfold chk3; split <;> rfl
 . have e1 : chk1 l ⟨a,c,b,0,w⟩ = ⟨a,c,b,0,w⟩:=by unfold chk1; rw [if_neg h1]
   rw [if_neg h1]
   unfold chkZ
   rw [e1]
   by_cases h2 : 24 < lv
   . have e2 : chk2 l lv ⟨a,c,b,0,w⟩ = ⟨a,c,b,5,(tkZ l ⟨a,c,b,0,w⟩).i⟩:=by unfold chk2; rw [if_pos h2]; rfl
     rw [e2,if_pos h2]
     unfold chk3; split <;> rfl
   . have e2 : chk2 l lv ⟨a,c,b,0,w⟩ = ⟨a,c,b,0,w⟩:=by unfold chk2; rw [if_neg h2]
     rw [e2,if_neg h2]
     unfold chk3
     by_cases h3 : 4096 < c + 1
     . rw [if_pos h3,if_pos h3]; rfl
     . rw [if_neg h3,if_neg h3]
omit hE in
theorem chk_mw (lv : Nat) (h : x.at' < l.length) (h0 : x.er = 0) : Mw l x (chkZ l lv x):=by
 refine ⟨Nat.le_of_eq (chk_at lv).symm,by rw [chk_at]; exact h,fun he => (he h0).elim,fun hc => ?_⟩
 have:=hc.2 h0
 rw [zEz lv h0]
 split
 . exact ⟨by show x.ct + 1 <= _; omega,fun h => absurd (show (3 : Int) = 0 from h) (by decide)⟩
 split
 . exact ⟨by show x.ct + 1 <= _; omega,fun h => absurd (show (5 : Int) = 0 from h) (by decide)⟩
 split
 . exact ⟨by show x.ct + 1 <= _; omega,fun h => absurd (show (4 : Int) = 0 from h) (by decide)⟩
 . exact ⟨by show x.ct + 1 <= _; omega,fun h => by show x.ct + 1 <= _; omega⟩
omit hE in
theorem chk_ok {lv : Nat} (h0 : x.er = 0) (h : (chkZ l lv x).er = 0) : ¬ (simpB (tkZ l x) = false /\ sgZ l [91] x = false /\ sgZ l [123] x = false /\ (sgZ l [36] x && !x.fx) = false) /\ lv <= 24 /\ x.ct + 1 <= 4096 /\ chkZ l lv x = { x with ct:=x.ct + 1 }:=by
 rw [zEz lv h0] at h |-
 split at h
 . exact absurd (show (3 : Int) = 0 from h) (by decide)
 split at h
 . exact absurd (show (5 : Int) = 0 from h) (by decide)
 split at h
 . exact absurd (show (4 : Int) = 0 from h) (by decide)
 rename_i h1 h2 h3
 rw [if_neg h1,if_neg h2,if_neg h3]
 exact ⟨h1,by omega,by omega,rfl⟩
omit hE in
theorem chk_k {lv : Nat} (h0 : x.er = 0) (h : (chkZ l lv x).er = 0) : (tkZ l (chkZ l lv x)).k ≠ 5:=by
 have h1:=(chk_ok h0 h).1
 unfold tkZ
 rw [chk_at]
 intro h5
 apply h1
 have h5 : (tkZ l x).k = 5:=h5
 refine ⟨by unfold simpB; rw [h5]; rfl,?_,?_,?_⟩
 . unfold sgZ; rw [h5]; simp
 . unfold sgZ; rw [h5]; simp
 . unfold sgZ; rw [h5]; simp
theorem zBL : ∀ (f lv : Nat) (x : RS),x.at' < l.length -> Mw l x (valueZ l f lv x).2 /\ (0 < f -> (valueZ l f lv x).2.er = 0 -> x.at' < (valueZ l f lv x).2.at')
 | 0,_,_,h => ⟨.refl h,fun h => absurd h (by decide)⟩
 | f + 1,lv,x,h => by
   have key : Pg l x (valueZ l (f + 1) lv x).2:=by
    unfold valueZ
    by_cases h0 : x.er = 0
    . rw [if_neg (fun h => h h0)]
      have hc:=chk_mw lv h h0
      by_cases h1 : (chkZ l lv x).er = 0
      . rw [if_neg (fun h => h h1)]
        have hu:=up_pg hE hc.hi (chk_k h0 h1)
        have hu:=hc.pg hu
        by_cases h2 : (sgZ l [36] x && !x.fx) = true
        . rw [if_pos h2]; exact hu.mw (zm hE hu.mv.hi).mv
        rw [if_neg h2]
        by_cases h3 : sgZ l [91] x = true
        . rw [if_pos h3]; exact hu.mw (zB0 hE (fun y hy => (zBL f (lv + 1) y hy).1) _ _ _ _ _ _ hu.mv.hi)
        rw [if_neg h3]
        by_cases h4 : sgZ l [123] x = true
        . rw [if_pos h4]; exact hu.mw (zB0 hE (fun y hy => (zBL f (lv + 1) y hy).1) _ _ _ _ _ _ hu.mv.hi)
        rw [if_neg h4]; exact hu
      . rw [if_pos h1]; exact ⟨hc,fun h => (h1 h).elim⟩
    . rw [if_pos h0]; exact ⟨.refl h,fun h => (h0 h).elim⟩
   exact ⟨key.mv,fun _ h => key.up h⟩
theorem value_pg (f lv : Nat) (h : x.at' < l.length) : Pg l x (valueZ l (f + 1) lv x).2:=⟨(zBL hE _ _ _ h).1,fun h1 => (zBL hE _ _ _ h).2 (Nat.succ_pos _) h1⟩
theorem zDO (b : Bool) (h : x.at' < l.length) : Pg l x (wholeZ l b x).2:=by
 have h1:=value_pg hE (x:={ x with ct:=0,fx:=b }) 24 1 h
 exact ⟨⟨h1.mv.lo,h1.mv.hi,h1.mv.er,fun _ => h1.mv.ct ⟨Nat.zero_le _,fun _ => Nat.zero_le _⟩⟩,h1.up⟩
theorem zB8 (n : Nat) (h : x.at' < l.length) : Pg l x (oneArg l n x).2:=by
 have h1 : Mw l x (if 16 <= n /\ nmZ l x = true then zk l 4 x else x):=zFR hE (by decide) h
 have h2:=zm hE h1.hi
 have h3:=zAB hE [58] h2.mv.hi
 exact ((h1.pg h2).mw h3.mv).mw (zDO hE false h3.mv.hi).mv
theorem zCe {one : Nat -> RS -> D × RS} (h1 : ∀ n x,x.at' < l.length -> Mw l x (one n x).2) (s : List UInt8) : ∀ (f : Nat) (acc : List D) (x : RS),x.at' < l.length -> Mw l x (manyZ l one s f acc x).2
 | 0,_,_,h => .refl h
 | f + 1,acc,x,h => by
   unfold manyZ
   split
   . have h2:=h1 acc.length x h
     exact h2.trans (zCe h1 s f _ _ h2.hi)
   . exact (zAB hE _ h).mv
theorem zCq (h : x.at' < l.length) : Mw l x (zv l x).2:=by
 unfold zv
 by_cases hs : sgZ l [40] x = true
 . rw [if_pos hs]
   have h1:=(zAY hE h hs).mv
   exact h1.trans (zCe hE (fun n x h => (zB8 hE n h).mv) _ _ _ _ h1.hi)
 . rw [if_neg hs]; exact .refl h
theorem zHH (h : x.at' < l.length) (hs : sgZ l [64] x = true) : Pg l x (zEd l x).2:=by
 have h1:=zAY hE h hs
 have h2:=zm hE h1.mv.hi
 exact (h1.mw h2.mv).mw (zCq hE h2.mv.hi)
theorem zGc : ∀ (f : Nat) (acc : List D) (x : RS),x.at' < l.length -> Mw l x (dirsLZ l f acc x).2
 | 0,_,_,h => .refl h
 | f + 1,acc,x,h => by
   unfold dirsLZ
   by_cases hs : sgZ l [64] x = true
   . rw [if_pos hs]
     split
     . exact zBM h (by decide)
     . have h1:=(zHH hE h hs).mv
       exact h1.trans (zGc f _ _ h1.hi)
   . rw [if_neg hs]; exact .refl h
theorem zBK (h : x.at' < l.length) : Mw l x (zw l x).2:=zGc hE _ _ _ h
theorem spread_pg (h : x.at' < l.length) : Pg l x (zHo l x).2:=by
 have h1:=zm hE h
 exact h1.mw (zBK hE h1.mv.hi)
theorem inline_mw {sels : RS -> List D × RS} (hv : ∀ y,y.at' < l.length -> Mw l y (sels y).2) (h : x.at' < l.length) : Mw l x (zEj l sels x).2:=by
 have h1 : Mw l x (if wdZ l onT x = true then nameZ l (upZ x) else ([],x)).2:=by
  by_cases hs : wdZ l onT x = true
  . rw [if_pos hs]
    have h1:=(zDE hE h hs).mv
    exact h1.trans (zm hE h1.hi).mv
  . rw [if_neg hs]; exact .refl h
 have h2:=zBK hE h1.hi
 exact (h1.trans h2).trans (hv _ h2.hi)
theorem zJw (n : List UInt8 × RS) (h : n.2.at' < l.length) : Mw l n.2 (zAe l n).2:=by
 unfold zAe
 by_cases hs : sgZ l [58] n.2 = true
 . rw [if_pos hs]
   have h1:=(zAY hE h hs).mv
   exact h1.trans (zm hE h1.hi).mv
 . rw [if_neg hs]; exact .refl h
theorem field_pg {sels : RS -> List D × RS} (hv : ∀ y,y.at' < l.length -> Mw l y (sels y).2) (h : x.at' < l.length) : Pg l x (zEq l sels x).2:=by
 have h1:=zm hE h
 have h2:=zJw hE _ h1.mv.hi
 have h3:=zCq hE h2.hi
 have h4:=zBK hE h3.hi
 have h5 : Mw l (zw l (zv l (zAe l (nameZ l x)).2).2).2 (if sgZ l [123] (zw l (zv l (zAe l (nameZ l x)).2).2).2 = true then sels (zw l (zv l (zAe l (nameZ l x)).2).2).2 else ([],(zw l (zv l (zAe l (nameZ l x)).2).2).2)).2:=by
  split
  . exact hv _ h4.hi
  . exact .refl h4.hi
 exact (((h1.mw h2).mw h3).mw h4).mw h5
theorem zG3 {sels : RS -> List D × RS} (hv : ∀ y,y.at' < l.length -> Mw l y (sels y).2) (h : x.at' < l.length) : Pg l x (selZ l sels x).2:=by
 unfold selZ
 by_cases hs : sgZ l dotT x = true
 . rw [if_pos hs]
   have h1:=zAY hE h hs
   split
   . exact h1.mw (spread_pg hE h1.mv.hi).mv
   . exact h1.mw (inline_mw hE hv h1.mv.hi)
 . rw [if_neg hs]; exact field_pg hE hv h
theorem zBS {sel : RS -> D × RS} (hv : ∀ y,y.at' < l.length -> Pg l y (sel y).2) (n : Nat) (h : x.at' < l.length) : Pg l x (oneSel l sel n x).2:=by
 have h1 : Mw l x (if 64 <= n /\ (nmZ l x = true \/ sgZ l dotT x = true) then zk l 4 x else x):=zFR hE (by decide) h
 exact h1.pg (hv _ h1.hi)
theorem zHx (lv : Nat) (h : x.at' < l.length) : Pg l x (openZ l lv x):=by
 have h1 : Mw l x (if sgZ l [123] x = true /\ 24 < lv then zk l 5 x else x):=zFR hE (by decide) h
 exact h1.pg (zAB hE _ h1.hi)
theorem zDJ : ∀ (f lv : Nat) (x : RS),x.at' < l.length -> Mw l x (selsZ l f lv x).2
 | 0,_,_,h => .refl h
 | f + 1,lv,x,h => by
   unfold selsZ
   have h1:=(zHx hE lv h).mv
   exact h1.trans (zCe hE (fun n x h => (zBS hE (fun y hy => zG3 hE (fun z hz => zDJ f (lv + 1) z hz) hy) n h).mv) _ _ _ _ h1.hi)
theorem sels_pg (f lv : Nat) (h : x.at' < l.length) : Pg l x (selsZ l (f + 1) lv x).2:=by
 unfold selsZ
 have h1:=zHx hE lv h
 exact h1.mw (zCe hE (fun n x h => (zBS hE (fun y hy => zG3 hE (fun z hz => zDJ hE f (lv + 1) z hz) hy) n h).mv) _ _ _ _ h1.mv.hi)
theorem zIG (h : x.at' < l.length) : Mw l x (zHW l x).2:=by
 unfold zHW
 by_cases hs : sgZ l [61] x = true
 . rw [if_pos hs]
   have h1:=(zAY hE h hs).mv
   exact h1.trans (zDO hE true h1.hi).mv
 . rw [if_neg hs]; exact .refl h
theorem zEc (n : Nat) (h : x.at' < l.length) : Pg l x (oneVar l n x).2:=by
 have h1 : Mw l x (if 16 <= n /\ sgZ l [36] x = true then zk l 4 x else x):=zFR hE (by decide) h
 have h2:=zAB hE [36] h1.hi
 have h3:=zm hE h2.mv.hi
 have h4:=zAB hE [58] h3.mv.hi
 have h5:=zIg hE h4.mv.hi
 exact ((((h1.pg h2).mw h3.mv).mw h4.mv).mw h5.mv).mw (zIG hE h5.mv.hi)
theorem zFg (h : x.at' < l.length) : Mw l x (zBN l x).2:=by
 unfold zBN
 by_cases hs : sgZ l [40] x = true
 . rw [if_pos hs]
   have h1:=(zAY hE h hs).mv
   exact h1.trans (zCe hE (fun n x h => (zEc hE n h).mv) _ _ _ _ h1.hi)
 . rw [if_neg hs]; exact .refl h
theorem frag_mw (h : x.at' < l.length) : Mw l x (zGO l x).2:=by
 have h1:=zFp hE h
 have h2 : Mw l (zAA l x).2 (if wdZ l onT (zAA l x).2 = true then upZ (zAA l x).2 else zk l 3 (zAA l x).2):=.ite (fun hs => (zDE hE h1.mv.hi hs).mv) fun _ => zBM h1.mv.hi (by decide)
 have h3:=zm hE h2.hi
 exact ((h1.mv.trans h2).trans h3.mv).trans (zDJ hE 25 1 _ h3.mv.hi)
theorem knd_nm (h : 0 < kndZ l x) : nmZ l x = true:=by
 unfold kndZ at h
 split at h
 . assumption
 . exact absurd h (by decide)
theorem head_mw (k : Int) (h : x.at' < l.length) (hk : 0 < k -> nmZ l x = true) : Mw l x (headZ l k x).2:=by
 unfold headZ
 by_cases h0 : 0 < k
 . rw [if_pos h0]
   have h1:=(zH2 hE h (hk h0)).mv
   have h2 : Mw l (upZ x) (if nmZ l (upZ x) = true then nameZ l (upZ x) else ([],upZ x)).2:=by
    split
    . exact (zm hE h1.hi).mv
    . exact .refl h1.hi
   exact (h1.trans h2).trans (zFg hE h2.hi)
 . rw [if_neg h0]; exact .refl h
theorem op_pg (k : Int) (h : x.at' < l.length) (hk : 0 < k -> nmZ l x = true) : Pg l x (opZ l k x).2:=by
 have h1:=head_mw hE k h hk
 exact h1.pg (sels_pg hE 24 1 h1.hi)
theorem def_pg (q : List D × List D) (h : x.at' < l.length) : Pg l x (defZ l q x).2:=by
 unfold defZ
 split
 . exact zEE h (by decide)
 split
 . exact zEE h (by decide)
 by_cases hf : wdZ l zBH x = true
 . rw [if_pos hf]
   have h1:=zDE hE h hf
   exact h1.mw (frag_mw hE h1.mv.hi)
 . rw [if_neg hf]; exact op_pg hE _ h (knd_nm hE)
theorem docL_mw : ∀ (f : Nat) (q : List D × List D) (x : RS),x.at' < l.length -> Mw l x (docLZ l f q x).2
 | 0,_,_,h => .refl h
 | f + 1,q,x,h => by
   unfold docLZ
   split
   . have h1:=(def_pg hE q h).mv
     exact h1.trans (docL_mw f _ _ h1.hi)
   . exact .refl h
end
end Go.Proofs.YthjiclhfhjdjpaaGreatDoor
namespace Go.Proofs.YthjiclhfhjdjpaaGreatDoor
open Go.RowKit
attribute [local irreducible] wpList Calls Code.wp
section
variable {X : Cx} {nn : Nat} {st : Vst nn} {ops : Array Oper} {o : Oper}
theorem opOk_callR {K : Vst nn -> Prop} {f : FuncId} {vargs args : List V} {bs : List Res} {r : V} (ns : List Nat) (h : act1 X.P st.rs (ev st) o.op = .call f vargs) (hc : ACB X.e X.P f args bs r bs) (hnd : ns.Nodup) (ha : renL (φin ns) vargs = args)
 (hb : ns.map st.rs = bs.map some) (hp : ∀ ρ ∈ bs,∀ φ,renR φ ρ = ρ) (hK : K (st.put o.dst (renV (φout ns) r))) : OpOk X o st K:=by
 have hall:=fun ρ (h : ρ ∈ bs) φ => hp ρ h φ
 have hget : ∀ (i q : Nat),ns[i]? = some q -> bs[i]? = st.rs q:=fun i q hq => by
  have h3 : (ns.map st.rs)[i]? = (bs.map some)[i]?:=by rw [hb]
  rw [List.getElem?_map,List.getElem?_map,hq] at h3
  cases hbi : bs[i]? with
  | none => rw [hbi] at h3; simp at h3
  | some ρ => rw [hbi] at h3; simp at h3; exact h3.symm
 refine zAm ns h hc hnd ha ?_ ?_
 . rw [<- hb]
   refine List.map_congr_left fun q hq => ?_
   obtain ⟨i,hi⟩:=List.getElem?_of_mem hq
   cases hr : st.rs q with
   | none => rfl
   | some ρ =>
     have:=(hget i q hi).trans hr
     rw [Option.map_some,hall ρ (List.mem_of_getElem? this) _]
 . have e : bs.map (renR (φout ns)) = bs:=by
    conv => rhs; rw [<- List.map_id bs]
    exact List.map_congr_left fun ρ hρ => hall ρ hρ _
   have e2 : st.resN ns bs = st:=by
    unfold Vst.resN
    have : updN st.rs ns bs = st.rs:=by
     funext m
     unfold updN
     split
     . rename_i i hi; exact hget i m (zBV hi)
     . rfl
    rw [this]
   rw [e,e2]; exact hK
def gvD (ops : Array Oper) (st : Vst nn) (j : Nat) : Option (Option Bool):=
 match (ops[j]?).bind (·.dst) with
 | some d => match ev st (.tmp d) with | .c (.bool b) => some (some b) | .tup [] => some none | _ => none
 | none => none
def gwD (ops : Array Oper) (o : Oper) (st : Vst nn) : Option Bool:=
 match o.guard with
 | none => some true
 | some (j,want) => (gvD ops st j).map (· == some want)
theorem zJF {j : Nat} {b : Bool} (h : gval ops st j = some b) : gvD ops st j = some (some b):=by
 unfold gval at h
 unfold gvD
 split at h
 . rename_i d hd
   rw [hd]
   dsimp only
   split at h
   . rename_i b' hb; rw [hb]; cases h; rfl
   . cases h
 . cases h
theorem gvD_dead {j : Nat} {t : Tmp} (ht : (ops[j]?).bind (·.dst) = some t) (hu : ev st (.tmp t) = .tup []) : gvD ops st j = some none:=by
 unfold gvD
 rw [ht]
 dsimp only
 rw [hu]
theorem gwD_ok {s : Sg} {w : World} {a : Act} {b : Bool} (h : gwD ops o st = some b) (hI : Inv X st s w a) : Region.wanted o (yielded ops a.tmps) = b:=by
 unfold gwD at h
 split at h
 . rename_i hg; unfold Region.wanted; rw [hg]; cases h; rfl
 . rename_i j want hg
   obtain ⟨q,hq,rfl⟩:=Option.map_eq_some_iff.1 h
   cases q with
   | some b' =>
     have hb : gval ops st j = some b':=by
      unfold gvD at hq
      unfold gval
      split at hq
      . rename_i d hd
        rw [hd]
        dsimp only
        split at hq
        . rename_i b2 hb; rw [hb]; cases hq; rfl
        . cases hq
        . cases hq
      . cases hq
     unfold Region.wanted
     rw [hg]
     simp [zGK hb hI]
   | none =>
     unfold gvD at hq
     split at hq
     . rename_i t ht
       split at hq
       . cases hq
       . rename_i hu
         have hr:=hI.ev (.tmp t)
         rw [hu,rel] at hr
         have he : a.tmps.getD t undef = undef:=by
          obtain ⟨cs,h1,h2⟩:=hr
          have : cs = #[]:=by
           apply Array.ext'
           cases hc : cs.toList with
           | nil => rfl
           | cons x xs => rw [hc] at h2; simp [relL] at h2
          have h3 : a.tmps.getD t undef = .tuple cs:=h1
          rw [h3,this]; rfl
         have hy : yielded ops a.tmps j = none:=by
          unfold yielded
          rw [ht]
          simp only [Option.bind_some]
          rw [Array.getD_eq_getD_getElem?] at he
          cases hq : a.tmps[t]? with
          | none => simp
          | some u => rw [hq] at he; simp at he; rw [he]; rfl
         unfold Region.wanted
         rw [hg]
         cases hq
         simp [hy]
       . cases hq
     . cases hq
inductive YldT (X : Cx) (rd wr : List Nat) (o : Oper) (st : Vst nn) : V -> List (Nat × Res) -> Prop where
 | val {p : Prop} {v : V} (h : act1 X.P st.rs (ev st) o.op = .val p v) (hp : p) (hl : inO rd (loads (ev st) o.op) = true) : YldT X rd wr o st v []
 | valW {p : Prop} {v v' : V} (h : act1 X.P st.rs (ev st) o.op = .val p v) (hle : VLe v v') (hp : p) (hl : inO rd (loads (ev st) o.op) = true) : YldT X rd wr o st v' []
 | call {f : FuncId} {args : List V} {v : V} (h : act1 X.P st.rs (ev st) o.op = .call f args) (hc : AC X.e X.P f (outL args) v) : YldT X rd wr o st v []
 | lit {t e : TypeId} {b m : Nat} {parts : Array (Nat × Operand)} {ds : List D} (ho : o.op = .buildSlice t m parts) (he : z6 X.P t = some (e,b)) (hn : m = ds.length) (hs : m * X.P.cellsOf e <= 2 ^ 24) (hp : zCU X.P e (ev st) parts.toList 0 ds) : YldT X rd wr o st (.lit e ds) []
 | pick {c x y : Operand} {b : Bool} (ho : o.op = .pick c x y) (hc : ev st c = .c (.bool b)) : YldT X rd wr o st (bif b then ev st x else ev st y) []
 | callB {f : FuncId} {vargs args : List V} {bs bs' : List Res} {r : V} (ns : List Nat) (h : act1 X.P st.rs (ev st) o.op = .call f vargs) (hc : ACB X.e X.P f args bs r bs') (hnd : ns.Nodup) (ha : renL (φin ns) vargs = args) (hb : ns.map (fun n => (st.rs n).map (renR (φin ns))) = bs.map some)
    (hl : ns.all (fun n => wr.contains n) = true) (hlen : bs'.length = ns.length) : YldT X rd wr o st (renV (φout ns) r) (ns.zip (bs'.map (renR (φout ns))))
 | callR {f : FuncId} {vargs args : List V} {bs : List Res} {r : V} (ns : List Nat) (h : act1 X.P st.rs (ev st) o.op = .call f vargs) (hc : ACB X.e X.P f args bs r bs) (hnd : ns.Nodup) (ha : renL (φin ns) vargs = args) (hb : ns.map st.rs = bs.map some) (hp : ∀ ρ ∈ bs,∀ φ,renR φ ρ = ρ)
    (hl : ns.all (fun n => rd.contains n) = true) : YldT X rd wr o st (renV (φout ns) r) []
 | onlit {t e : TypeId} {b : Nat} {x y : Operand} {l l2 : List D} (ho : o.op = .call { callee:=.builtin .append,args:=#[x,y],argTypes:=#[t,t] }) (he : z6 X.P t = some (e,b)) (hleaf : ∀ d,(cellsV X.P 12 e d).all V.leaf = true)
    (hx : ev st x = .lit e l) (hy : (ev st y).out = .sl e l2) (hp : l.length + l2.length <= maxLen /\ (l.length + l2.length) * b <= 140737488355328) : YldT X rd wr o st (.sl e (l ++ l2)) []
 | app {t e : TypeId} {b k : Nat} {x y : Operand} {l l2 : List D} (hk : wr.contains k = true) (ho : o.op = .call { callee:=.builtin .append,args:=#[x,y],argTypes:=#[t,t] }) (he : z6 X.P t = some (e,b)) (hleaf : ∀ d,(cellsV X.P 12 e d).all V.leaf = true)
    (hx : ev st x = .own k e l) (hr : st.rs k = some (.tok e l.length)) (hy : (ev st y).out = .sl e l2) (hp : 0 < l2.length /\ l.length + l2.length <= maxLen /\ (l.length + l2.length) * b <= 140737488355328) :
    YldT X rd wr o st (.own k e (l ++ l2)) [(k,.tok e (l.length + l2.length))]
 | store {t t' : TypeId} {x y : Operand} {n off : Nat} {vs xs : List V} (hk : wr.contains n = true) (ho : o.op = .store t x y) (hd : o.dst = none) (hx : ev st x = .bx n off) (hr : st.rs n = some (.box t' vs)) (hc : cellsOf (ev st y) = some xs)
    (hs : X.P.cellsOf t = xs.length /\ (X.P.info? t).isSome) (hl : off + xs.length <= vs.length) : YldT X rd wr o st .any [(n,.box t' (splice vs off xs))]
def YldU (X : Cx) (ops : Array Oper) (rd wr : List Nat) (o : Oper) (st : Vst nn) (v : V) (u : List (Nat × Res)) : Prop:=
 (gwD ops o st = some true /\ YldT X rd wr o st v u) \/ (gwD ops o st = some false /\ v = .tup [] /\ u = [])
theorem opOk_yldT {rd wr : List Nat} {K : Vst nn -> Prop} {v : V} {u : List (Nat × Res)} (h : YldT X rd wr o st v u) (hK : K (stp st o.dst v u)) : OpOk X o st K:=by
 cases h with
 | val h hp hl => exact zC1 h hp hK
 | valW h hle hp hl => exact zEb _ h hle hp hK
 | call h hc => exact zCc h hc hK
 | lit ho he hn hs hp => exact zEB ho he hn hs hp hK
 | callR ns h hc hnd ha hb hp hl => exact opOk_callR ns h hc hnd ha hb hp hK
 | callB ns h hc hnd ha hb hl hlen =>
   refine zAm ns h hc hnd ha hb ?_
   unfold stp at hK
   rw [zCx hnd (by simpa using hlen)] at hK
   exact hK
 | pick ho hc => exact zA6 ho hc hK
 | onlit ho he hleaf hx hy hp => exact zBi ho he hleaf hx hy hp.1 hp.2 hK
 | app hk ho he hleaf hx hr hy hp =>
   unfold stp at hK; rw [zCF] at hK
   exact zAg ho he hleaf hx hr hy hp.1 hp.2.1 hp.2.2 hK
 | store hk ho hd hx hr hc hs hl =>
   unfold stp at hK; rw [zCF,hd] at hK
   exact zC2 ho hd hx hr hc hs hl hK
theorem YldT.congr {rd wr : List Nat} {st st' : Vst nn} {v : V} {u : List (Nat × Res)} (hev : ∀ x ∈ o.op.operands,ev st' x = ev st x) (hrs : ∀ n,rd.contains n = true \/ wr.contains n = true -> st'.rs n = st.rs n) (hact : inO rd (loads (ev st) o.op) = true -> act1 X.P st'.rs (ev st') o.op = act1 X.P st.rs (ev st) o.op)
 (hact2 : ∀ f args,act1 X.P st'.rs (ev st') o.op = .call f args ↔ act1 X.P st.rs (ev st) o.op = .call f args) (h : YldT X rd wr o st v u) : YldT X rd wr o st' v u:=by
 have hloads:=zBo o.op hev
 cases h with
 | val h hp hl => exact .val (by rw [hact hl]; exact h) hp (by rw [hloads]; exact hl)
 | valW h hle hp hl => exact .valW (by rw [hact hl]; exact h) hle hp (by rw [hloads]; exact hl)
 | call h hc => exact .call ((hact2 _ _).2 h) hc
 | lit ho he hn hs hp => exact .lit ho he hn hs (zBR _ _ _ (fun p hp => (hev p.2 (by rw [ho]; simp [Op.operands]; exact ⟨p.1,by simpa using hp⟩)).symm) hp)
 | callB ns h hc hnd ha hb hl hlen =>
   refine .callB ns ((hact2 _ _).2 h) hc hnd ha ?_ hl hlen
   rw [<- hb]
   exact List.map_congr_left fun q hq => by rw [hrs q (.inr (List.all_eq_true.1 hl q hq))]
 | callR ns h hc hnd ha hb hp hl =>
   refine .callR ns ((hact2 _ _).2 h) hc hnd ha ?_ hp hl
   rw [<- hb]
   exact List.map_congr_left fun q hq => hrs q (.inl (List.all_eq_true.1 hl q hq))
 | pick ho hc =>
   rename_i c x y b
   rw [<- hev c (by rw [ho]; simp [Op.operands])] at hc
   rw [<- hev x (by rw [ho]; simp [Op.operands]),<- hev y (by rw [ho]; simp [Op.operands])]
   exact .pick ho hc
 | onlit ho he hleaf hx hy hp =>
   rw [<- hev _ (by rw [ho]; simp [Op.operands,Call.operands])] at hx
   rw [<- hev _ (by rw [ho]; simp [Op.operands,Call.operands])] at hy
   exact .onlit ho he hleaf hx hy hp
 | app hk ho he hleaf hx hr hy hp =>
   rw [<- hev _ (by rw [ho]; simp [Op.operands,Call.operands])] at hx
   rw [<- hev _ (by rw [ho]; simp [Op.operands,Call.operands])] at hy
   exact .app hk ho he hleaf hx (by rw [hrs _ (.inr hk)]; exact hr) hy hp
 | store hk ho hd hx hr hc hs hl =>
   rw [<- hev _ (by rw [ho]; simp [Op.operands])] at hx
   rw [<- hev _ (by rw [ho]; simp [Op.operands])] at hc
   exact .store hk ho hd hx (by rw [hrs _ (.inr hk)]; exact hr) hc hs hl
theorem YldU.of {rd wr : List Nat} {d : Option Tmp} {v v' : V} {u u' : List (Nat × Res)} (hd : ∀ t,d = some t -> t ∉ o.looksAt ops) (hu : Off rd wr u') :
 YldU X ops rd wr o (stp st d v' u') v u ↔ YldU X ops rd wr o st v u:=by
 have hev : ∀ x ∈ o.op.operands,ev (stp st d v' u') x = ev st x:=fun x hx => zEr fun t ht hxt => hd t ht (by
  subst hxt
  exact List.mem_append_left _ (List.mem_filterMap.2 ⟨.tmp t,by simpa using hx,rfl⟩))
 have hloads:=zBo o.op hev
 have hact : inO rd (loads (ev st) o.op) = true -> act1 X.P (stp st d v' u').rs (ev (stp st d v' u')) o.op = act1 X.P st.rs (ev st) o.op:=fun hl => by
  rw [zBg o.op hev,zCZ]
  exact zJx hu _ hl
 have hact2 : ∀ f args,act1 X.P (stp st d v' u').rs (ev (stp st d v' u')) o.op = .call f args ↔ act1 X.P st.rs (ev st) o.op = .call f args:=fun f args => by
  rw [zBg o.op hev]
  cases ho : o.op
  case load t x =>
   have nob : ∀ rs,act1 X.P rs (ev st) (.load t x) ≠ .call f args:=fun rs h => by
    simp only [act1,zD1,zBz] at h
    repeat' (split at h)
    all_goals cases h
   exact ⟨fun h => (nob _ h).elim,fun h => (nob _ h).elim⟩
  case slice t x lo hi mx => cases mx <;> rfl
  all_goals rfl
 have hgv : ∀ j want,o.guard = some (j,want) -> gvD ops (stp st d v' u') j = gvD ops st j:=fun j want hg => by
  unfold gvD
  cases ht : (ops[j]?).bind (·.dst) with
  | none => rfl
  | some t =>
    have : ev (stp st d v' u') (.tmp t) = ev st (.tmp t):=zEr fun q hq hqt => by
     cases hqt
     exact hd t hq (by simp [Oper.looksAt,hg,ht])
    simp only [this]
 have hgw : gwD ops o (stp st d v' u') = gwD ops o st:=by
  unfold gwD
  cases hg : o.guard with
  | none => rfl
  | some jw => simp only [hgv jw.1 jw.2 hg]
 have hrs : ∀ n,rd.contains n = true \/ wr.contains n = true -> (stp st d v' u').rs n = st.rs n:=fun n hn => by
  rw [zCZ]; exact zD7 hu hn
 unfold YldU
 rw [hgw]
 refine or_congr (and_congr Iff.rfl ⟨fun h => ?_,fun h => ?_⟩) Iff.rfl
 . exact h.congr (fun x hx => (hev x hx).symm) (fun n hn => (hrs n hn).symm) (fun hl => (hact (by rw [hloads] at hl; exact hl)).symm) fun f args => (hact2 f args).symm
 . exact h.congr hev hrs hact hact2
theorem YldU.names {rd wr : List Nat} {v : V} {u : List (Nat × Res)} (h : YldU X ops rd wr o st v u) : ∀ p ∈ u,wr.contains p.1 = true:=by
 rcases h with ⟨_,h⟩ | ⟨_,_,rfl⟩
 . cases h with
   | app hk => exact fun p hp => by simp at hp; subst hp; exact hk
   | store hk => exact fun p hp => by simp at hp; subst hp; exact hk
   | callB ns h hc hnd ha hb hl hlen => exact fun p hp => List.all_eq_true.1 hl _ (List.of_mem_zip hp).1
   | _ => exact fun p hp => by simp at hp
 . exact fun p hp => by simp at hp
variable {rd wr : Nat -> List Nat}
def aOpU (X : Cx) (ops : Array Oper) (rd wr : Nat -> List Nat) (i : Nat) (K : Vst nn -> Prop) (st : Vst nn) : Prop:=
 match ops[i]? with
 | none => K st
 | some o => ∃ v u,YldU X ops (rd i) (wr i) o st v u /\ K (stp st o.dst v u)
theorem aOpU_mono {i : Nat} {K K' : Vst nn -> Prop} (h : ∀ st,K st -> K' st) (hh : aOpU X ops rd wr i K st) : aOpU X ops rd wr i K' st:=by
 unfold aOpU at *
 split
 . rename_i hn; simp only [hn] at hh; exact h _ hh
 . rename_i o ho
   simp only [ho] at hh
   obtain ⟨v,u,h1,h2⟩:=hh
   exact ⟨v,u,h1,h _ h2⟩
def absAnyU (X : Cx) (ops : Array Oper) (rd wr : Nat -> List Nat) (Q : Vst nn -> Prop) : Nat -> Array Bool -> Vst nn -> Prop
 | 0,listed,st => Region.ready .any ops listed = [] /\ Q st
 | fuel + 1,listed,st => (Region.ready .any ops listed = [] -> Q st) /\ ∀ i ∈ Region.ready .any ops listed,aOpU X ops rd wr i (absAnyU X ops rd wr Q fuel (listed.setIfInBounds i true)) st
theorem aOpU_put {i j : Nat} {oi oj : Oper} {v : V} {u : List (Nat × Res)} (hj : ops[j]? = some oj) (hap : oi.apart ops oj = true) (hn : zBv (wr i) (rd j) = true /\ zBv (wr i) (wr j) = true /\ zBv (wr j) (rd i) = true) {K : Vst nn -> Prop} (hy : YldU X ops (rd i) (wr i) oi st v u) (h : aOpU X ops rd wr j K (stp st oi.dst v u)) :
 aOpU X ops rd wr j (fun st' => YldU X ops (rd i) (wr i) oi st' v u /\ K (stp st' oi.dst v u)) st:=by
 obtain ⟨h1,h2,h3⟩:=Oper.apart_spec hap
 unfold aOpU at *
 simp only [hj] at *
 obtain ⟨v',u',hy',hK⟩:=h
 have hu : Off (rd j) (wr j) u:=fun p hp => by
  have hw:=hy.names p hp
  refine ⟨?_,?_⟩
  . cases hq : (rd j).contains p.1
    . rfl
    . exact (zAa hn.1 hw hq).elim
  . cases hq : (wr j).contains p.1
    . rfl
    . exact (zAa hn.2.1 hw hq).elim
 have hyj : YldU X ops (rd j) (wr j) oj st v' u':=(YldU.of h1 hu).1 hy'
 have hu' : Off (rd i) (wr i) u':=fun p hp => by
  have hw:=hyj.names p hp
  refine ⟨?_,?_⟩
  . cases hq : (rd i).contains p.1
    . rfl
    . exact (zAa hn.2.2 hw hq).elim
  . cases hq : (wr i).contains p.1
    . rfl
    . exact (zAa hn.2.1 hq hw).elim
 have huu : ∀ p ∈ u,∀ q ∈ u',p.1 ≠ q.1:=fun p hp q hq e => by
  have h5:=hy.names p hp
  have h6:=hyj.names q hq
  rw [<- e] at h6
  exact zAa hn.2.1 h5 h6
 exact ⟨v',u',hyj,(YldU.of h3 hu').2 hy,by rw [<- zES h2 huu]; exact hK⟩
theorem zGk {Q : Vst nn -> Prop} {i : Nat} {oi : Oper} {v : V} {u : List (Nat × Res)} (hi : ops[i]? = some oi) (hN : zB9 ops rd wr = true) :
 ∀ (fuel : Nat) (listed : Array Bool) (st : Vst nn),Closed ops listed -> (∀ j,j < i -> listed.getD j false = true) ->
   (∀ j oj,ops[j]? = some oj -> j ≠ i -> listed.getD j true = false -> (∀ e ∈ oj.after,Region.binds .any e = true -> e.on ≠ i) -> oi.apart ops oj = true) ->
   i ∈ Region.ready .any ops listed -> YldU X ops (rd i) (wr i) oi st v u ->
   absAnyU X ops rd wr Q fuel (listed.setIfInBounds i true) (stp st oi.dst v u) -> absAnyU X ops rd wr Q (fuel + 1) listed st:=by
 intro fuel
 induction fuel with
 | zero =>
   intro listed st _ _ _ hr hy H
   refine ⟨fun h => (by rw [h] at hr; cases hr),fun j hj => ?_⟩
   by_cases hji : j = i
   . subst hji; unfold aOpU; simp only [hi]; exact ⟨v,u,hy,H⟩
   . have:=ready_mono hj hji
     rw [H.1] at this
     cases this
 | succ fuel ih =>
   intro listed st hcl hlow hfree hr hy H
   refine ⟨fun h => (by rw [h] at hr; cases hr),fun j hj => ?_⟩
   by_cases hji : j = i
   . subst hji; unfold aOpU; simp only [hi]; exact ⟨v,u,hy,H⟩
   . have h1:=H.2 j (ready_mono hj hji)
     obtain ⟨hjun,oj,hoj,hall⟩:=mem_ready.1 hj
     have hiun:=(mem_ready.1 hr).1
     have hnot : ∀ e ∈ oj.after,Region.binds .any e = true -> e.on ≠ i:=fun e he hb heq => by
      have h1:=hall e he hb
      rw [heq] at h1
      exact zAT hiun h1
     have hij : i < j:=by
      rcases Nat.lt_trichotomy i j with h | h | h
      . exact h
      . exact absurd h.symm hji
      . exact (zAT hjun (hlow j h)).elim
     have hsz : j < ops.size:=(Array.getElem?_eq_some_iff.1 hoj).1
     have hnm : zBv (wr i) (rd j) = true /\ zBv (wr i) (wr j) = true /\ zBv (wr j) (rd i) = true:=by
      have h2:=List.all_eq_true.1 (List.all_eq_true.1 hN j (List.mem_range.2 hsz)) i (List.mem_range.2 hij)
      rw [Bool.or_eq_true] at h2
      rcases h2 with h2 | h2
      . simp only [Bool.and_eq_true] at h2; exact ⟨h2.1.1,h2.1.2,h2.2⟩
      . refine (zAT hiun (zDV hcl _ _ (fun k hk => ?_) i (by simpa using h2))).elim
        unfold zE9 at hk
        rw [hoj] at hk
        obtain ⟨e,he,rfl⟩:=List.mem_map.1 hk
        obtain ⟨h2,h3⟩:=List.mem_filter.1 he
        exact hall e (by simpa using h2) h3
     have h2:=aOpU_put (i:=i) hoj (hfree j oj hoj hji hjun hnot) hnm hy h1
     have hfree' : ∀ k ok,ops[k]? = some ok -> k ≠ i -> (listed.setIfInBounds j true).getD k true = false ->
      (∀ e ∈ ok.after,Region.binds .any e = true -> e.on ≠ i) -> oi.apart ops ok = true:=fun k ok hk hki hun hno => by
      refine hfree k ok hk hki ?_ hno
      by_cases hjk : j = k
      . subst hjk; exact hjun
      . rw [getD_set_ne true hjk] at hun; exact hun
     refine aOpU_mono (fun st' h3 => ih (listed.setIfInBounds j true) st' (hcl.set hj) (fun k hk => getD_set_true (hlow k hk)) hfree' (ready_mono hr (Ne.symm hji)) h3.1 ?_) h2
     rw [Array.setIfInBounds_comm _ _ hji]
     exact h3.2
def absLexU (X : Cx) (ops : Array Oper) (rd wr : Nat -> List Nat) (Q : Vst nn -> Prop) : Nat -> List Oper -> Vst nn -> Prop
 | _,[],st => Q st
 | k,o :: rest,st => ∃ v u,YldU X ops (rd k) (wr k) o st v u /\ absLexU X ops rd wr Q (k + 1) rest (stp st o.dst v u)
theorem zE7 {Q : Vst nn -> Prop} (hN : zB9 ops rd wr = true) : ∀ (l : List Oper) (k : Nat) (listed : Array Bool) (st : Vst nn),(∀ j,l[j]? = ops[k + j]?) -> Closed ops listed -> (∀ j,j < k -> listed.getD j false = true) -> listed.size = ops.size ->
 Region.lexFrom .any ops l.length k listed = true -> absLexU X ops rd wr Q k l st -> absAnyU X ops rd wr Q l.length listed st
 | [],_,_,_,_,_,_,_,hB,h => ⟨by simpa [Region.lexFrom] using hB,h⟩
 | o :: l,k,listed,st,hl,hcl,hlow,hsz,hB,h => by
   have h0 : ops[k]? = some o:=by simpa using (hl 0).symm
   have hk : k < ops.size:=(Array.getElem?_eq_some_iff.1 h0).1
   simp only [List.length_cons,Region.lexFrom,Bool.and_eq_true] at hB
   obtain ⟨⟨hr,hf⟩,hB'⟩:=hB
   have hr : k ∈ Region.ready .any ops listed:=by simpa using hr
   obtain ⟨v,u,hy,hK⟩:=h
   exact zGk h0 hN l.length listed st hcl hlow (Region.free_spec h0 hf) hr hy
    (zE7 hN l (k + 1) _ _ (fun j => by have:=hl (j + 1); simpa [Nat.add_assoc,Nat.add_comm 1 j] using this) (hcl.set hr) (fun j hj => by
      by_cases e : j = k
      . subst e; exact zCH (by omega)
      . exact getD_set_true (hlow j (by omega))) (by simpa using hsz) hB' hK)
theorem zBc {Q : Vst nn -> Prop} {Q' : Exit -> Act -> World -> Prop} (hP : PQ X nn Q') (hQ : ∀ st' s' w' a',Inv X st' s' w' a' -> Q st' -> Q' .normal a' w') : ∀ (fuel : Nat) (listed : Array Bool) (st : Vst nn) (s : Sg) (w : World) (a : Act),Inv X st s w a ->
 absAnyU X ops rd wr Q fuel listed st -> wpAny X.P .any ops Q' fuel listed a w
 | 0,_,_,_,_,_,hI,h => ⟨h.1,hQ _ _ _ _ hI h.2⟩
 | fuel + 1,listed,st,s,w,a,hI,h => ⟨fun h0 => hQ _ _ _ _ hI (h.1 h0),fun i hi => by
   have h1:=h.2 i hi
   unfold aOpU at h1
   unfold wpOp
   cases ho : ops[i]? with
   | none =>
     simp only [ho] at h1 |-
     exact zBc hP hQ fuel _ st s w a hI h1
   | some o =>
     simp only [ho] at h1 |-
     obtain ⟨v,u,hy,hK⟩:=h1
     rcases hy with ⟨hg,hy⟩ | ⟨hg,rfl,rfl⟩
     . rw [if_pos (gwD_ok hg hI)]
       exact .inl (opOk_yldT (K:=absAnyU X ops rd wr Q fuel (listed.setIfInBounds i true)) hy hK s w a hI _ _ hP fun st' s' w' a' hI' hK' => zBc hP hQ fuel _ st' s' w' a' hI' hK')
     . rw [if_neg (by rw [gwD_ok hg hI]; simp)]
       exact zBc hP hQ fuel _ _ s w (a.put o.dst undef) (hI.put o.dst (by rw [rel]; exact ⟨#[],rfl,by simp [relL]⟩)) hK⟩
theorem aw_drawU (r w : List (Nat × List Nat)) {id : Nat} {l : List Oper} {K : Exit -> Vst nn -> Prop} (hm : X.P.follows .mixedOrders = true) (hB : Region.lexB .any l.toArray = true) (hN : zB9 l.toArray (nmf r) (nmf w) = true) (h : absLexU X l.toArray (nmf r) (nmf w) (K .normal) 0 l st) : AW X (.region id l.toArray true) st K:=fun s wd a hI => by
 simp only [Region.lexB,Bool.and_eq_true] at hB
 refine wp_region_any hm (zBc (rd:=nmf r) (wr:=nmf w) (Q:=K .normal) (fun pv st' s' w' a' hI' hp => ⟨st',s',hI',.inr ⟨pv,rfl,hp⟩⟩) (fun st' s' w' a' hI' hK => ⟨st',s',hI',.inl hK⟩) _ _ st s _ a hI.drew ?_)
 have:=zE7 (X:=X) (rd:=nmf r) (wr:=nmf w) (Q:=K .normal) hN l 0 (Array.replicate l.toArray.size false) st (by simp) (fun k o _ hk => by
  have e : (Array.replicate l.toArray.size false).getD k false = false:=by
   rw [Array.getD_eq_getD_getElem?,Array.getElem?_replicate]
   split <;> rfl
  rw [e] at hk; cases hk) (fun j hj => absurd hj (Nat.not_lt_zero j)) (by simp) (by simpa using hB.2) h
 simpa using this
section
variable {l : List Oper} {Q : Vst nn -> Prop} {d : Option Tmp} {k : Nat}
theorem zFo (h : Q st) : absLexU X ops rd wr Q k [] st:=h
theorem zFm {p : Prop} {v : V} (hg : o.guard = none) (hd : o.dst = d) (h : act1 X.P st.rs (ev st) o.op = .val p v) (hK : absLexU X ops rd wr Q (k + 1) l (st.put d v)) (hp : p) (hl : inO (rd k) (loads (ev st) o.op) = true) : absLexU X ops rd wr Q k (o :: l) st:=
 ⟨v,[],.inl ⟨by simp [gwD,hg],.val h hp hl⟩,by rw [hd]; exact hK⟩
theorem u_lit {t e : TypeId} {by_ m : Nat} {parts : Array (Nat × Operand)} (ds : List D) (hg : o.guard = none) (ho : o.op = .buildSlice t m parts) (hd : o.dst = d) (he : z6 X.P t = some (e,by_)) (hn : m = ds.length) (hsm : Nat.ble (m * X.P.cellsOf e) (2 ^ 24) = true)
 (hp : zCU X.P e (ev st) parts.toList 0 ds) (hK : absLexU X ops rd wr Q (k + 1) l (st.put d (.lit e ds))) : absLexU X ops rd wr Q k (o :: l) st:=
 ⟨_,[],.inl ⟨by simp [gwD,hg],.lit ho he hn (Nat.le_of_ble_eq_true hsm) hp⟩,by rw [hd]; exact hK⟩
theorem u_callB {f : FuncId} {vargs args : List V} {bs bs' : List Res} {r : V} (ns : List Nat) (hg : o.guard = none) (hd : o.dst = d) (h : act1 X.P st.rs (ev st) o.op = .call f vargs) (hc : ACB X.e X.P f args bs r bs') (hnd : ns.Nodup) (ha : renL (φin ns) vargs = args) (hb : ns.map (fun n => (st.rs n).map (renR (φin ns))) = bs.map some)
 (hlen : bs'.length = ns.length) (hl : ns.all (fun n => (wr k).contains n) = true) (hK : absLexU X ops rd wr Q (k + 1) l ((st.resN ns (bs'.map (renR (φout ns)))).put d (renV (φout ns) r))) : absLexU X ops rd wr Q k (o :: l) st:=
 ⟨_,_,.inl ⟨by simp [gwD,hg],.callB ns h hc hnd ha hb hl hlen⟩,by rw [hd,stp_two,zCx hnd (by simpa using hlen)]; exact hK⟩
theorem u_app {t e : TypeId} {by_ q : Nat} {x y : Operand} {l1 l2 : List D} (hg : o.guard = none) (ho : o.op = .call { callee:=.builtin .append,args:=#[x,y],argTypes:=#[t,t] }) (hd : o.dst = d) (he : z6 X.P t = some (e,by_))
 (hleaf : ∀ d,(cellsV X.P 12 e d).all V.leaf = true) (hx : ev st x = .own q e l1) (hw : (wr k).contains q = true) (hr : st.rs q = some (.tok e l1.length)) (hy : (ev st y).out = .sl e l2) (hK : absLexU X ops rd wr Q (k + 1) l ((st.res q (.tok e (l1.length + l2.length))).put d (.own q e (l1 ++ l2))))
 (hp : 0 < l2.length /\ l1.length + l2.length <= maxLen /\ (l1.length + l2.length) * by_ <= 140737488355328) : absLexU X ops rd wr Q k (o :: l) st:=
 ⟨_,_,.inl ⟨by simp [gwD,hg],.app hw ho he hleaf hx hr hy hp⟩,by rw [hd,zB1]; exact hK⟩
theorem zHi {t : TypeId} {x y : Operand} {m off : Nat} {t' : TypeId} {vs xs : List V} (hg : o.guard = none) (ho : o.op = .store t x y) (hd : o.dst = none) (hx : ev st x = .bx m off) (hw : (wr k).contains m = true) (hr : st.rs m = some (.box t' vs)) (hc : cellsOf (ev st y) = some xs)
 (hs : X.P.cellsOf t = xs.length /\ (X.P.info? t).isSome) (hl : Nat.ble (off + xs.length) vs.length = true) (hK : absLexU X ops rd wr Q (k + 1) l (st.res m (.box t' (splice vs off xs)))) : absLexU X ops rd wr Q k (o :: l) st:=
 ⟨_,_,.inl ⟨by simp [gwD,hg],.store hw ho hd hx hr hc hs (Nat.le_of_ble_eq_true hl)⟩,by rw [hd,zB1]; exact hK⟩
theorem zFE {j : Nat} {want b : Bool} (hg : o.guard = some (j,want)) (hd : o.dst = d) (hb : gval ops st j = some b) (hne : (b == want) = false) (hK : absLexU X ops rd wr Q (k + 1) l (st.put d (.tup []))) : absLexU X ops rd wr Q k (o :: l) st:=
 ⟨.tup [],[],.inr ⟨by simp [gwD,hg,zJF hb,hne],rfl,rfl⟩,by rw [hd]; exact hK⟩
theorem zCz {c x y : Operand} {b : Bool} (hg : o.guard = none) (ho : o.op = .pick c x y) (hd : o.dst = d) (hc : ev st c = .c (.bool b)) (hb : b = true) (hK : absLexU X ops rd wr Q (k + 1) l (st.put d (ev st x))) : absLexU X ops rd wr Q k (o :: l) st:=
 ⟨_,[],.inl ⟨by simp [gwD,hg],.pick ho hc⟩,by rw [hd,hb]; exact hK⟩
theorem zFn {c x y : Operand} {b : Bool} (hg : o.guard = none) (ho : o.op = .pick c x y) (hd : o.dst = d) (hc : ev st c = .c (.bool b)) (hb : b = false) (hK : absLexU X ops rd wr Q (k + 1) l (st.put d (ev st y))) : absLexU X ops rd wr Q k (o :: l) st:=
 ⟨_,[],.inl ⟨by simp [gwD,hg],.pick ho hc⟩,by rw [hd,hb]; exact hK⟩
theorem zAX {j : Nat} {want b : Bool} {p : Prop} {v : V} (hg : o.guard = some (j,want)) (hd : o.dst = d) (hb : gval ops st j = some b) (hne : (b == want) = true) (h : act1 X.P st.rs (ev st) o.op = .val p v) (hK : absLexU X ops rd wr Q (k + 1) l (st.put d v)) (hp : p) (hl : inO (rd k) (loads (ev st) o.op) = true) : absLexU X ops rd wr Q k (o :: l) st:=
 ⟨v,[],.inl ⟨by simp [gwD,hg,zJF hb,hne],.val h hp hl⟩,by rw [hd]; exact hK⟩
theorem zDQ {j : Nat} {want b : Bool} {f : FuncId} {args : List V} {r : V} (hg : o.guard = some (j,want)) (hd : o.dst = d) (hb : gval ops st j = some b) (hne : (b == want) = true) (h : act1 X.P st.rs (ev st) o.op = .call f args) (hc : AC X.e X.P f (outL args) r) (hK : absLexU X ops rd wr Q (k + 1) l (st.put d r)) : absLexU X ops rd wr Q k (o :: l) st:=
 ⟨r,[],.inl ⟨by simp [gwD,hg,zJF hb,hne],.call h hc⟩,by rw [hd]; exact hK⟩
theorem zHj {j : Nat} {want b : Bool} {p : Prop} {v : V} (hg : o.guard = some (j,want)) (hd : o.dst = d) (hb : gval ops st j = some b) (h : act1 X.P st.rs (ev st) o.op = .val p v) (hK : (b == want) = true -> absLexU X ops rd wr Q (k + 1) l (st.put d v)) (hp : (b == want) = true -> p)
 (hl : inO (rd k) (loads (ev st) o.op) = true) (hN : (b == want) = false -> absLexU X ops rd wr Q (k + 1) l (st.put d (.tup []))) : absLexU X ops rd wr Q k (o :: l) st:=by
 cases e : b == want
 . exact zFE hg hd hb e (hN e)
 . exact zAX hg hd hb e h (hK e) (hp e) hl
theorem zGx {tR : TypeId} {f : FuncId} {m : Nat} {vs az cs : List V} {r : V} (hg : o.guard = none) (hd : o.dst = d) (h : act1 X.P st.rs (ev st) o.op = .call f vs) (hv : vs = .bx m 0 :: az) (hr : st.rs m = some (.box tR cs)) (hren : ∀ φ,renL φ cs = cs)
 (hc : ACB X.e X.P f (.bx (pn 0) 0 :: az) [.box tR cs] r [.box tR cs]) (haz : ∀ φ,renL φ az = az) (hrr : ∀ φ,renV φ r = r) (hl : (rd k).contains m = true) (hK : absLexU X ops rd wr Q (k + 1) l (st.put d r)) : absLexU X ops rd wr Q k (o :: l) st:=by
 subst hv
 refine ⟨_,[],.inl ⟨by simp [gwD,hg],.callR [m] h hc (by simp) (by simp only [renL,renV,φin_one,haz]) (by simp [hr]) (fun ρ hp φ => ?_) (by simpa using hl)⟩,?_⟩
 . simp only [List.mem_singleton] at hp
   subst hp
   simp only [renR,hren]
 . rw [hd,hrr]; exact hK
theorem u_m {S : Type} {tR : TypeId} {f : FuncId} {m : Nat} {vs az cs : List V} {x x' : S} {r : V} (cl : S -> List V) (hren : ∀ φ x,renL φ (cl x) = cl x) (hg : o.guard = none) (hd : o.dst = d) (h : act1 X.P st.rs (ev st) o.op = .call f vs) (hv : vs = .bx m 0 :: az) (hr : st.rs m = some (.box tR cs)) (hx : cs = cl x)
 (hc : ACB X.e X.P f (.bx (pn 0) 0 :: az) [.box tR (cl x)] r [.box tR (cl x')]) (haz : ∀ φ,renL φ az = az) (hrr : ∀ φ,renV φ r = r) (hl : [m].all (fun n => (wr k).contains n) = true) (hK : absLexU X ops rd wr Q (k + 1) l ((st.res m (.box tR (cl x'))).put d r)) : absLexU X ops rd wr Q k (o :: l) st:=by
 subst hv
 subst hx
 refine u_callB [m] hg hd h hc (by simp) (by simp only [renL,renV,φin_one,haz]) (by simp [hr,renR,hren]) rfl hl ?_
 rw [zF0 (fun φ => hren φ x'),zCK,hrr]
 exact hK
theorem u_dead {j : Nat} {want : Bool} {q : Tmp} (hg : o.guard = some (j,want)) (hd : o.dst = d) (ht : (ops[j]?).bind (·.dst) = some q) (hu : ev st (.tmp q) = .tup []) (hK : absLexU X ops rd wr Q (k + 1) l (st.put d (.tup []))) : absLexU X ops rd wr Q k (o :: l) st:=
 ⟨.tup [],[],.inr ⟨by simp [gwD,hg,gvD_dead ht hu],rfl,rfl⟩,by rw [hd]; exact hK⟩
theorem u_wpick {c x y : Operand} {j : Nat} {want b b2 : Bool} (hg : o.guard = some (j,want)) (ho : o.op = .pick c x y) (hd : o.dst = d) (hb : gval ops st j = some b) (hne : (b == want) = true) (hc : ev st c = .c (.bool b2)) (hK : absLexU X ops rd wr Q (k + 1) l (st.put d (bif b2 then ev st x else ev st y))) : absLexU X ops rd wr Q k (o :: l) st:=
 ⟨_,[],.inl ⟨by simp [gwD,hg,zJF hb,hne],.pick ho hc⟩,by rw [hd]; exact hK⟩
theorem u_wpick_t {c x y : Operand} {j : Nat} {want b b2 : Bool} (hg : o.guard = some (j,want)) (ho : o.op = .pick c x y) (hd : o.dst = d) (hb : gval ops st j = some b) (hne : (b == want) = true) (hc : ev st c = .c (.bool b2)) (h2 : b2 = true) (hK : absLexU X ops rd wr Q (k + 1) l (st.put d (ev st x))) : absLexU X ops rd wr Q k (o :: l) st:=
 u_wpick hg ho hd hb hne hc (by rw [h2]; exact hK)
theorem zGw {c x y : Operand} {j : Nat} {want b b2 : Bool} (hg : o.guard = some (j,want)) (ho : o.op = .pick c x y) (hd : o.dst = d) (hb : gval ops st j = some b) (hne : (b == want) = true) (hc : ev st c = .c (.bool b2)) (h2 : b2 = false) (hK : absLexU X ops rd wr Q (k + 1) l (st.put d (ev st y))) : absLexU X ops rd wr Q k (o :: l) st:=
 u_wpick hg ho hd hb hne hc (by rw [h2]; exact hK)
theorem zAd (n : Nat) (r w : List (Nat × List Nat)) {id : Nat} {l : List Oper} {K : Exit -> Vst nn -> Prop} (hn : l.length = n) (hm : X.P.follows .mixedOrders = true) (hB : Region.lexB .any l.toArray = true) (hN : zB9 l.toArray (nmf r) (nmf w) = true) (h : absLexU X l.toArray (nmf r) (nmf w) (K .normal) 0 l st) : AW X (.region id l.toArray true) st K:=
 aw_drawU r w hm hB hN h
end
end
end Go.Proofs.YthjiclhfhjdjpaaGreatDoor
namespace Go.Proofs.YthjiclhfhjdjpaaGreatDoor
open Go.RowKit
set_option linter.unusedSectionVars false
attribute [local irreducible] wpList Calls Code.wp AW AWo OpOk seqK zAI zAO loopK endK AC zp Yld Sub
attribute [local irreducible] ACB ACX ACE absLexG YldG absLexU YldU
def zf (l : List Tok) (x : RS) : List V:=[.sl 135 (l.map tokD),.c (.int .i64 (x.at' : Int)),.c (.int .i64 (x.ct : Int)),.c (.bool x.fx),.c (.int .i64 x.er),.c (.int .i64 (x.wr : Int))]
def boxF (l : List Tok) (x : RS) : Res:=.box 133 (zf l x)
theorem zt (l : List Tok) (x : RS) : zf l x = zf l x:=rfl
theorem zCO (l : List Tok) (x : RS) : [V.sl 135 (l.map tokD),.c (.int .i64 ((x.at' : Int) + 1)),.c (.int .i64 (x.ct : Int)),.c (.bool x.fx),.c (.int .i64 x.er),.c (.int .i64 (x.wr : Int))] = zf l (upZ x):=rfl
theorem zH (l : List Tok) (φ : Nat -> Option Nat) (x : RS) : renL φ (zf l x) = zf l x:=rfl
theorem zCN (l : List Tok) {a : Nat} (h : a < l.length) : gD (l.map tokD) a = tokD (l.getD a ⟨5,[],0⟩):=by
 unfold gD
 rw [List.getD_eq_getElem?_getD,List.getD_eq_getElem?_getD,List.getElem?_map,List.getElem?_eq_getElem h]; rfl
theorem zCB (l : List Tok) {a : Nat} (h : a < l.length) : 0 <= (a : Int) /\ (a : Int) < ((l.map tokD).length : Int):=⟨by omega,by rw [List.length_map]; omega⟩
section
variable (l : List Tok) (x : RS)
theorem zFV (e : Int) (a : Nat) (ha : a < l.length) : ACB EN5 Tryz.prog 224 [.bx (pn 0) 0,.c (.int .i64 e),.c (.int .i64 (a : Int))] [boxF l x] (.tup []) [boxF l (zCC l e a x)]:=by
 have hgd:=zCN l ha
 refine zZ (fn:=Tryz.f224) 26 Tryz.func224 rfl rfl ?_
 intro pas w0 w he hp
 repeat' (first
|refine zA ?_
|refine zB ?_
|refine zG ?_
|apply aw_1
 conv => whnf
 refine ⟨?_,trivial⟩
|apply s_1
 conv => whnf; arg 1; arg 4; arg 3; whnf
 refine ⟨?_,?_⟩
|apply zI rfl rfl rfl
 . conv => lhs; whnf
 . conv => lhs; whnf; arg 1; whnf
 . conv => lhs; whnf; arg 1; whnf
 . exact ⟨by kernel_rfl,by kernel_rfl⟩
 . rfl
|refine zg (by conv => lhs; whnf) ?_ ?_ <;> intro hb
|refine zq ⟨?_,?_⟩
|exact (rfl : _ = V.tup [])
|exact trivial)
 all_goals first
  | exact zCB l ha
  | rfl
  | skip
 . have h : x.er = 0:=by simpa using (by assumption : (x.er == 0) = true)
   refine ⟨?_,trivial⟩
   unfold zCC
   rw [if_pos h]
   show some (Res.box _ [_,_,_,_,.c (.int .i64 e),.c (.int .i64 ((gD (l.map tokD) a).f 2).n)]) = _
   rw [hgd]; rfl
 . have h : ¬ x.er = 0:=by simpa using (by assumption : (x.er == 0) = false)
   refine ⟨?_,trivial⟩
   unfold zCC
   rw [if_neg h]; rfl
theorem zAS (e : Int) (h : x.at' < l.length) : ACB EN5 Tryz.prog 147 [.bx (pn 0) 0,.c (.int .i64 e)] [boxF l x] (.tup []) [boxF l (zk l e x)]:=by
 have h1:=zFV l x e x.at' h
 refine zZ (fn:=Tryz.f147) 11 Tryz.func147 rfl rfl ?_
 intro pas w0 w he hp
 repeat' (first
|apply s_m (zf l) (zH l) rfl
 . conv => lhs; whnf
 . conv => lhs; whnf
 . rfl
 . conv => lhs; whnf; arg 1; whnf
 . first | exact zt _ _
 . first | exact h1
 . exact fun _ => rfl
 . exact fun _ => rfl
|refine zA ?_
|refine zB ?_
|apply s_1
 conv => whnf; arg 1; arg 4; arg 3; whnf
 refine ⟨?_,?_⟩
|refine zq ⟨?_,?_⟩
|exact (rfl : _ = V.tup [])
|exact trivial)
 all_goals first
  | rfl
  | exact ⟨rfl,trivial⟩
theorem zAq (h : x.at' < l.length) : ACB EN5 Tryz.prog 144 [.bx (pn 0) 0] [boxF l x] (.c (.bool (nmZ l x))) [boxF l x]:=by
 have hgd : gD (l.map tokD) ((x.at' : Int)).toNat = tokD (tkZ l x):=zCN l h
 have e : nmZ l x = ((x.er == 0) && ((tkZ l x).k == 2)):=rfl
 rw [e]
 refine zZ (fn:=Tryz.f144) 22 Tryz.func144 rfl rfl ?_
 intro pas w0 w he hp
 repeat' (first
|refine zA ?_
|refine zB ?_
|refine zG ?_
|apply aw_1
 conv => whnf
 refine ⟨?_,trivial⟩
|apply s_1
 conv => whnf; arg 1; arg 4; arg 3; whnf
 refine ⟨?_,?_⟩
|apply zBY (by kernel_rfl) (by kernel_rfl)
|apply zDz
|apply zFd rfl rfl
 . conv => lhs; whnf
 . conv => lhs; whnf
 . first | exact bT1 ‹_› | exact bT2 ‹_›
|apply zCt rfl rfl
 . conv => lhs; whnf
 . conv => lhs; whnf
 . first | exact bF1 ‹_› | exact bF2 ‹_›
|apply zDy rfl
 . conv => lhs; whnf
 . conv => lhs; whnf; arg 2; whnf
|apply zAf rfl
 . conv => lhs; whnf
 . conv => lhs; whnf
 . first | rfl | assumption
 . conv => lhs; whnf; arg 2; whnf
|apply zIQ rfl
 . conv => lhs; whnf
 . conv => lhs; whnf
 . first | rfl | assumption
|apply zDD rfl
 . conv => lhs; whnf
 . conv => lhs; whnf
 . conv => lhs; whnf; arg 2; whnf
|exact zAK
|exact zA1
|exact (1000000 : Nat)
|refine zq ⟨?_,?_⟩
|refine ⟨_,by conv => lhs; whnf; arg 2; whnf,?_⟩; conv => rhs; whnf
|exact trivial
|intro hg)
 all_goals first
  | exact zCB l h
  | exact ⟨rfl,trivial⟩
  | skip
 . have h0 : (x.er == 0) = true:=bT1 ‹_›
   rw [hgd,h0]; rfl
 . have h0 : (x.er == 0) = false:=bF1 ‹_›
   rw [h0]; rfl
theorem zr (h : x.at' < l.length) (s : List UInt8) : ACB EN5 Tryz.prog 146 [.bx (pn 0) 0,.c (.string (bs s))] [boxF l x] (.c (.bool (sgZ l s x))) [boxF l x]:=by
 have hgd : gD (l.map tokD) ((x.at' : Int)).toNat = tokD (tkZ l x):=zCN l h
 have e : sgZ l s x = ((x.er == 0) && ((tkZ l x).k == 1) && ((bs (tkZ l x).s).toList == (bs s).toList)):=by
  unfold sgZ
  rw [Lib.toList_data,Lib.toList_data,zAE,zAE]
 rw [e]
 refine zZ (fn:=Tryz.f146) 39 Tryz.func146 rfl rfl ?_
 intro pas w0 w he hp
 repeat' (first
|refine zA ?_
|refine zB ?_
|refine zG ?_
|apply aw_1
 conv => whnf
 refine ⟨?_,trivial⟩
|apply s_1
 conv => whnf; arg 1; arg 4; arg 3; whnf
 refine ⟨?_,?_⟩
|apply zBY (by kernel_rfl) (by kernel_rfl)
|apply zDz
|apply zFd rfl rfl
 . conv => lhs; whnf
 . conv => lhs; whnf
 . first | exact bT1 ‹_› | exact bT2 ‹_›
|apply zCt rfl rfl
 . conv => lhs; whnf
 . conv => lhs; whnf
 . first | exact bF1 ‹_› | exact bF2 ‹_›
|apply zDy rfl
 . conv => lhs; whnf
 . conv => lhs; whnf; arg 2; whnf
|apply zAf rfl
 . conv => lhs; whnf
 . conv => lhs; whnf
 . first | rfl | assumption
 . conv => lhs; whnf; arg 2; whnf
|apply zIQ rfl
 . conv => lhs; whnf
 . conv => lhs; whnf
 . first | rfl | assumption
|apply zDD rfl
 . conv => lhs; whnf
 . conv => lhs; whnf
 . conv => lhs; whnf; arg 2; whnf
|exact zAK
|exact zA1
|exact (1000000 : Nat)
|refine zq ⟨?_,?_⟩
|refine ⟨_,by conv => lhs; whnf; arg 2; whnf,?_⟩; conv => rhs; whnf
|exact trivial
|intro hg)
 all_goals first
  | exact zCB l h
  | exact ⟨rfl,trivial⟩
  | skip
 . have h0 : (x.er == 0) = true:=bT1 ‹_›
   rw [hgd] at hg |-
   have h1 : ((tkZ l x).k == 1) = true:=bT1 hg
   rw [h0,h1]; rfl
 . have h0 : (x.er == 0) = true:=bT1 ‹_›
   rw [hgd] at hg
   have h1 : ((tkZ l x).k == 1) = false:=bF1 hg
   rw [h0,h1]; rfl
 . have h0 : (x.er == 0) = false:=bF1 ‹_›
   rw [h0]; rfl
theorem zCu (h : x.at' < l.length) (s : List UInt8) : ACB EN5 Tryz.prog 143 [.bx (pn 0) 0,.c (.string (bs s))] [boxF l x] (.c (.bool (wdZ l s x))) [boxF l x]:=by
 have hgd : gD (l.map tokD) ((x.at' : Int)).toNat = tokD (tkZ l x):=zCN l h
 have h1:=zAq l x h
 have e : wdZ l s x = (nmZ l x && ((bs (tkZ l x).s).toList == (bs s).toList)):=by
  unfold wdZ
  rw [Lib.toList_data,Lib.toList_data,zAE,zAE]
 rw [e]
 refine zZ (fn:=Tryz.f143) 22 Tryz.func143 rfl rfl ?_
 intro pas w0 w he hp
 repeat' (first
|apply zAd 18 ([(1,[1000000]),(6,[1000000]),(10,[1000000])]) ([]) rfl (by kernel_rfl) (by kernel_rfl) (by kernel_rfl)
|apply zFo
|apply zGx rfl
 . conv => lhs; whnf
 . conv => lhs; whnf
 . rfl
 . conv => lhs; whnf; arg 1; whnf
 . exact fun _ => rfl
 . first | exact h1
 . exact fun _ => rfl
 . exact fun _ => rfl
 . rfl
|apply zFE rfl
 . conv => lhs; whnf
 . conv => lhs; whnf
 . first | rfl | assumption
|apply zCz rfl rfl
 . conv => lhs; whnf
 . conv => lhs; whnf
 . first | exact bT1 ‹_› | exact bT2 ‹_›
|apply zFn rfl rfl
 . conv => lhs; whnf
 . conv => lhs; whnf
 . first | exact bF1 ‹_› | exact bF2 ‹_›
|apply zFm rfl
 . conv => lhs; whnf
 . conv => lhs; whnf; arg 2; whnf
|apply zAX rfl
 . conv => lhs; whnf
 . conv => lhs; whnf
 . first | rfl | assumption
 . conv => lhs; whnf; arg 2; whnf
|apply zHj rfl
 . conv => lhs; whnf
 . conv => lhs; whnf
 . conv => lhs; whnf; arg 2; whnf
|show inO _ _ = true; rfl
|refine zA ?_
|refine zB ?_
|refine zG ?_
|apply aw_1
 conv => whnf
 refine ⟨?_,trivial⟩
|apply s_1
 conv => whnf; arg 1; arg 4; arg 3; whnf
 refine ⟨?_,?_⟩
|refine zq ⟨?_,?_⟩
|refine ⟨_,by conv => lhs; whnf; arg 2; whnf,?_⟩; conv => rhs; whnf
|exact trivial
|intro hg)
 all_goals first
  | exact zCB l h
  | exact ⟨rfl,trivial⟩
  | skip
 . have h0 : nmZ l x = true:=bT1 ‹_›
   rw [hgd,h0]; rfl
 . have h0 : nmZ l x = false:=bF1 ‹_›
   rw [h0]; rfl
theorem zAU (h : x.at' < l.length) (hl : l.length <= 100000) (s : List UInt8) : ACB EN5 Tryz.prog 225 [.bx (pn 0) 0,.c (.string (bs s))] [boxF l x] (.tup []) [boxF l (needZ l s x)]:=by
 have h1:=zr l x h s
 have h2:=zAS l x 3 h
 refine zZ (fn:=Tryz.f225) 17 Tryz.func225 rfl rfl ?_
 intro pas w0 w he hp
 repeat' (first
|apply s_m (zf l) (zH l) rfl
 . conv => lhs; whnf
 . conv => lhs; whnf
 . rfl
 . conv => lhs; whnf; arg 1; whnf
 . first | exact zt _ _
 . first | exact h1 | exact h2
 . exact fun _ => rfl
 . exact fun _ => rfl
|refine zA ?_
|refine zB ?_
|refine zG ?_
|apply aw_1
 conv => whnf
 refine ⟨?_,trivial⟩
|apply s_1
 conv => whnf; arg 1; arg 4; arg 3; whnf
 refine ⟨?_,?_⟩
|apply zI rfl rfl rfl
 . conv => lhs; whnf
 . conv => lhs; whnf; arg 1; whnf
 . conv => lhs; whnf; arg 1; whnf
 . exact ⟨by kernel_rfl,by kernel_rfl⟩
 . rfl
|refine zg (by conv => lhs; whnf) ?_ ?_ <;> intro hb
|refine zU ?_
|refine zq ⟨?_,?_⟩
|exact (rfl : _ = V.tup [])
|exact trivial)
 all_goals first
  | exact zS (by omega)
  | (have hq : ¬ sgZ l s x = true:=by simpa using (by assumption : (!sgZ l s x) = true)
     unfold needZ; rw [if_neg hq]; exact ⟨rfl,trivial⟩)
  | (have hq : sgZ l s x = true:=by simpa using (by assumption : (!sgZ l s x) = false)
     unfold needZ; rw [if_pos hq]; exact ⟨rfl,trivial⟩)
  | exact (rfl : V.tup [] = V.tup [])
  | skip
theorem z8 (h : x.at' < l.length) (hl : l.length <= 100000) : ACB EN5 Tryz.prog 149 [.bx (pn 0) 0] [boxF l x] (.c (.string (bs (nameZ l x).1))) [boxF l (nameZ l x).2]:=by
 have hgd : gD (l.map tokD) (((x.at' : Int) + 1 - 1)).toNat = tokD (tkZ l x):=by rw [show ((x.at' : Int) + 1 - 1).toNat = x.at' by omega]; exact zCN l h
 have h1:=zAq l x h
 have h2:=zAS l x 3 h
 refine zZ (fn:=Tryz.f149) 27 Tryz.func149 rfl rfl ?_
 intro pas w0 w he hp
 repeat' (first
|apply s_m (zf l) (zH l) rfl
 . conv => lhs; whnf
 . conv => lhs; whnf
 . rfl
 . conv => lhs; whnf; arg 1; whnf
 . first | exact zt _ _
 . first | exact h1 | exact h2
 . exact fun _ => rfl
 . exact fun _ => rfl
|refine zA ?_
|refine zB ?_
|refine zG ?_
|apply aw_1
 conv => whnf
 refine ⟨?_,trivial⟩
|apply s_1
 conv => whnf; arg 1; arg 4; arg 3; whnf
 refine ⟨?_,?_⟩
|apply zI rfl rfl rfl
 . conv => lhs; whnf
 . conv => lhs; whnf; arg 1; whnf
 . conv => lhs; whnf; arg 1; whnf
 . exact ⟨by kernel_rfl,by kernel_rfl⟩
 . rfl
|apply zBY (by kernel_rfl) (by kernel_rfl)
|apply zDz
|apply zDy rfl
 . conv => lhs; whnf
 . conv => lhs; whnf; arg 2; whnf
|exact zAK
|exact zA1
|exact (1000000 : Nat)
|refine zg (by conv => lhs; whnf) ?_ ?_ <;> intro hb
|refine zU ?_
|refine zq ⟨?_,?_⟩
|refine ⟨_,by conv => lhs; whnf; arg 2; whnf,?_⟩; conv => rhs; whnf
|exact trivial)
 all_goals first
  | exact zS (by omega)
  | exact ⟨by omega,by rw [List.length_map]; omega⟩
  | (have hq : ¬ nmZ l x = true:=by simpa using (by assumption : (!nmZ l x) = true)
     unfold nameZ; rw [if_neg hq]; all_goals first | rfl | exact ⟨rfl,trivial⟩)
  | (have hq : nmZ l x = true:=by simpa using (by assumption : (!nmZ l x) = false)
     unfold nameZ; rw [if_pos hq]; all_goals first | exact ⟨rfl,trivial⟩ | (rw [hgd]; rfl))
  | exact ⟨by omega,by rw [List.length_map]; omega⟩
  | skip
theorem title_acb (hE : Ed l) (h : x.at' < l.length) (hl : l.length <= 100000) : ACB EN5 Tryz.prog 148 [.bx (pn 0) 0] [boxF l x] (.c (.string (bs (zAA l x).1))) [boxF l (zAA l x).2]:=by
 have h1:=zCu l x h onT
 have h2:=zAS l x 3 h
 have h3:=z8 l x h hl
 have h4:=z8 l (zk l 3 x) (by show (zCC _ _ _ _).at' < _; rw [zCj]; exact h) hl
 refine zZ (fn:=Tryz.f148) 9 Tryz.func148 rfl rfl ?_
 intro pas w0 w he hp
 repeat' (first
|apply s_m (zf l) (zH l) rfl
 . conv => lhs; whnf
 . conv => lhs; whnf
 . rfl
 . conv => lhs; whnf; arg 1; whnf
 . first | exact zt _ _
 . first | exact h1 | exact h2 | exact h3 | exact h4
 . exact fun _ => rfl
 . exact fun _ => rfl
|refine zA ?_
|refine zB ?_
|refine zG ?_
|apply aw_1
 conv => whnf
 refine ⟨?_,trivial⟩
|apply s_1
 conv => whnf; arg 1; arg 4; arg 3; whnf
 refine ⟨?_,?_⟩
|refine zg (by conv => lhs; whnf) ?_ ?_ <;> intro hb
|refine zq ⟨?_,?_⟩
|refine ⟨_,by conv => lhs; whnf; arg 2; whnf,?_⟩; conv => rhs; whnf
|exact trivial)
 all_goals first
  | (have hq : wdZ l onT x = true:=by assumption
     unfold zAA; rw [if_pos hq]; all_goals first | rfl | exact ⟨rfl,trivial⟩)
  | (have hq : ¬ wdZ l onT x = true:=by simpa using (by assumption : wdZ l onT x = false)
     unfold zAA; rw [if_neg hq]; all_goals first | rfl | exact ⟨rfl,trivial⟩)
  | skip
end
end Go.Proofs.YthjiclhfhjdjpaaGreatDoor
namespace Go.Proofs.YthjiclhfhjdjpaaGreatDoor
theorem zET {p : UInt8 -> Bool} : ∀ (l : List UInt8),(l.take (spanN p l)).all p = true /\ (l.take (spanN p l)).length = spanN p l
 | [] => ⟨rfl,rfl⟩
 | c :: r => by
   have ih:=zET (p:=p) r
   rw [spanN]
   split
   . rename_i h
     rw [List.take_succ_cons,List.all_cons,h,ih.1]
     exact ⟨rfl,by rw [List.length_cons,ih.2]⟩
   . exact ⟨rfl,rfl⟩
theorem Lex.kinds {l : List UInt8} {ks : List (Int × List UInt8)} (h : Lex l ks) : ∀ p ∈ ks,p.1 ≠ 5:=by
 induction h with
 | done h => intro p hp; cases hp
 | tok h ht hr ih =>
   intro p hp
   rcases List.mem_cons.1 hp with rfl | hp
   . have:=zC0 ht
     show _ ≠ _
     omega
   . exact ih p hp
end Go.Proofs.YthjiclhfhjdjpaaGreatDoor
namespace Go.Proofs.YthjiclhfhjdjpaaGreatDoor
open Go.RowKit
attribute [local irreducible] wpList Calls Code.wp AW AWo OpOk seqK zAI zAO loopK endK AC zp Yld Sub
theorem wrd_iff (c : UInt8) : wrdU c = true ↔ (97 <= c.toNat /\ c.toNat <= 122) \/ (65 <= c.toNat /\ c.toNat <= 90) \/ c.toNat = 95 \/ (48 <= c.toNat /\ c.toNat <= 57):=by
 have : c = 95 ↔ c.toNat = 95:=⟨fun h => by rw [h]; rfl,fun h => UInt8.toNat_inj.1 h⟩
 unfold wrdU letU digU
 simp only [Bool.or_eq_true,decide_eq_true_eq,beq_iff_eq,this]
 omega
theorem zCA (c : UInt8) : AC EN5 Tryz.prog 164 [.c (.int .i32 (c.toNat : Int))] (.c (.bool (wrdU c))):=by
 refine zF 29 Tryz.func164 rfl rfl rfl rfl ?_
 intro s w he
 repeat' (first
|apply zx rfl rfl rfl
 . conv => lhs; whnf
 . first | rfl | assumption
 . conv => lhs; whnf
 . first | exact bT1 ‹_› | exact bT2 ‹_› | rfl
|apply zo rfl rfl rfl
 . conv => lhs; whnf
 . first | rfl | assumption
 . conv => lhs; whnf
 . first | exact bF1 ‹_› | exact bF2 ‹_› | rfl
|refine zA ?_
|refine zB ?_
|refine zG ?_
|apply aw_1
 conv => whnf
 refine ⟨?_,trivial⟩
|apply zY rfl rfl
 . conv => lhs; whnf
 . conv => lhs; whnf
 . first | exact bT1 ‹_› | exact bT2 ‹_›
|apply zV rfl rfl
 . conv => lhs; whnf
 . conv => lhs; whnf
 . first | exact bF1 ‹_› | exact bF2 ‹_›
|apply s_1
 conv => whnf; arg 1; arg 4; arg 3; whnf
 refine ⟨?_,?_⟩
|apply zD rfl
 . conv => lhs; whnf
 . conv => lhs; whnf
 . first | rfl | assumption
 . conv => lhs; whnf; arg 2; whnf
|apply zd rfl
 . conv => lhs; whnf
 . conv => lhs; whnf
 . first | rfl | assumption
|apply zT rfl
 . conv => lhs; whnf
 . conv => lhs; whnf
 . conv => lhs; whnf; arg 2; whnf
|refine zC ?_
|refine ⟨_,by conv => lhs; whnf; arg 2; whnf,?_⟩; conv => rhs; whnf
|exact trivial
|intro hg)
 all_goals
  refine congrArg (fun b => V.c (.bool b)) ?_
  rw [Bool.eq_iff_iff,wrd_iff]
  clear he
  simp at *
  omega
theorem zD4 {s : List UInt8} {k : Nat} (h : k < s.length) : (bs s).data.toList.getD k 0 = s[k]:=by
 rw [zAE,List.getD_eq_getElem?_getD,List.getElem?_eq_getElem h]; rfl
theorem zHp {p : UInt8 -> Bool} {s : List UInt8} {k : Nat} (h : k < s.length) : spanN p (s.drop k) = if p s[k] then spanN p (s.drop (k + 1)) + 1 else 0:=by
 rw [List.drop_eq_getElem_cons h,spanN]
theorem zAb (c : UInt8) : IntKind.i32.min <= ((c.toNat : Nat) : Int) /\ ((c.toNat : Nat) : Int) <= IntKind.i32.max:=by
 have:=c.toNat_lt
 exact ⟨by show (-2147483648 : Int) <= _; omega,by show _ <= (2147483647 : Int); omega⟩
noncomputable def HSp (s : List UInt8) (i : Nat) : Vst 22:=
 stS 22 [(0,.c (.string (bs s))),(1,.c (.int .i64 (i : Int))),(2,.c (.func (.func 164) #[] #[]))] []
theorem zHq (s : List UInt8) (i : Nat) (hi : i <= s.length) (hs : s.length <= 1000000) : AC EN5 Tryz.prog 163 [.c (.string (bs s)),.c (.int .i64 (i : Int)),.c (.func (.func 164) #[] #[])] (.c (.int .i64 ((i + spanN wrdU (s.drop i) : Nat) : Int))):=by
 refine zF 22 Tryz.func163 rfl rfl rfl rfl ?_
 intro s0 w he
 repeat' (first
|refine zA ?_
|refine zB ?_
|refine zG ?_
|apply aw_1
 conv => whnf
 refine ⟨?_,trivial⟩
|apply s_1
 conv => whnf; arg 1; arg 4; arg 3; whnf
 refine ⟨?_,?_⟩
|exact trivial)
 refine zu (fun j st => ∃ k,k + j = s.length /\ i + spanN wrdU (s.drop i) = k + spanN wrdU (s.drop k) /\ Sub (cx EN5 Tryz.prog s0 w he) st (HSp s k)) (s.length - i) ⟨i,by omega,rfl,?_⟩ ?_
 . exact Sub.live ⟨rfl,rfl,rfl,trivial⟩ trivial
 rintro j st ⟨k,hkj,hI,hs2⟩
 refine zn hs2 ?_
 clear hs2
 rw [hI]
 clear hI
 have hle : ∀ c : UInt8,AC EN5 Tryz.prog 164 [.c (.int .i32 (c.toNat : Int))] (.c (.bool (wrdU c))):=zCA
 repeat' (first
|refine zA ?_
|refine zB ?_
|refine zG ?_
|refine zb ?_
|apply aw_1
 conv => whnf
 refine ⟨?_,trivial⟩
|apply zY rfl rfl
 . conv => lhs; whnf
 . conv => lhs; whnf
 . first | exact bT1 ‹_› | exact bT2 ‹_›
|apply zV rfl rfl
 . conv => lhs; whnf
 . conv => lhs; whnf
 . first | exact bF1 ‹_› | exact bF2 ‹_›
|apply s_1
 conv => whnf; arg 1; arg 4; arg 3; whnf
 refine ⟨?_,?_⟩
|apply zD rfl
 . conv => lhs; whnf
 . conv => lhs; whnf
 . first | rfl | assumption
 . conv => lhs; whnf; arg 2; whnf
|apply zl rfl
 . conv => lhs; whnf
 . conv => lhs; whnf
 . first | rfl | assumption
 . conv => lhs; whnf
 . first | exact hle _
|apply zd rfl
 . conv => lhs; whnf
 . conv => lhs; whnf
 . first | rfl | assumption
|apply zT rfl
 . conv => lhs; whnf
 . conv => lhs; whnf
 . conv => lhs; whnf; arg 2; whnf
|refine zg (by conv => lhs; whnf) ?_ ?_ <;> intro hb
|refine zP ?_
|refine zM rfl ?_
|refine zW ?_
|refine zC ?_
|refine ⟨_,by conv => lhs; whnf; arg 2; whnf,?_⟩; conv => rhs; whnf
|exact trivial
|intro hg)
 . have hk : k < s.length:=by have:=zh s; simp at hg; omega
   have hb : wrdU s[k] = true:=by rw [<- zD4 hk]; exact hb
   refine zL (j':=j - 1) (by omega) ⟨k + 1,by omega,by rw [zHp hk,if_pos hb]; omega,Sub.live ⟨rfl,rfl,rfl,trivial⟩ trivial⟩
 . exact zS (by omega)
 . have hk : k < s.length:=by have:=zh s; simp at hg; omega
   have hb : wrdU s[k] = false:=by rw [<- zD4 hk]; exact hb
   rw [zHp hk,if_neg (by rw [hb]; decide)]; rfl
 . exact zAb _
 . have hk : k < s.length:=by have:=zh s; simp at hg; omega
   exact ⟨by kernel_rfl,by omega,by rw [zh]; omega⟩
 . have hk : k = s.length:=by have:=zh s; simp at hg; omega
   rw [hk,List.drop_length]; rfl
 . show Tryz.prog.underlying _ = _
   kernel_rfl
end Go.Proofs.YthjiclhfhjdjpaaGreatDoor
namespace Go.Proofs.YthjiclhfhjdjpaaGreatDoor
open Go.RowKit
attribute [local irreducible] wpList Calls Code.wp AW AWo OpOk seqK zAI zAO loopK endK AC zp Yld Sub
attribute [local irreducible] ACB ACX ACE absLexG YldG
section
variable {X : Cx} {nn : Nat} {st : Vst nn} {o : Oper} {ops : Array Oper} {l : List Oper} {d : Option Tmp} {KK : Vst nn -> Prop}
theorem zBZ {tR : TypeId} {f : FuncId} {m : Nat} {vs az : List V} {r : V} {cs cs' : List V} (hg : o.guard = none) (hd : o.dst = d) (h : act1 X.P st.rs (ev st) o.op = .call f vs) (hv : (m,vs) = (m,vs))
 (hr : st.rs m = some (.box tR cs)) (hcs : ∀ φ,renL φ cs = cs) (hc : ACB X.e X.P f az [.box tR cs] r [.box tR cs']) (hcs' : ∀ φ,renL φ cs' = cs') (haz : ∀ _ : Unit,renL (φin [m]) vs = az) (hrr : ∀ φ,renV φ r = r)
 (hK : AWo X ops l ((st.res m (.box tR cs')).put d r) KK) : AWo X ops (o :: l) st KK:=by
 refine zAC hg (zAm [m] h hc (by simp) (haz ()) (by simp [hr,renR,hcs]) ?_)
 have e : ([Res.box tR cs'].map (renR (φout [m]))) = [Res.box tR cs']:=by simp [renR,hcs']
 rw [e,zCK,hrr,hd]
 exact hK
theorem zDt {tR : TypeId} {f : FuncId} {m j : Nat} {want b : Bool} {vs az : List V} {r : V} {cs cs' : List V} (hg : o.guard = some (j,want)) (hd : o.dst = d) (hb : gval ops st j = some b) (h : act1 X.P st.rs (ev st) o.op = .call f vs) (hv : (m,vs) = (m,vs))
 (hr : st.rs m = some (.box tR cs)) (hcs : ∀ φ,renL φ cs = cs) (hc : ACB X.e X.P f az [.box tR cs] r [.box tR cs']) (hcs' : ∀ φ,renL φ cs' = cs') (haz : ∀ _ : Unit,renL (φin [m]) vs = az) (hrr : ∀ φ,renV φ r = r)
 (hK : (b == want) = true -> AWo X ops l ((st.res m (.box tR cs')).put d r) KK) (hN : (b == want) = false -> AWo X ops l (st.put d (.tup [])) KK) : AWo X ops (o :: l) st KK:=by
 cases e : b == want
 . exact zd hg hd hb e (hN e)
 . refine zBr hg hb (fun _ => ?_) fun e2 => (e2 (by simpa using e)).elim
   refine zAm [m] h hc (by simp) (haz ()) (by simp [hr,renR,hcs]) ?_
   have e : ([Res.box tR cs'].map (renR (φout [m]))) = [Res.box tR cs']:=by simp [renR,hcs']
   rw [e,zCK,hrr,hd]
   exact hK ‹_›
end
def zAD (b : Bool) (c : UInt8) : Bool × Bool:=if b then (true,false) else (!(c == 34),c == 92)
def zBO : Bool -> List UInt8 -> Nat
 | _,[] => 0
 | b,c :: r => if (zAD b c).1 then zBO (zAD b c).2 r + 1 else 0
def zHr : Bool -> List UInt8 -> Bool
 | b,[] => b
 | b,c :: r => if (zAD b c).1 then zHr (zAD b c).2 r else (zAD b c).2
theorem zGB : ∀ l : List UInt8,litN l = if zBO false l < l.length then some (zBO false l + 1) else none
 | [] => by simp [litN]
 | [c] => by
   unfold litN
   by_cases h : c = 34
   . subst h; simp [zBO,zAD]
   . have h2 : (c == 34) = false:=by simpa using h
     rw [h2]
     simp [zBO,zAD,h2]
 | c :: d :: r => by
   have ih1:=zGB r
   have ih2:=zGB (d :: r)
   unfold litN
   by_cases h : c = 34
   . subst h; simp [zBO,zAD]
   . have h2 : (c == 34) = false:=by simpa using h
     rw [h2]
     by_cases h3 : c = 92
     . subst h3
       have e : zBO false (92 :: d :: r) = zBO false r + 2:=by
        show (if (zAD false 92).1 then zBO (zAD false 92).2 (d :: r) + 1 else 0) = _
        simp [zAD,zBO]
       rw [e,ih1]
       simp only [List.length_cons,Bool.false_eq_true,if_false,beq_self_eq_true,if_true]
       by_cases h4 : zBO false r < r.length
       . rw [if_pos h4,if_pos (by omega)]; rfl
       . rw [if_neg h4,if_neg (by omega)]; rfl
     . have h4 : (c == 92) = false:=by simpa using h3
       have e : zBO false (c :: d :: r) = zBO false (d :: r) + 1:=by
        show (if (zAD false c).1 then zBO (zAD false c).2 (d :: r) + 1 else 0) = _
        simp [zAD,h2,h4]
       rw [e,ih2,h4]
       simp only [List.length_cons,Bool.false_eq_true,if_false]
       by_cases h5 : zBO false (d :: r) < r.length + 1
       . rw [if_pos h5,if_pos (by omega)]; rfl
       . rw [if_neg h5,if_neg (by omega)]; rfl
theorem zIi : ∀ (b : Bool) (l : List UInt8),zBO b l <= l.length
 | _,[] => Nat.le_refl _
 | b,c :: r => by
   have:=zIi (zAD b c).2 r
   unfold zBO
   split <;> simp <;> omega
theorem zBT (c : UInt8) (n : Nat) (h : n < 256) : (((c.toNat : Nat) : Int) == (n : Int)) = (c == UInt8.ofNat n):=by
 rw [Bool.eq_iff_iff]
 simp only [beq_iff_eq]
 constructor
 . intro h1
   apply UInt8.toNat_inj.1
   rw [UInt8.toNat_ofNat']
   omega
 . intro h1
   rw [h1,UInt8.toNat_ofNat']
   omega
def boxL (b : Bool) : Res:=.box 4 [.c (.bool b)]
theorem lit1_acb (c : UInt8) (b : Bool) : ACB EN5 Tryz.prog 245 [.c (.int .i32 (c.toNat : Int)),.bx (pn 0) 0] [boxL b] (.c (.bool (zAD b c).1)) [boxL (zAD b c).2]:=by
 have e1 : ((c.toNat : Int) == 92) = (c == 92):=zBT c 92 (by omega)
 have e2 : ((c.toNat : Int) == 34) = (c == 34):=zBT c 34 (by omega)
 cases b
 . have e3 : zAD false c = (!((c.toNat : Int) == 34),(c.toNat : Int) == 92):=by rw [e1,e2]; rfl
   rw [e3]
   refine zZ (fn:=Tryz.f245) 9 Tryz.func245 rfl rfl ?_
   intro pas w0 w he hp
   repeat' (first
|refine zA ?_
|refine zB ?_
|refine zG ?_
|apply aw_1
 conv => whnf
 refine ⟨?_,trivial⟩
|apply s_1
 conv => whnf; arg 1; arg 4; arg 3; whnf
 refine ⟨?_,?_⟩
|apply zI rfl rfl rfl
 . conv => lhs; whnf
 . conv => lhs; whnf; arg 1; whnf
 . conv => lhs; whnf; arg 1; whnf
 . exact ⟨by kernel_rfl,by kernel_rfl⟩
 . rfl
|refine zq ⟨?_,?_⟩
|refine ⟨_,by conv => lhs; whnf; arg 2; whnf,?_⟩; conv => rhs; whnf
|exact trivial)
   all_goals first | exact ⟨rfl,trivial⟩ | rfl
 . have e3 : zAD true c = (true,false):=rfl
   rw [e3]
   refine zZ (fn:=Tryz.f245) 9 Tryz.func245 rfl rfl ?_
   intro pas w0 w he hp
   repeat' (first
|refine zA ?_
|refine zB ?_
|refine zG ?_
|apply aw_1
 conv => whnf
 refine ⟨?_,trivial⟩
|apply s_1
 conv => whnf; arg 1; arg 4; arg 3; whnf
 refine ⟨?_,?_⟩
|apply zI rfl rfl rfl
 . conv => lhs; whnf
 . conv => lhs; whnf; arg 1; whnf
 . conv => lhs; whnf; arg 1; whnf
 . exact ⟨by kernel_rfl,by kernel_rfl⟩
 . rfl
|refine zU ?_
|refine zq ⟨?_,?_⟩
|refine ⟨_,by conv => lhs; whnf; arg 2; whnf,?_⟩; conv => rhs; whnf
|exact trivial)
   all_goals first | exact ⟨rfl,trivial⟩ | rfl
noncomputable def HSl (s : List UInt8) (i : Nat) (b : Bool) : Vst 22:=
 stS 22 [(0,.c (.string (bs s))),(1,.c (.int .i64 (i : Int))),(2,.clo 245 [.bx (pn 0) 0])] [(pn 0,boxL b)]
theorem zFr {b : Bool} {s : List UInt8} {k : Nat} (h : k < s.length) : zBO b (s.drop k) = (if (zAD b s[k]).1 then zBO (zAD b s[k]).2 (s.drop (k + 1)) + 1 else 0) /\ zHr b (s.drop k) = (if (zAD b s[k]).1 then zHr (zAD b s[k]).2 (s.drop (k + 1)) else (zAD b s[k]).2):=by
 rw [List.drop_eq_getElem_cons h]
 exact ⟨by rw [zBO],by rw [zHr]⟩
theorem spanl_acb (s : List UInt8) (i : Nat) (hi : i <= s.length) (hs : s.length <= 1000000) (b : Bool) : ACB EN5 Tryz.prog 163 [.c (.string (bs s)),.c (.int .i64 (i : Int)),.clo 245 [.bx (pn 0) 0]] [boxL b]
 (.c (.int .i64 ((i + zBO b (s.drop i) : Nat) : Int))) [boxL (zHr b (s.drop i))]:=by
 refine zZ (fn:=Tryz.f163) 22 Tryz.func163 rfl rfl ?_
 intro pas w0 w he hp
 repeat' (first
|refine zA ?_
|refine zB ?_
|refine zG ?_
|apply aw_1
 conv => whnf
 refine ⟨?_,trivial⟩
|apply s_1
 conv => whnf; arg 1; arg 4; arg 3; whnf
 refine ⟨?_,?_⟩
|exact trivial)
 refine zu (fun j st => ∃ k b',k + j = s.length /\ i + zBO b (s.drop i) = k + zBO b' (s.drop k) /\ zHr b (s.drop i) = zHr b' (s.drop k) /\ Sub ⟨Tryz.prog,pas,w0,w,EN5,he,hp,fun _ _ _ => False,[]⟩ st (HSl s k b')) (s.length - i) ⟨i,b,by omega,rfl,rfl,?_⟩ ?_
 . exact Sub.live ⟨rfl,rfl,rfl,trivial⟩ ⟨rfl,trivial⟩
 rintro j st ⟨k,b',hkj,hI,hS,hs2⟩
 refine zn hs2 ?_
 clear hs2
 rw [hI,hS]
 clear hI hS
 have hle : ∀ c : UInt8,ACB EN5 Tryz.prog 245 [.c (.int .i32 (c.toNat : Int)),.bx (pn 0) 0] [boxL b'] (.c (.bool (zAD b' c).1)) [boxL (zAD b' c).2]:=fun c => lit1_acb c b'
 have hle2:=hle ((bs s).data.toList.getD ((k : Int)).toNat 0)
 have hin : ∀ h : (decide ((k : Int) < ((bs s).size : Nat)) == true) = true,∃ hk : k < s.length,(bs s).data.toList.getD ((k : Int)).toNat 0 = s[k]:=fun h => by
  have hz:=zh s
  have hk : k < s.length:=by simp at h; omega
  exact ⟨hk,zD4 hk⟩
 have hout : ∀ h : (decide ((k : Int) < ((bs s).size : Nat)) == true) = false,s.drop k = []:=fun h => by
  have hz:=zh s
  have hk : s.length <= k:=by simp at h; omega
  exact List.drop_of_length_le hk
 repeat' (first
|apply zDt (m:=pn 0) rfl
 . conv => lhs; whnf
 . conv => lhs; whnf
 . conv => lhs; whnf
 . rfl
 . conv => lhs; whnf; arg 1; whnf
 . exact fun _ => rfl
 . first | exact hle2
 . exact fun _ => rfl
 . exact fun _ => rfl
 . exact fun _ => rfl
|refine zA ?_
|refine zB ?_
|refine zG ?_
|refine zb ?_
|apply aw_1
 conv => whnf
 refine ⟨?_,trivial⟩
|apply zY rfl rfl
 . conv => lhs; whnf
 . conv => lhs; whnf
 . first | exact bT1 ‹_› | exact bT2 ‹_›
|apply zV rfl rfl
 . conv => lhs; whnf
 . conv => lhs; whnf
 . first | exact bF1 ‹_› | exact bF2 ‹_›
|apply s_1
 conv => whnf; arg 1; arg 4; arg 3; whnf
 refine ⟨?_,?_⟩
|apply zD rfl
 . conv => lhs; whnf
 . conv => lhs; whnf
 . first | rfl | assumption
 . conv => lhs; whnf; arg 2; whnf
|apply zd rfl
 . conv => lhs; whnf
 . conv => lhs; whnf
 . first | rfl | assumption
|apply zT rfl
 . conv => lhs; whnf
 . conv => lhs; whnf
 . conv => lhs; whnf; arg 2; whnf
|refine zg (by conv => lhs; whnf) ?_ ?_ <;> intro hb
|refine zP ?_
|refine zM rfl ?_
|refine zW ?_
|refine zq ⟨?_,?_⟩
|refine ⟨_,by conv => lhs; whnf; arg 2; whnf,?_⟩; conv => rhs; whnf
|exact trivial
|intro hg)
 . obtain ⟨hk,e⟩:=hin hg
   obtain ⟨e1,e2⟩:=zFr (b:=b') hk
   rw [e] at hb
   rw [if_pos hb] at e1 e2
   refine zL (j':=j - 1) (by omega) ⟨k + 1,(zAD b' ((bs s).data.toList.getD ((k : Int)).toNat 0)).2,by omega,by rw [e1,e]; omega,by rw [e2,e],Sub.live ⟨rfl,rfl,rfl,trivial⟩ ⟨rfl,trivial⟩⟩
 . exact zS (by obtain ⟨hk,e⟩:=hin hg; omega)
 . obtain ⟨hk,e⟩:=hin hg
   obtain ⟨e1,e2⟩:=zFr (b:=b') hk
   rw [e] at hb
   rw [if_neg (by rw [hb]; decide)] at e1
   rw [e1]; rfl
 . obtain ⟨hk,e⟩:=hin hg
   obtain ⟨e1,e2⟩:=zFr (b:=b') hk
   have hb2:=hb
   rw [e] at hb2
   rw [if_neg (by rw [hb2]; decide),<- e] at e2
   rw [e2]
   exact ⟨rfl,trivial⟩
 . rename_i h1
   rw [h1] at hg; cases hg
 . exact zAb _
 . obtain ⟨hk,e⟩:=hin hg
   exact ⟨by kernel_rfl,by omega,by rw [zh]; omega⟩
 . rw [hout hg]; rfl
 . rw [hout hg]; exact ⟨rfl,trivial⟩
 . show Tryz.prog.underlying _ = _
   kernel_rfl
def litV (s : List UInt8) (i : Nat) : Int:=match litN (s.drop (i + 1)) with
 | none => -1
 | some n => ((i + 1 + n : Nat) : Int)
theorem lit_V {s : List UInt8} {i : Nat} (hi : i < s.length) : litV s i = if (i + 1 + zBO false (s.drop (i + 1)) : Nat) < s.length then ((i + 1 + zBO false (s.drop (i + 1)) + 1 : Nat) : Int) else -1:=by
 unfold litV
 rw [zGB,List.length_drop]
 by_cases h : zBO false (s.drop (i + 1)) < s.length - (i + 1)
 . rw [if_pos h,if_pos (by omega)]; rfl
 . rw [if_neg h,if_neg (by omega)]
theorem zFQ (s : List UInt8) (i : Nat) (hi : i < s.length) (hs : s.length <= 1000000) : AC EN5 Tryz.prog 166 [.c (.string (bs s)),.c (.int .i64 (i : Int))] (.c (.int .i64 (litV s i))):=by
 have hsp:=spanl_acb s (i + 1) (by omega) hs false
 have hle:=zIi false (s.drop (i + 1))
 rw [List.length_drop] at hle
 rw [lit_V hi]
 refine zF 18 Tryz.func166 rfl rfl rfl rfl ?_
 intro s0 w he
 have hz:=zh s
 repeat' (first
|apply zBZ (m:=5) rfl
 . conv => lhs; whnf
 . conv => lhs; whnf
 . rfl
 . conv => lhs; whnf; arg 1; whnf
 . exact fun _ => rfl
 . first | exact hsp
 . exact fun _ => rfl
 . exact fun _ => rfl
 . exact fun _ => rfl
|refine zA ?_
|refine zB ?_
|refine zG ?_
|apply aw_1
 conv => whnf
 refine ⟨?_,trivial⟩
|apply s_1
 conv => whnf; arg 1; arg 4; arg 3; whnf
 refine ⟨?_,?_⟩
|apply zI rfl rfl rfl
 . conv => lhs; whnf
 . conv => lhs; whnf; arg 1; whnf
 . conv => lhs; whnf; arg 1; whnf
 . exact ⟨by kernel_rfl,by kernel_rfl⟩
 . rfl
|refine zg (by conv => lhs; whnf) ?_ ?_ <;> intro hb
|refine zU ?_
|refine zC ?_
|refine ⟨_,by conv => lhs; whnf; arg 2; whnf,?_⟩; conv => rhs; whnf
|exact trivial)
 . rw [if_neg (by simp at hb; omega)]
 . rw [if_pos (by simp at hb; omega)]; rfl
 . exact zS (by omega)
 . show Tryz.prog.underlying _ = _
   kernel_rfl
 . exact zS (by omega)
end Go.Proofs.YthjiclhfhjdjpaaGreatDoor
