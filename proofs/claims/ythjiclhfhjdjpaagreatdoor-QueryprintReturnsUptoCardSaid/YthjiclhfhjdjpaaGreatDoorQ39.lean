import Derived.Test.YthjiclhfhjdjpaaGreatDoorQ38
set_option maxHeartbeats 8000000
set_option maxRecDepth 100000
set_option linter.unusedVariables false
set_option linter.unusedSimpArgs false
namespace Go.Proofs.YthjiclhfhjdjpaaGreatDoor
def Mz {α : Type} (r : PR α) : Prop:=∀ i e,r = .error (i,e) -> 0 < e /\ e <= 100
section
variable {α β : Type}
theorem Mz.okk (p : α × PS) : Mz (.ok p : PR α):=fun i e h => by cases h
theorem Mz.err {i : Nat} {e : Int} (h : 0 < e /\ e <= 100) : Mz (.error (i,e) : PR α):=fun j e' hj => by cases hj; exact h
theorem Mz.ite {c : Prop} [Decidable c] {a b : PR α} (h1 : c -> Mz a) (h2 : ¬ c -> Mz b) : Mz (if c then a else b):=by
 split
 . exact h1 ‹_›
 . exact h2 ‹_›
theorem Mz.then {r : PR α} {f : α -> PS -> PR β} (h : Mz r) (hf : ∀ a x,r = .ok (a,x) -> Mz (f a x)) : Mz (thenQ r f):=by
 cases hr : r with
 | error e =>
   rw [then_err (r:=.error e) rfl]
   intro i e' hi
   cases hi
   exact h i e' hr
 | ok p =>
   obtain ⟨a,x⟩:=p
   rw [zS (r:=.ok (a,x)) rfl]
   exact hf a x hr
theorem zCx (s : List UInt8) (x : PS) : Mz (takeQ s x):=by
 unfold takeQ
 exact .ite (fun _ => .okk _) fun _ => .err (by decide)
theorem zBO (x : PS) : Mz (nameQ x):=by
 unfold nameQ
 exact .ite (fun _ => .okk _) fun _ => .err (by decide)
theorem zJ0 : ∀ (n : Nat) (w : List Int) (x : PS),Mz (closeQ n w x)
 | 0,w,x => by unfold closeQ; exact .okk _
 | n + 1,w,x => by unfold closeQ; exact .then (zCx _ _) fun _ y _ => zJ0 n _ y
theorem inner_mz (x : PS) : Mz (innerQ x):=.then (zBO _) fun _ y _ => .then (zJ0 _ _ y) fun _ _ _ => .okk _
theorem typ_mz (x : PS) : Mz (typQ x):=.then (inner_mz x) fun _ _ _ => .ite (fun _ => .err (by decide)) fun _ => .okk _
theorem zJY {v : PS -> PR D} (hv : ∀ y,En y -> Mz (v y)) (hl : ∀ {y z a},En y -> v y = .ok (a,z) -> En z /\ z.ts.length < y.ts.length) : ∀ (f : Nat) (acc : List D) (x : PS),En x -> x.ts.length < f -> Mz (itemsQ v f acc x)
 | 0,_,_,_,h => by omega
 | f + 1,acc,x,hx,h => by
   unfold itemsQ
   exact .ite (fun _ => .okk _) fun _ => .then (hv x hx) fun _ y hq => zJY hv hl f _ y (hl hx hq).1 (by have:=(hl hx hq).2; omega)
theorem zHV {v : PS -> PR D} (hv : ∀ y,En y -> Mz (v y)) (hl : ∀ {y z a},En y -> v y = .ok (a,z) -> En z /\ z.ts.length < y.ts.length) : ∀ (f : Nat) (ks : List (List UInt8)) (acc : List D) (x : PS),En x -> x.ts.length < f -> Mz (zu v f ks acc x)
 | 0,_,_,_,_,h => by omega
 | f + 1,ks,acc,x,hx,h => by
   unfold zu
   refine .ite (fun _ => .okk _) fun _ => .then (zBO x) fun k y hn => .ite (fun _ => .err (by decide)) fun _ => .then (zCx _ y) fun u z ht => .then (hv z ?_) fun _ w hw => zHV hv hl f _ _ w ?_ ?_
   . exact ((hx.name hn).1.take ht).1
   . exact (hl ((hx.name hn).1.take ht).1 hw).1
   . have h1:=hx.name hn
     have h2:=h1.1.take ht
     have h3:=hl h2.1 hw
     omega
theorem zFp : ∀ (f lv : Nat) (x : PS),En x -> lv <= 25 -> 26 <= f + lv -> Mz (valueQ f lv x)
 | 0,lv,_,_,h1,h2 => by omega
 | f + 1,lv,x,hx,h1,h2 => by
   have hy : En { nxT x with nd:=x.nd + 1 }:=hx.nx0
   unfold valueQ
   refine .ite (fun _ => .err (by decide)) fun _ => .ite (fun _ => .err (by decide)) fun hlv => .ite (fun _ => .err (by decide)) fun _ => ?_
   dsimp only
   refine .ite (fun _ => .okk _) fun _ => .ite (fun _ => .okk _) fun _ => .ite (fun _ => .okk _) fun _ => .ite (fun _ => .then (zBO _) fun _ _ _ => .okk _) fun _ => .ite (fun _ => ?_) fun _ => ?_
   . exact .then (zJY (fun y hy => zFp f (lv + 1) y hy (by omega) (by omega)) (fun hy hq => hy.valueL hq) _ _ _ hy (Nat.lt_succ_self _)) fun _ _ _ => .okk _
   . exact .then (zHV (fun y hy => zFp f (lv + 1) y hy (by omega) (by omega)) (fun hy hq => hy.valueL hq) _ _ _ _ hy (Nat.lt_succ_self _)) fun _ _ _ => .okk _
theorem zIv (x : PS) (h : En x) : Mz (zAf x):=zFp 25 1 _ h (by omega) (by omega)
theorem zKA : ∀ (f : Nat) (acc : List D) (x : PS),En x -> x.ts.length <= f -> Mz (argsF f acc x)
 | 0,_,x,hx,h => by obtain ⟨t,r,ht⟩:=hx.cons; rw [ht] at h; simp at h
 | f + 1,acc,x,hx,h => by
   unfold argsF
   refine .ite (fun _ => .okk _) fun _ => .ite (fun _ => .err (by decide)) fun _ => .then (zBO x) fun n y hn => .then (zCx _ y) fun u z ht => .then (zIv z ?_) fun _ w hw => zKA f _ w ?_ ?_
   . exact ((hx.name hn).1.take ht).1
   . exact (((hx.name hn).1.take ht).1.whole hw).1
   . have h1:=hx.name hn
     have h2:=h1.1.take ht
     have h3:=h2.1.whole hw
     omega
theorem args_mz (x : PS) (h : En x) : Mz (argsQ x):=.ite (fun hs => zKA _ _ _ h.nx0 (by have:=(h.sg hs).2; omega)) fun _ => .okk _
theorem zJp : ∀ (f : Nat) (acc : List D) (x : PS),En x -> x.ts.length < f -> Mz (dirsF f acc x)
 | 0,_,_,_,h => by omega
 | f + 1,acc,x,hx,h => by
   unfold dirsF
   refine .ite (fun hs => .ite (fun _ => .err (by decide)) fun _ => .then (zBO _) fun n y hn => .then (args_mz y ?_) fun _ z hz => zJp f _ z ?_ ?_) fun _ => .okk _
   . exact (hx.nx0.name hn).1
   . exact ((hx.nx0.name hn).1.args hz).1
   . have h1:=hx.sg hs
     have h2:=h1.1.name hn
     have h3:=h2.1.args hz
     omega
theorem zIg (x : PS) (h : En x) : Mz (dirsQ x):=zJp _ _ _ h (Nat.lt_succ_self _)
theorem sel_mz {v : PS -> PR (List D)} (hv : ∀ y,En y -> Mz (v y)) (x : PS) (h : En x) : Mz (selQ v x):=by
 unfold selQ
 refine .ite (fun hs => ?_) fun _ => ?_
 . dsimp only
   refine .ite (fun _ => .then (zIg _ h.nx0.nx0) fun _ _ _ => .okk _) fun _ => .then (.ite (fun _ => zBO _) fun _ => .okk _) fun on z hz => ?_
   have hz' : En z:=by
    split at hz
    . exact (h.nx0.nx0.name hz).1
    . cases hz; exact h.nx0
   exact .then (zIg z hz') fun _ u hu => .then (hv u (hz'.dirs hu).1) fun _ _ _ => .okk _
 . refine .then (zBO x) fun n y hn => ?_
   have hy:=(h.name hn).1
   refine .then (.ite (fun _ => .then (zBO _) fun _ _ _ => .okk _) fun _ => .okk _) fun an z hz => ?_
   have hz' : En z:=by
    split at hz
    . cases hm : nameQ (nxT y) with
      | error e => rw [then_err hm] at hz; cases hz
      | ok p =>
        obtain ⟨m,z2⟩:=p
        rw [zS hm] at hz
        cases hz
        exact (hy.nx0.name hm).1
    . cases hz; exact hy
   refine .then (args_mz z hz') fun _ u hu => .then (zIg u (hz'.args hu).1) fun _ w hw => ?_
   exact .then (.ite (fun _ => hv w ((hz'.args hu).1.dirs hw).1) fun _ => .okk _) fun _ _ _ => .okk _
theorem setF_mz {v : PS -> PR D} (hv : ∀ y,En y -> Mz (v y)) (hl : ∀ {y z a},En y -> v y = .ok (a,z) -> En z /\ z.ts.length < y.ts.length) : ∀ (f : Nat) (acc : List D) (x : PS),En x -> x.ts.length < f -> Mz (setF v f acc x)
 | 0,_,_,_,h => by omega
 | f + 1,acc,x,hx,h => by
   unfold setF
   exact .ite (fun _ => .okk _) fun _ => .ite (fun _ => .err (by decide)) fun _ => .then (hv x hx) fun _ y hq => setF_mz hv hl f _ y (hl hx hq).1 (by have:=(hl hx hq).2; omega)
theorem sels_mz : ∀ (f lv : Nat) (x : PS),En x -> lv <= 25 -> 26 <= f + lv -> Mz (selsQ f lv x)
 | 0,lv,_,_,h1,h2 => by omega
 | f + 1,lv,x,hx,h1,h2 => by
   unfold selsQ
   by_cases hs : isS x [123] = true
   . refine .ite (fun _ => .err (by decide)) fun hlv => .then (zCx _ x) fun u y hy => ?_
     have hlv : ¬ 24 < lv:=fun h => hlv ⟨hs,h⟩
     exact setF_mz (fun y hy => sel_mz (fun y hy => sels_mz f (lv + 1) y hy (by omega) (by omega)) y hy) (fun hy hq => hy.selL hq) _ _ _ (hx.take hy).1 (Nat.lt_succ_self _)
   . refine .ite (fun _ => .err (by decide)) fun _ => .then (zCx _ x) fun u y hy => ?_
     exfalso
     unfold takeQ at hy
     rw [if_neg hs] at hy
     cases hy
theorem set_mz (x : PS) (h : En x) : Mz (setQ x):=sels_mz 25 1 x h (by omega) (by omega)
theorem def_mz (x : PS) (h : En x) : Mz (defQ x):=by
 unfold defQ
 exact .ite (fun _ => .then (zIv _ h.nx0) fun _ _ _ => .okk _) fun _ => .okk _
theorem def_em {x y : PS} {d : Bool × D} (h : En x) (hq : defQ x = .ok (d,y)) : En y /\ y.ts.length <= x.ts.length:=by
 unfold defQ at hq
 split at hq
 . cases hw : zAf { nxT x with vr:=false } with
   | error e => rw [then_err hw] at hq; cases hq
   | ok p =>
     obtain ⟨d',o⟩:=p
     rw [zS hw] at hq
     cases hq
     have h1:=En.whole (x:={ nxT x with vr:=false }) h.nx0 hw
     exact ⟨h1.1,Nat.le_trans h1.2 (nx_len x)⟩
 . cases hq; exact ⟨h,Nat.le_refl _⟩
theorem var_mz (x : PS) (h : En x) : Mz (varQ x):=
 .then (zCx _ x) fun u y h1 => .then (zBO y) fun n z h2 => .then (zCx _ z) fun u2 w h3 => .then (typ_mz w) fun t v h4 =>
  .then (def_mz v ((((h.take h1).1.name h2).1.take h3).1.typ h4).1) fun _ _ _ => .okk _
theorem var_em {x o : PS} {d : D} (h : En x) (hq : varQ x = .ok (d,o)) : En o /\ o.ts.length < x.ts.length:=by
 unfold varQ at hq
 cases h1 : takeQ [36] x with
 | error e => rw [then_err h1] at hq; cases hq
 | ok p =>
 obtain ⟨u,y⟩:=p
 rw [zS h1] at hq
 cases h2 : nameQ y with
 | error e => rw [then_err h2] at hq; cases hq
 | ok p =>
 obtain ⟨n,z⟩:=p
 rw [zS h2] at hq
 cases h3 : takeQ [58] z with
 | error e => rw [then_err h3] at hq; cases hq
 | ok p =>
 obtain ⟨u2,w⟩:=p
 rw [zS h3] at hq
 cases h4 : typQ w with
 | error e => rw [then_err h4] at hq; cases hq
 | ok p =>
 obtain ⟨t,v⟩:=p
 rw [zS h4] at hq
 cases h5 : defQ v with
 | error e => rw [then_err h5] at hq; cases hq
 | ok p =>
 obtain ⟨d',o'⟩:=p
 rw [zS h5] at hq
 cases hq
 have e1:=h.take h1
 have e2:=e1.1.name h2
 have e3:=e2.1.take h3
 have e4:=e3.1.typ h4
 have e5:=def_em e4.1 h5
 exact ⟨e5.1,by omega⟩
theorem zIx : ∀ (f : Nat) (acc : List D) (x : PS),En x -> x.ts.length <= f -> Mz (varsF f acc x)
 | 0,_,x,hx,h => by obtain ⟨t,r,ht⟩:=hx.cons; rw [ht] at h; simp at h
 | f + 1,acc,x,hx,h => by
   by_cases hE : acc.length ≠ 0 /\ isS x [41] = true
   . rw [vl_end hE.1 hE.2]; exact .okk _
   by_cases hL : isS x [36] = true /\ 16 <= acc.length
   . rw [vl_lim hE hL]; exact .err (by decide)
   rw [vl_go hE hL]
   exact .then (var_mz x hx) fun a y hq => zIx f _ y (var_em hx hq).1 (by have:=(var_em hx hq).2; omega)
theorem zIz : ∀ (f : Nat) (acc : List D) {x y : PS} {l : List D},En x -> varsF f acc x = .ok (l,y) -> En y /\ y.ts.length <= x.ts.length
 | 0,_,_,_,_,_,h => by cases h
 | f + 1,acc,x,y,l,hx,hq => by
   by_cases hE : acc.length ≠ 0 /\ isS x [41] = true
   . rw [vl_end hE.1 hE.2] at hq; cases hq; exact ⟨hx.nx0,nx_len x⟩
   by_cases hL : isS x [36] = true /\ 16 <= acc.length
   . rw [vl_lim hE hL] at hq; cases hq
   rw [vl_go hE hL] at hq
   cases h1 : varQ x with
   | error e => rw [then_err h1] at hq; cases hq
   | ok p =>
     obtain ⟨a,z⟩:=p
     rw [zS h1] at hq
     have e1:=var_em hx h1
     have e2:=zIz f _ e1.1 hq
     exact ⟨e2.1,by omega⟩
theorem op_mz (k : Int) (x : PS) (h : En x) : Mz (opQ k x):=by
 unfold opQ
 refine .then (.ite (fun _ => .okk _) fun _ => .okk _) fun n y hy => ?_
 have hy' : En y:=by
  split at hy
  . cases hy; exact h.nx0
  . cases hy; exact h
 refine .then (.ite (fun hs => zIx _ _ _ hy'.nx0 (nx_len y)) fun _ => .okk _) fun vs z hz => ?_
 have hz' : En z:=by
  split at hz
  . exact (zIz _ _ hy'.nx0 hz).1
  . cases hz; exact hy'
 exact .then (set_mz z hz') fun _ _ _ => .okk _
theorem frag_mz (x : PS) (h : En x) : Mz (fragQ x):=by
 unfold fragQ
 refine .ite (fun _ => .err (by decide)) fun _ => .then (zBO x) fun n y hy => .ite (fun _ => .then (zBO _) fun on z hz => .then (set_mz z ?_) fun _ _ _ => .okk _) fun _ => .err (by decide)
 exact ((h.name hy).1.nx0.name hz).1
theorem zGR : ∀ (f n : Nat) (ops frs : List D) (x : PS),En x -> x.ts.length < f -> Mz (docF f n ops frs x)
 | 0,_,_,_,_,_,h => by omega
 | f + 1,n,ops,frs,x,hx,h => by
   unfold docF
   refine .ite (fun _ => .okk _) fun _ => ?_
   dsimp only
   refine .ite (fun _ => .err (by decide)) fun _ => .ite (fun _ => .err (by decide)) fun _ => .ite (fun _ => ?_) fun _ => .ite (fun _ => ?_) fun _ => ?_
   . exact .then (set_mz x hx) fun ss y hq => zGR f _ _ _ y (hx.sels hq).1 (by have:=(hx.sels hq).2; omega)
   . exact .then (op_mz _ _ hx.nx0) fun o y hq => zGR f _ _ _ y (hx.nx0.op hq).1 (by have:=(hx.nx0.op hq).2; have:=nx_len x; omega)
   . exact .then (frag_mz _ hx.nx0) fun o y hq => zGR f _ _ _ y (hx.nx0.frag hq).1 (by have:=(hx.nx0.frag hq).2; have:=nx_len x; omega)
theorem doc_mz {ts : List Tok} (h : En ⟨ts,true,0⟩) : Mz (docQ ts):=zGR _ _ _ _ _ h (Nat.lt_succ_self _)
end
def tw : List Tok -> Nat
 | [] => 0
 | t :: r => t.s.length + 40 + tw r
def Bd {α : Type} (μ : α -> Nat) (N : Nat) (r : PR α) : Prop:=∀ v y,r = .ok (v,y) -> μ v + tw y.ts <= N
section
variable {α β : Type} {μ : α -> Nat} {ν : β -> Nat} {N M : Nat}
theorem Bd.okk {v : α} {y : PS} (h : μ v + tw y.ts <= N) : Bd μ N (.ok (v,y) : PR α):=fun _ _ e => by cases e; exact h
theorem Bd.err {e : Nat × Int} : Bd μ N (.error e : PR α):=fun _ _ h => by cases h
theorem Bd.ite {c : Prop} [Decidable c] {a b : PR α} (h1 : c -> Bd μ N a) (h2 : ¬ c -> Bd μ N b) : Bd μ N (if c then a else b):=by
 split
 . exact h1 ‹_›
 . exact h2 ‹_›
theorem Bd.then {r : PR α} {f : α -> PS -> PR β} (h : Bd μ N r) (hf : ∀ a x,μ a + tw x.ts <= N -> Bd ν M (f a x)) : Bd ν M (thenQ r f):=by
 cases hr : r with
 | error e =>
   rw [then_err (r:=.error e) rfl]
   exact .err
 | ok p =>
   obtain ⟨a,x⟩:=p
   rw [zS (r:=.ok (a,x)) rfl]
   exact hf a x (h a x hr)
end
def sl (s : List UInt8) : Nat:=s.length + 40
section
variable {v : PS -> PR D} (hv : ∀ y,Bd bulkD (tw y.ts) (v y))
include hv
end
def Hr {α : Type} (Q : α -> PS -> Prop) (r : PR α) : Prop:=∀ v z,r = .ok (v,z) -> Q v z
section
variable {α β : Type} {Q : α -> PS -> Prop} {R : β -> PS -> Prop}
theorem Hr.okk {v : α} {z : PS} (h : Q v z) : Hr Q (.ok (v,z) : PR α):=fun _ _ e => by cases e; exact h
theorem Hr.err {e : Nat × Int} : Hr Q (.error e : PR α):=fun _ _ h => by cases h
theorem Hr.ite {c : Prop} [Decidable c] {a b : PR α} (h1 : c -> Hr Q a) (h2 : ¬ c -> Hr Q b) : Hr Q (if c then a else b):=by
 split
 . exact h1 ‹_›
 . exact h2 ‹_›
theorem Hr.then {r : PR α} {f : α -> PS -> PR β} (h : Hr Q r) (hf : ∀ a x,Q a x -> Hr R (f a x)) : Hr R (thenQ r f):=by
 cases hr : r with
 | error e =>
   rw [then_err (r:=.error e) rfl]
   exact .err
 | ok p =>
   obtain ⟨a,x⟩:=p
   rw [zS (r:=.ok (a,x)) rfl]
   exact hf a x (h a x hr)
theorem Hr.mono {r : PR α} {Q' : α -> PS -> Prop} (h : Hr Q r) (hq : ∀ a x,Q a x -> Q' a x) : Hr Q' r:=fun v z e => hq v z (h v z e)
end
def GT (x : PS) : Prop:=∀ t ∈ x.ts,(t.k = 2 -> nameB ⟨t.s.toArray⟩ = true) /\ 1 <= t.k /\ t.k <= 5
theorem GT.nx {x : PS} (h : GT x) : GT (nxT x):=fun t ht => by
 unfold nxT at ht
 split at ht
 . exact h t ht
 . exact h t (List.mem_of_mem_drop ht)
theorem nx_vr (x : PS) : (nxT x).vr = x.vr:=by unfold nxT; split <;> rfl
theorem nx_nd2 (x : PS) : (nxT x).nd = x.nd:=by unfold nxT; split <;> rfl
theorem GT.hd {x : PS} (h : GT x) : ((hdT x).k = 2 -> nameB ⟨(hdT x).s.toArray⟩ = true) /\ 1 <= (hdT x).k /\ (hdT x).k <= 5:=by
 unfold hdT
 cases hx : x.ts with
 | nil => exact ⟨fun h => absurd h (by decide),by decide,by decide⟩
 | cons t r => exact h t (by rw [hx]; exact List.mem_cons_self ..)
structure Pv (x z : PS) : Prop where
 gt : GT z
 vr : z.vr = x.vr
theorem Pv.trans {x y z : PS} (h1 : Pv x y) (h2 : Pv y z) : Pv x z:=⟨h2.gt,h2.vr.trans h1.vr⟩
theorem GT.pv {x : PS} (h : GT x) : Pv x x:=⟨h,rfl⟩
theorem GT.pvn {x : PS} (h : GT x) : Pv x (nxT x):=⟨h.nx,nx_vr x⟩
theorem name_rt {x : PS} (h : GT x) : Hr (fun n z => nameB ⟨n.toArray⟩ = true /\ Pv x z /\ z.nd = x.nd) (nameQ x):=by
 unfold nameQ
 exact .ite (fun hk => .okk ⟨h.hd.1 hk,h.pvn,nx_nd2 x⟩) fun _ => .err
structure VOk (lv : Nat) (vr : Bool) (n0 : Nat) (v : D) (n1 : Nat) : Prop where
 sz : ∀ k,Dp k v -> sizeR k v + n0 = n1
 dp : ∀ k,Dp k v -> depthR k v + lv <= 25
 ev : ∀ k,Dp k v -> everyL k v = true
 br : vr = false -> ∀ k,Dp k v -> bareR k v = true
structure CH (lv : Nat) (vr : Bool) (n0 : Nat) (l : List D) (n1 : Nat) : Prop where
 sz : ∀ k,(∀ i,i < l.length -> Dp k (gD l i)) -> sumN (fun i => sizeR k (gD l i)) l.length + n0 = n1
 dp : ∀ i,i < l.length -> ∀ k,Dp k (gD l i) -> depthR k (gD l i) + lv <= 25
 ev : ∀ i,i < l.length -> ∀ k,Dp k (gD l i) -> everyL k (gD l i) = true
 br : vr = false -> ∀ i,i < l.length -> ∀ k,Dp k (gD l i) -> bareR k (gD l i) = true
theorem CH.nil {lv : Nat} {vr : Bool} {n : Nat} : CH lv vr n [] n:=
 ⟨fun k _ => by simp [sumN],fun i hi => absurd hi (Nat.not_lt_zero i),fun i hi => absurd hi (Nat.not_lt_zero i),fun _ i hi => absurd hi (Nat.not_lt_zero i)⟩
section
variable {val : PS -> PR D} {lv n0 : Nat} {vr : Bool} (hv : ∀ y,GT y -> y.vr = vr -> y.nd <= 4096 -> Hr (fun v z => Pv y z /\ VOk lv vr y.nd v z.nd /\ z.nd <= 4096) (val y))
include hv
end
def Al (p : D -> Bool) (l : List D) : Prop:=∀ i,i < l.length -> p (gD l i) = true
theorem Al.nil {p : D -> Bool} : Al p []:=fun i hi => absurd hi (Nat.not_lt_zero i)
theorem Hr.name {β : Type} {R : β -> PS -> Prop} {x : PS} {f : List UInt8 -> PS -> PR β} (h : GT x) (hf : ∀ n z,(hdT x).k = 2 -> nameB ⟨n.toArray⟩ = true -> Pv x z -> Hr R (f n z)) : Hr R (thenQ (nameQ x) f):=by
 by_cases hk : (hdT x).k = 2
 . exact .then (name_rt h) fun n z hz => hf n z hk hz.1 hz.2.1
 . unfold nameQ
   rw [if_neg hk]
   exact .err
abbrev KS:=List (Int × List UInt8)
theorem letB_u : ∀ c : UInt8,letB (c.toNat : Int) = true -> letU c = true:=fun c =>
 zD4 (p:=fun c => letB (c.toNat : Int) = true -> letU c = true) (by decide +kernel) c
theorem wrdB_u : ∀ c : UInt8,(letB (c.toNat : Int) || digB (c.toNat : Int)) = true -> wrdU c = true:=fun c =>
 zD4 (p:=fun c => (letB (c.toNat : Int) || digB (c.toNat : Int)) = true -> wrdU c = true) (by decide +kernel) c
theorem name_u {s : ByteArray} (h : nameB s = true) : nameU (tx s) = true:=by
 unfold nameB at h
 have h:=of_decide_eq_true h
 obtain ⟨h1,h2,h3,h4⟩:=h
 have hl:=zAG s
 have hb : ∀ i,i < s.size -> wrdU ((tx s).getD i 0) = true:=fun i hi => wrdB_u _ (h4 i hi)
 have h0:=h4 0 h1
 rw [h3,Bool.or_false] at h0
 have h5 : letU ((tx s).getD 0 0) = true:=letB_u _ h0
 generalize tx s = t at hl hb h5
 cases t with
 | nil => simp at hl; omega
 | cons c q =>
   simp only [List.length_cons] at hl
   simp only [nameU,Bool.and_eq_true,decide_eq_true_eq]
   refine ⟨⟨h5,List.all_eq_true.2 fun x hx => ?_⟩,by omega⟩
   obtain ⟨i,hi,rfl⟩:=List.getElem_of_mem hx
   have:=hb (i + 1) (by omega)
   rw [List.getD_cons_succ,List.getD_eq_getElem?_getD,List.getElem?_eq_getElem hi] at this
   exact this
theorem Pw.nm {s : ByteArray} (h : nameB s = true) : Pw (tx s) [(2,tx s)]:=.name (name_u h)
def gK (g : Nat -> KS) (j m : Nat) : KS:=(List.range' j m).flatMap g
theorem zCS (g : Nat -> KS) (j : Nat) : gK g j 0 = []:=rfl
theorem zBQ (g : Nat -> KS) (j m : Nat) : gK g j (m + 1) = g j ++ gK g (j + 1) m:=by
 unfold gK
 rw [List.range'_succ,List.flatMap_cons]
theorem gK_last (g : Nat -> KS) : ∀ m,gK g 0 (m + 1) = gK g 0 m ++ g m:=fun m => by
 unfold gK
 rw [List.range'_concat,List.flatMap_append]
 simp
theorem zDU (g : Nat -> KS) (h : ∀ i,1 <= (g i).length) : ∀ m j,m <= (gK g j m).length
 | 0,_ => Nat.zero_le _
 | m + 1,j => by
   have:=zDU g h m (j + 1)
   have:=h j
   rw [zBQ,List.length_append]
   omega
def Gap (sep : List UInt8) : Prop:=Ps sep [] /\ sep ≠ [] /\ bnd sep
theorem Gap.comma : Gap commaT:=⟨(Ps.sep (c:=44) rfl).app (Ps.sep (c:=32) rfl),by decide,zAX (by decide)⟩
theorem Gap.space : Gap [32]:=⟨.sep rfl,by decide,zAX (by decide)⟩
theorem Gap.line : Gap [10]:=⟨.sep rfl,by decide,zAX (by decide)⟩
theorem Pw.gap {a b sep : List UInt8} {ka kb : KS} (h : Pw a ka) (hs : Gap sep) (k : Pw b kb) : Pw (a ++ sep ++ b) (ka ++ kb):=by
 have h1:=h.app hs.1 ⟨hs.2.1,hs.2.2⟩
 rw [List.append_nil] at h1
 exact h1.appw k
theorem Pw.join {f : Nat -> List UInt8} {g : Nat -> KS} {sep : List UInt8} (hs : Gap sep) : ∀ n,(∀ i,i < n -> Pw (f i) (g i)) -> Pw (Lib.join ((List.range n).map f) sep) (gK g 0 n)
 | 0,_ => Ps.nil.w
 | n + 1,h => by
   have ih:=Pw.join (f:=f) (g:=g) hs n fun i hi => h i (by omega)
   rw [gK_last,List.range_succ,List.map_append]
   cases n with
   | zero =>
     have e : Lib.join ((List.range 0).map f ++ [0].map f) sep = f 0:=by simp [Lib.join_one]
     rw [e]
     exact h 0 (by omega)
   | succ n =>
     have e : (List.range (n + 1)).map f ≠ []:=fun e => by have:=congrArg List.length e; simp at this
     rw [List.map_cons,List.map_nil,joinSnoc _ _ _ e]
     exact ih.gap hs (h (n + 1) (by omega))
theorem zEg (l : List D) (f : D -> List UInt8) : l.map f = (List.range l.length).map fun i => f (gD l i):=by
 apply List.ext_getElem (by simp)
 intro i h1 h2
 simp [zAx (l:=l) (i:=i) (by simpa using h1)]
def rgK (g : D -> KS) (l : List D) : KS:=gK (fun i => g (gD l i)) 0 l.length
theorem Pw.joinL {f : D -> List UInt8} {g : D -> KS} {sep : List UInt8} (hs : Gap sep) (l : List D) (h : ∀ i,i < l.length -> Pw (f (gD l i)) (g (gD l i))) : Pw (Lib.join (l.map f) sep) (rgK g l):=by
 rw [zEg]
 exact Pw.join hs _ h
theorem Ps.wrap {a b : UInt8} {t : List UInt8} {k : KS} (ha : zAc a = true) (hb : zAc b = true) (h : Pw t k) : Ps ([a] ++ t ++ [b]) ((1,[a]) :: (k ++ [(1,[b])])):=by
 have h1:=(Ps.sign ha).appw h
 have h2:=h1.app (Ps.sign hb) ⟨by simp,zAX (zFJ b hb).2.2⟩
 exact h2
def valK : Nat -> D -> KS
 | 0,_ => []
 | k + 1,d =>
   if (d.f 0).n = 1 then [(2,if (d.f 1).n = 1 then [116,114,117,101] else [102,97,108,115,101])]
   else if (d.f 0).n = 2 then [(3,Lib.itoa (d.f 1).n)]
   else if (d.f 0).n = 3 then [(4,tx (d.f 2).s)]
   else if (d.f 0).n = 4 then [(2,tx (d.f 2).s)]
   else if (d.f 0).n = 7 then [(1,[36]),(2,tx (d.f 2).s)]
   else if (d.f 0).n = 5 then (1,[91]) :: (gK (fun i => valK k (gD (d.f 3).l i)) 0 (d.f 3).l.length ++ [(1,[93])])
   else if (d.f 0).n = 6 then (1,[123]) :: (gK (fun i => (2,tx (gD (d.f 4).l i).s) :: (1,[58]) :: valK k (gD (d.f 3).l i)) 0 (d.f 3).l.length ++ [(1,[125])])
   else [(2,[110,117,108,108])]
structure NodeF (d : D) : Prop where
 int0 : (d.f 0).n = 1 \/ (d.f 0).n = 2 \/ (d.f 1).n = 0
 txt0 : (d.f 0).n = 3 \/ (d.f 0).n = 4 \/ (d.f 0).n = 7 \/ tx (d.f 2).s = []
 keys0 : (d.f 0).n = 6 \/ (d.f 4).l.length = 0
 items0 : (d.f 0).n = 6 \/ (d.f 0).n = 5 \/ (d.f 3).l.length = 0
 kind : 0 <= (d.f 0).n /\ (d.f 0).n <= 7
 bool : (d.f 0).n = 1 -> (d.f 1).n = 0 \/ (d.f 1).n = 1
 enum : (d.f 0).n = 4 -> enumR (d.f 2).s = true
 var : (d.f 0).n = 7 -> nameB (d.f 2).s = true
 obj : (d.f 0).n = 6 -> (∀ i,i < (d.f 4).l.length -> nameB (gD (d.f 4).l i).s = true) /\ (d.f 4).l.length = (d.f 3).l.length /\ (strsR d).Nodup
theorem zD3 {p : D -> Bool} {l : List D} (h : (l.any fun x => !p x) = false) : ∀ i,i < l.length -> p (gD l i) = true:=fun i hi => by
 rw [List.any_eq_false] at h
 have:=h _ (gD_mem hi)
 simpa using this
theorem xnode {d : D} (h : nodeL d = true) : NodeF d:=by
 unfold nodeL nodeK at h
 simp only [Bool.and_eq_true,Bool.or_eq_true,beq_iff_eq,decide_eq_true_eq,Bool.not_eq_true',beq_eq_false_iff_ne] at h
 obtain ⟨⟨⟨⟨⟨⟨⟨⟨h1,h2⟩,h3⟩,h4⟩,h5⟩,h6⟩,h7⟩,h8⟩,h9⟩:=h
 refine ⟨?_,?_,h3,?_,h5,?_,?_,?_,?_⟩
 . rcases h1 with (h | h) | h
   . exact .inl h
   . exact .inr (.inl h)
   . exact .inr (.inr h)
 . rcases h2 with ((h | h) | h) | h
   . exact .inl h
   . exact .inr (.inl h)
   . exact .inr (.inr (.inl h))
   . exact .inr (.inr (.inr h))
 . rcases h4 with (h | h) | h
   . exact .inl h
   . exact .inr (.inl h)
   . exact .inr (.inr h)
 . intro h
   rcases h6 with (h' | h') | h'
   . exact absurd h h'
   . exact .inl h'
   . exact .inr h'
 . intro h
   rcases h7 with h' | h'
   . exact absurd h h'
   . exact h'
 . intro h
   rcases h8 with h' | h'
   . exact absurd h h'
   . exact h'
 . intro h
   rcases h9 with h' | h'
   . exact absurd h h'
   . exact ⟨zD3 h'.1.1,h'.1.2,h'.2⟩
theorem zDs {k : Nat} {d : D} (h : everyL (k + 1) d = true) : NodeF d /\ ∀ i,i < (d.f 3).l.length -> everyL k (gD (d.f 3).l i) = true:=by
 unfold everyL at h
 rw [Bool.and_eq_true,Bool.not_eq_true'] at h
 exact ⟨xnode h.1,zD3 h.2⟩
theorem zHY {s : ByteArray} (h : enumR s = true) : nameB s = true /\ tx s ≠ [116,114,117,101] /\ tx s ≠ [102,97,108,115,101] /\ tx s ≠ [110,117,108,108]:=by
 unfold enumR at h
 simp only [Bool.and_eq_true,Bool.not_eq_true',beq_eq_false_iff_ne] at h
 exact ⟨h.1.1.1,h.1.1.2,h.1.2,h.2⟩
theorem zH3 : ∀ (k : Nat) (d : D),wideD d -> everyL k d = true -> Pw (valT k d) (valK k d)
 | 0,_,_,h => by cases h
 | k + 1,d,hw,h => by
   obtain ⟨hn,hi⟩:=zDs h
   unfold valT valK
   split
   . split
     . exact .name rfl
     . exact .name rfl
   split
   . exact .int _ (hw.f 1).n.1 (hw.f 1).n.2
   split
   . exact (Ps.quote _).w
   split
   . exact .nm (zHY (hn.enum ‹_›)).1
   split
   . exact (Ps.sign (c:=36) rfl).appw (.nm (hn.var ‹_›))
   split
   . exact (Ps.wrap rfl rfl (Pw.join (f:=fun i => valT k (gD (d.f 3).l i)) (g:=fun i => valK k (gD (d.f 3).l i)) .comma _ fun i hl => zH3 k _ ((hw.f 3).l i) (hi i hl))).w
   split
   . obtain ⟨h1,h2,-⟩:=hn.obj ‹_›
     rw [show min (d.f 4).l.length (d.f 3).l.length = (d.f 3).l.length by omega]
     refine (Ps.wrap rfl rfl (Pw.join (f:=fun i => tx (gD (d.f 4).l i).s ++ [58,32] ++ valT k (gD (d.f 3).l i)) (g:=fun i => (2,tx (gD (d.f 4).l i).s) :: (1,[58]) :: valK k (gD (d.f 3).l i)) .comma _ fun i hl => ?_)).w
     have p1:=(Pw.nm (h1 i (by omega))).app ((Ps.sign (c:=58) rfl).app (Ps.sep (c:=32) rfl)) ⟨by simp,zAX (by decide)⟩
     exact p1.appw (zH3 k _ ((hw.f 3).l i) (hi i hl))
   . exact .name rfl
theorem valT_eq {a b : Nat} {d : D} (ha : Dp a d) (hb : Dp b d) : valT a d = valT b d:=by
 rcases Nat.le_total a b with h | h
 . exact (zER ha h).symm
 . exact zER hb h
def litK (d : D) : KS:=valK (bulkD d) d
theorem litT_pw {K : Nat} {d : D} (hd : Dp K d) (hw : wideD d) (h : litR d = true) : Pw (valT K d) (litK d):=by
 unfold litR at h
 rw [Bool.and_eq_true] at h
 rw [valT_eq hd (zBh (bulkD d) d (Nat.le_refl _))]
 exact zH3 _ _ hw h.2
def argK (a : D) : KS:=(2,tx (a.f 0).s) :: (1,[58]) :: litK (a.f 1)
def parK (l : List D) : KS:=if l.length = 0 then [] else (1,[40]) :: (rgK argK l ++ [(1,[41])])
def dirK (x : D) : KS:=(1,[64]) :: (2,tx (x.f 0).s) :: parK (x.f 1).l
theorem zDe {l : List D} (h : argsR l = true) : l.length <= 16 /\ ∀ i,i < l.length -> nameB ((gD l i).f 0).s = true /\ litR ((gD l i).f 1) = true:=by
 unfold argsR at h
 rw [Bool.and_eq_true,Bool.not_eq_true',decide_eq_true_eq] at h
 refine ⟨h.1,fun i hi => ?_⟩
 have:=zD3 h.2 i hi
 unfold argR at this
 rwa [Bool.and_eq_true] at this
theorem zEx {l : List D} (h : dirsR l = true) : l.length <= 16 /\ ∀ i,i < l.length -> nameB ((gD l i).f 0).s = true /\ argsR ((gD l i).f 1).l = true:=by
 unfold dirsR at h
 rw [Bool.and_eq_true,Bool.not_eq_true',decide_eq_true_eq] at h
 refine ⟨h.1,fun i hi => ?_⟩
 have:=zD3 h.2 i hi
 unfold dirR at this
 rwa [Bool.and_eq_true] at this
theorem zJw {s : ByteArray} {t : List UInt8} {k : KS} (hs : nameB s = true) (h : Pw t k) : Pw (tx s ++ [58,32] ++ t) ((2,tx s) :: (1,[58]) :: k):=by
 have p1:=(Pw.nm hs).app ((Ps.sign (c:=58) rfl).app (Ps.sep (c:=32) rfl)) ⟨by simp,zAX (by decide)⟩
 exact p1.appw h
theorem argsT_pw {K : Nat} {l : List D} (h : argsR l = true) (hd : ∀ i,i < l.length -> Dp K ((gD l i).f 1)) (hw : ∀ i,wideD (gD l i)) : Pw (zGb K l) (rgK argK l):=by
 unfold zGb
 exact Pw.joinL .comma l fun i hi => zJw ((zDe h).2 i hi).1 (litT_pw (hd i hi) ((hw i).f 1) ((zDe h).2 i hi).2)
theorem parT_ps {K : Nat} {l : List D} (h : argsR l = true) (hd : ∀ i,i < l.length -> Dp K ((gD l i).f 1)) (hw : ∀ i,wideD (gD l i)) : Ps (parT K l) (parK l):=by
 unfold parT parK
 split
 . exact .nil
 . exact Ps.wrap rfl rfl (argsT_pw h hd hw)
theorem zJL (K : Nat) (l : List D) : bnd (parT K l):=by
 unfold parT
 split
 . exact zIn
 . exact zAX (by decide)
theorem dirsT_pw {K : Nat} {l : List D} (h : dirsR l = true) (hd : DirsOk K l) : Pw (dirsT K l) (rgK dirK l):=by
 unfold dirsT
 refine Pw.joinL .space l fun i hi => ?_
 obtain ⟨h1,h2⟩:=(zEx h).2 i hi
 have p1:=(Ps.sign (c:=64) rfl).appw (Pw.nm h1)
 exact p1.appw (parT_ps h2 (hd.args i hi).dp (hd.args i hi).wide).w (zJL _ _)
theorem tailT_pw {K : Nat} {l : List D} (h : dirsR l = true) (hd : DirsOk K l) : Pw (zBe K l) (rgK dirK l):=by
 unfold zBe
 split
 . rename_i h0
   unfold rgK
   rw [h0]
   exact Ps.nil.w
 . exact (Ps.sep (c:=32) rfl).appw (dirsT_pw h hd)
theorem tailT_bnd (K : Nat) (l : List D) : bnd (zBe K l):=by
 unfold zBe
 split
 . exact zIn
 . exact zAX (by decide)
def blkK (k : KS) : KS:=(1,[123]) :: (k ++ [(1,[125])])
def selK (inner : List D -> KS) (s : D) : KS:=
 if (s.f 0).n = 2 then (1,[46,46,46]) :: (2,tx (s.f 2).s) :: rgK dirK (s.f 5).l
 else if (s.f 0).n = 3 then (1,[46,46,46]) :: ((if tx (s.f 3).s = [] then [] else [(2,onT),(2,tx (s.f 3).s)]) ++ (rgK dirK (s.f 5).l ++ blkK (inner (s.f 6).l)))
 else (if tx (s.f 1).s = [] then [] else [(2,tx (s.f 1).s),(1,[58])]) ++ ((2,tx (s.f 2).s) :: (parK (s.f 4).l ++ (rgK dirK (s.f 5).l ++ (if (s.f 6).l.length = 0 then [] else blkK (inner (s.f 6).l)))))
def selsK : Nat -> List D -> KS
 | 0,_ => []
 | f + 1,l => rgK (selK (selsK f)) l
structure SelF (sub : List D -> Nat -> Prop) (d : D) : Prop where
 args : argsR (d.f 4).l = true
 dirs : dirsR (d.f 5).l = true
 field : (d.f 0).n = 1 -> tx (d.f 3).s = [] /\ nameB (d.f 2).s = true /\ (tx (d.f 1).s = [] \/ nameB (d.f 1).s = true) /\ sub (d.f 6).l 0
 spread : (d.f 0).n = 2 -> tx (d.f 3).s = [] /\ tx (d.f 1).s = [] /\ (d.f 4).l.length = 0 /\ (d.f 6).l.length = 0 /\ nameB (d.f 2).s = true /\ tx (d.f 2).s ≠ [111,110]
 inline : (d.f 0).n = 3 -> tx (d.f 1).s = [] /\ tx (d.f 2).s = [] /\ (d.f 4).l.length = 0 /\ (tx (d.f 3).s = [] \/ nameB (d.f 3).s = true) /\ sub (d.f 6).l 1
 kind : (d.f 0).n = 1 \/ (d.f 0).n = 2 \/ (d.f 0).n = 3
theorem zEf {s : ByteArray} : noneS s = true ↔ tx s = []:=by unfold noneS tx; rw [beq_iff_eq]
theorem zI3 {s : ByteArray} (h : titleR s = true) : nameB s = true /\ tx s ≠ [111,110]:=by
 unfold titleR at h
 rw [Bool.and_eq_true,Bool.not_eq_true',beq_eq_false_iff_ne] at h
 exact h
def SetF (sel : D -> Prop) (lv : Nat) (l : List D) (least : Nat) : Prop:=least <= l.length /\ l.length <= 64 /\ (l.length = 0 \/ lv <= 24) /\ ∀ i,i < l.length -> sel (gD l i)
theorem xset {sel : D -> Bool} {l : List D} {least lv : Nat} (h : selsR sel l least lv = true) : SetF (fun d => sel d = true) lv l least:=by
 unfold selsR at h
 simp only [Bool.and_eq_true,Bool.or_eq_true,decide_eq_true_eq,Bool.not_eq_true'] at h
 exact ⟨h.1.1.1,h.1.1.2,h.1.2,zD3 h.2⟩
theorem xsel {k lv : Nat} {d : D} (h : selR (k + 1) lv d = true) : SelF (fun l least => SetF (fun x => selR k (lv + 1) x = true) (lv + 1) l least) d:=by
 unfold selR at h
 rw [Bool.and_eq_true,Bool.and_eq_true] at h
 obtain ⟨⟨h1,h2⟩,h3⟩:=h
 by_cases k1 : (d.f 0).n = 1
 . rw [if_pos k1] at h3
   simp only [Bool.and_eq_true,Bool.or_eq_true,zEf] at h3
   exact ⟨h1,h2,fun _ => ⟨h3.1.1.1,h3.1.1.2,h3.1.2,xset h3.2⟩,fun e => by omega,fun e => by omega,.inl k1⟩
 rw [if_neg k1] at h3
 by_cases k2 : (d.f 0).n = 2
 . rw [if_pos k2] at h3
   simp only [Bool.and_eq_true,zEf,decide_eq_true_eq] at h3
   have ht:=zI3 h3.2
   exact ⟨h1,h2,fun e => absurd e k1,fun _ => ⟨h3.1.1.1.1,h3.1.1.1.2,h3.1.1.2,h3.1.2,ht.1,ht.2⟩,fun e => by omega,.inr (.inl k2)⟩
 rw [if_neg k2] at h3
 by_cases k3 : (d.f 0).n = 3
 . rw [if_pos k3] at h3
   simp only [Bool.and_eq_true,Bool.or_eq_true,zEf,decide_eq_true_eq] at h3
   exact ⟨h1,h2,fun e => absurd e k1,fun e => absurd e k2,fun _ => ⟨h3.1.1.1.1,h3.1.1.1.2,h3.1.1.2,h3.1.2,xset h3.2⟩,.inr (.inr k3)⟩
 . rw [if_neg k3] at h3; cases h3
theorem rep_ps (n : Nat) : Ps (Lib.repeatL [32,32] n) []:=by
 induction n with
 | zero => exact .nil
 | succ n ih =>
   have e : Lib.repeatL [32,32] (n + 1) = [32] ++ [32] ++ Lib.repeatL [32,32] n:=by simp [Lib.repeatL,List.replicate_succ]
   rw [e]
   exact ((Ps.sep (c:=32) rfl).app (Ps.sep (c:=32) rfl)).app ih
theorem zDo {n : Nat} {t : List UInt8} {k : KS} (h : Pw t k) : Ps (zAk n t) k:=by
 unfold zAk
 have h1:=(rep_ps n).appw h
 have h2:=h1.app (Ps.sep (c:=10) rfl) ⟨by simp,zAX (by decide)⟩
 rw [List.append_nil] at h2
 exact h2
theorem brace_pw {t : List UInt8} {k : KS} (h : Pw t k) : Pw (t ++ [32,123]) (k ++ [(1,[123])]):=
 (h.app ((Ps.sep (c:=32) rfl).app (Ps.sign (c:=123) rfl)) ⟨by simp,zAX (by decide)⟩).w
theorem zGV {n m : Nat} {t i : List UInt8} {k ki : KS} (h : Pw t k) (hi : Ps i ki) : Ps (zAk n (t ++ [32,123]) ++ i ++ zAk m [125]) (k ++ blkK ki):=by
 have h1:=zDo (n:=n) (brace_pw h)
 have h2:=zDo (n:=m) (Ps.sign (c:=125) rfl).w
 have h3:=(h1.app hi).app h2
 have e : k ++ [(1,[123])] ++ ki ++ [(1,[125])] = k ++ blkK ki:=by simp [blkK]
 rwa [e] at h3
theorem flat_ps {f : D -> List UInt8} {g : D -> KS} (l : List D) (h : ∀ i,i < l.length -> Ps (f (gD l i)) (g (gD l i))) : Ps (l.map f).flatten (rgK g l):=by
 have key : ∀ n,n <= l.length -> Ps (((List.range n).map fun i => f (gD l i)).flatten) (gK (fun i => g (gD l i)) 0 n):=fun n => by
  induction n with
  | zero => intro _; exact .nil
  | succ n ih =>
    intro hn
    rw [List.range_succ,List.map_append,List.flatten_append,gK_last]
    have:=(ih (by omega)).app (h n (by omega))
    simpa using this
 rw [zEg]
 exact key _ (Nat.le_refl _)
theorem head_pw {K : Nat} {sub : List D -> Nat -> Prop} {inner : List D -> Prop} {s : D} (h : SelF sub s) (ho : SelOk K inner s) :
 Pw (zDq K s) (if (s.f 0).n = 2 then (1,[46,46,46]) :: (2,tx (s.f 2).s) :: rgK dirK (s.f 5).l
  else if (s.f 0).n = 3 then (1,[46,46,46]) :: ((if tx (s.f 3).s = [] then [] else [(2,onT),(2,tx (s.f 3).s)]) ++ rgK dirK (s.f 5).l)
  else (if tx (s.f 1).s = [] then [] else [(2,tx (s.f 1).s),(1,[58])]) ++ ((2,tx (s.f 2).s) :: (parK (s.f 4).l ++ rgK dirK (s.f 5).l))):=by
 have ht:=tailT_pw h.dirs ho.dirs
 have hb:=tailT_bnd K (s.f 5).l
 unfold zDq
 by_cases k2 : (s.f 0).n = 2
 . rw [if_pos k2,if_pos k2]
   have hn:=(h.spread k2).2.2.2.2.1
   exact (Ps.dots.appw (Pw.nm hn)).appw ht hb
 rw [if_neg k2,if_neg k2]
 by_cases k3 : (s.f 0).n = 3
 . rw [if_pos k3,if_pos k3]
   by_cases e : tx (s.f 3).s = []
   . rw [if_pos e,if_pos e,List.append_nil]
     exact Ps.dots.appw ht
   . rw [if_neg e,if_neg e]
     have hn : nameB (s.f 3).s = true:=by rcases (h.inline k3).2.2.2.1 with h' | h'; exact absurd h' e; exact h'
     have p1 : Pw ([32,111,110,32] ++ tx (s.f 3).s) [(2,onT),(2,tx (s.f 3).s)]:=by
      have a:=(Ps.sep (c:=32) rfl).appw (Pw.name (l:=[111,110]) rfl)
      exact a.gap .space (Pw.nm hn)
     exact (Ps.dots.appw p1).appw ht hb
 . rw [if_neg k3,if_neg k3]
   have k1 : (s.f 0).n = 1:=by rcases h.kind with h' | h' | h'; exact h'; exact absurd h' k2; exact absurd h' k3
   obtain ⟨-,hn,ha,-⟩:=h.field k1
   have pp:=parT_ps h.args ho.args.dp ho.args.wide
   have p1 : Pw (tx (s.f 2).s ++ parT K (s.f 4).l ++ zBe K (s.f 5).l) ((2,tx (s.f 2).s) :: (parK (s.f 4).l ++ rgK dirK (s.f 5).l)):=by
    have a:=((Pw.nm hn).appw pp.w (zJL _ _)).appw ht hb
    exact a
   by_cases e : tx (s.f 1).s = []
   . rw [if_pos e,if_pos e]; exact p1
   . rw [if_neg e,if_neg e]
     have hn : nameB (s.f 1).s = true:=by rcases ha with h' | h'; exact absurd h' e; exact h'
     exact zJw hn p1
theorem sel_ps {K n : Nat} {sub : List D -> Nat -> Prop} {inner : List D -> Prop} {iT : List D -> List UInt8} {iK : List D -> KS} {s : D} (h : SelF sub s) (ho : SelOk K inner s) (hi : Ps (iT (s.f 6).l) (iK (s.f 6).l)) :
 Ps (selT K iT n s) (selK iK s):=by
 have hh:=head_pw h ho
 unfold selT selK
 by_cases k2 : (s.f 0).n = 2
 . rw [if_pos k2] at hh
   rw [if_pos k2,if_neg (by unfold zBg; rw [k2]; simp)]
   exact zDo hh
 rw [if_neg k2] at hh
 rw [if_neg k2]
 by_cases k3 : (s.f 0).n = 3
 . rw [if_pos k3] at hh
   rw [if_pos k3,if_pos (by unfold zBg; rw [k3]; rfl)]
   have:=zGV (n:=n) (m:=n) hh hi
   simpa [List.append_assoc] using this
 . rw [if_neg k3] at hh
   rw [if_neg k3]
   by_cases e : (s.f 6).l.length = 0
   . rw [if_neg (by unfold zBg; simp [k3,e]),if_pos e,List.append_nil]
     exact zDo hh
   . rw [if_pos (by unfold zBg; simp [k2,e]),if_neg e]
     have:=zGV (n:=n) (m:=n) hh hi
     simpa [List.append_assoc] using this
theorem zIF {K : Nat} : ∀ (f k lv n : Nat) (l : List D),SelsOk K f l -> (∀ i,i < l.length -> selR k lv (gD l i) = true) -> Ps (selsT K f n l) (selsK f l)
 | 0,_,_,_,_,_,_ => .nil
 | f + 1,k,lv,n,l,h,hr => by
   unfold selsT selsK
   refine flat_ps l fun i hi => ?_
   have h1:=h i hi
   have h2:=hr i hi
   cases k with
   | zero => cases h2
   | succ k =>
     have hs:=xsel h2
     refine sel_ps hs h1 (zIF f k (lv + 1) (n + 1) _ h1.sub fun j hj => ?_)
     rcases hs.kind with e | e | e
     . exact (hs.field e).2.2.2.2.2.2 j hj
     . have:=(hs.spread e).2.2.2.1; omega
     . exact (hs.inline e).2.2.2.2.2.2.2 j hj
def refK (n : List UInt8) : List D -> KS
 | [] => [(2,n)]
 | d :: ds => if d.n == 1 then refK n ds ++ [(1,[33])] else (1,[91]) :: (refK n ds ++ [(1,[93])])
theorem refB_pw {s : ByteArray} (h : nameB s = true) : ∀ l : List D,Pw (refB (tx s) l) (refK (tx s) l)
 | [] => .nm h
 | d :: ds => by
   have ih:=refB_pw h ds
   unfold refB refK
   split
   . exact (ih.app (Ps.sign (c:=33) rfl) ⟨by simp,zAX (by decide)⟩).w
   . exact (Ps.wrap rfl rfl ih).w
def varK (v : D) : KS:=(1,[36]) :: (2,tx (v.f 0).s) :: (1,[58]) :: (refK (tx ((v.f 1).f 0).s) ((v.f 1).f 1).l ++ (if (v.f 2).b = true then (1,[61]) :: litK (v.f 3) else []))
structure VarF (v : D) : Prop where
 name : nameB (v.f 0).s = true
 rname : nameB ((v.f 1).f 0).s = true
 rlen : ((v.f 1).f 1).l.length <= 24
 wraps : zCp (((v.f 1).f 1).l.map D.n) = true
 has : (v.f 2).b = true -> litR (v.f 3) = true /\ bareR (bulkD (v.f 3)) (v.f 3) = true
 hasnt : (v.f 2).b = false -> ((v.f 3).f 0).n = 0 /\ ((v.f 3).f 1).n = 0 /\ tx ((v.f 3).f 2).s = [] /\ ((v.f 3).f 3).l.length = 0 /\ ((v.f 3).f 4).l.length = 0
theorem xvar {v : D} (h : varR v = true) : VarF v:=by
 unfold varR refR at h
 simp only [Bool.and_eq_true,decide_eq_true_eq] at h
 obtain ⟨⟨h1,⟨h2,h3⟩,h4⟩,h5⟩:=h
 refine ⟨h1,h2,h3,h4,fun e => ?_,fun e => ?_⟩
 . rw [if_pos e] at h5
   rwa [Bool.and_eq_true] at h5
 . rw [if_neg (by rw [e]; decide)] at h5
   simp only [Bool.and_eq_true,beq_iff_eq,zEf,decide_eq_true_eq] at h5
   exact ⟨h5.1.1.1.1,h5.1.1.1.2,h5.1.1.2,h5.1.2,h5.2⟩
theorem varT_pw {K : Nat} {v : D} (h : VarF v) (hd : Dp K (v.f 3)) (hw : wideD v) : Pw (varT K v) (varK v):=by
 have hr:=refB_pw h.rname ((v.f 1).f 1).l
 unfold varT varK
 have p1:=(Ps.sign (c:=36) rfl).appw (Pw.nm h.name)
 have p2:=p1.app ((Ps.sign (c:=58) rfl).app (Ps.sep (c:=32) rfl)) ⟨by simp,zAX (by decide)⟩
 split
 . have p3:=hr.app ((Ps.sep (c:=32) rfl).app ((Ps.sign (c:=61) rfl).app (Ps.sep (c:=32) rfl))) ⟨by simp,zAX (by decide)⟩
   have p4:=p2.appw (p3.appw (litT_pw hd (hw.f 3) (h.has ‹_›).1))
   simpa [List.append_assoc] using p4
 . rw [List.append_nil,List.append_nil]
   have p4:=p2.appw hr
   simpa [List.append_assoc] using p4
def varsK (l : List D) : KS:=if l.length = 0 then [] else (1,[40]) :: (rgK varK l ++ [(1,[41])])
def opK (f : Nat) (o : D) : KS:=
 if (o.f 0).n = 1 /\ tx (o.f 1).s = [] /\ (o.f 2).l.length = 0 then blkK (selsK f (o.f 3).l)
 else (2,zBn (o.f 0).n) :: ((if tx (o.f 1).s = [] then [] else [(2,tx (o.f 1).s)]) ++ (varsK (o.f 2).l ++ blkK (selsK f (o.f 3).l)))
def frgK (f : Nat) (o : D) : KS:=(2,zHS) :: (2,tx (o.f 0).s) :: (2,onT) :: (2,tx (o.f 1).s) :: blkK (selsK f (o.f 2).l)
structure OpF (o : D) : Prop where
 kind : 1 <= (o.f 0).n /\ (o.f 0).n <= 3
 name : tx (o.f 1).s = [] \/ nameB (o.f 1).s = true
 vlen : (o.f 2).l.length <= 16
 vars : ∀ i,i < (o.f 2).l.length -> VarF (gD (o.f 2).l i)
 sels : SetF (fun d => selR (bulkL (o.f 3).l) 1 d = true) 1 (o.f 3).l 1
structure FragF (o : D) : Prop where
 name : nameB (o.f 0).s = true
 notOn : tx (o.f 0).s ≠ [111,110]
 on : nameB (o.f 1).s = true
 sels : SetF (fun d => selR (bulkL (o.f 2).l) 1 d = true) 1 (o.f 2).l 1
theorem xop {o : D} (h : opR o = true) : OpF o:=by
 unfold opR setR at h
 simp only [Bool.and_eq_true,Bool.or_eq_true,decide_eq_true_eq,Bool.not_eq_true',zEf] at h
 obtain ⟨⟨⟨⟨h1,h2⟩,h3⟩,h4⟩,h5⟩:=h
 exact ⟨h1,h2,h3,fun i hi => xvar (zD3 h4 i hi),xset h5⟩
theorem xfrag {o : D} (h : fragR o = true) : FragF o:=by
 unfold fragR setR at h
 simp only [Bool.and_eq_true] at h
 have ht:=zI3 h.1.1
 exact ⟨ht.1,ht.2,h.1.2,xset h.2⟩
structure QueF (q : D) : Prop where
 len : 1 <= (q.f 0).l.length + (q.f 1).l.length /\ (q.f 0).l.length + (q.f 1).l.length <= 64
 ops : ∀ i,i < (q.f 0).l.length -> OpF (gD (q.f 0).l i)
 frags : ∀ i,i < (q.f 1).l.length -> FragF (gD (q.f 1).l i)
theorem xque {q : D} (h : queR q = true) : QueF q:=by
 unfold queR at h
 simp only [Bool.and_eq_true,decide_eq_true_eq,Bool.not_eq_true'] at h
 refine ⟨h.1.1,fun i hi => xop ?_,fun i hi => xfrag (zD3 h.2 i hi)⟩
 exact List.all_eq_true.1 h.1.2 _ (gD_mem hi)
theorem word_name (k : Int) : nameU (zBn k) = true:=by
 unfold zBn
 split
 . rfl
 . split <;> rfl
theorem varsT_ps {K : Nat} {l : List D} (h : ∀ i,i < l.length -> VarF (gD l i)) (hv : VarsOk K l) : Ps (if l.length = 0 then [] else [40] ++ zH1 K l ++ [41]) (varsK l):=by
 unfold varsK
 split
 . exact .nil
 . exact Ps.wrap rfl rfl (by unfold zH1; exact Pw.joinL .comma l fun i hi => varT_pw (h i hi) (hv.dp i hi) (hv.wide i))
theorem opT_pw {K : Nat} {o : D} (h : OpF o) (hv : VarsOk K (o.f 2).l) (hn : ¬ ((o.f 0).n = 1 /\ tx (o.f 1).s = [] /\ (o.f 2).l.length = 0)) :
 ∃ t,opT K o = t ++ [32,123] /\ Pw t ((2,zBn (o.f 0).n) :: ((if tx (o.f 1).s = [] then [] else [(2,tx (o.f 1).s)]) ++ varsK (o.f 2).l)):=by
 unfold opT
 rw [if_neg hn]
 refine ⟨_,rfl,?_⟩
 have p1:=Pw.name (word_name (o.f 0).n)
 have p2 : Pw (zBn (o.f 0).n ++ (if tx (o.f 1).s = [] then [] else [32] ++ tx (o.f 1).s)) ((2,zBn (o.f 0).n) :: (if tx (o.f 1).s = [] then [] else [(2,tx (o.f 1).s)])):=by
  by_cases e : tx (o.f 1).s = []
  . rw [if_pos e,if_pos e,List.append_nil]; exact p1
  . rw [if_neg e,if_neg e]
    have hn : nameB (o.f 1).s = true:=by rcases h.name with h' | h'; exact absurd h' e; exact h'
    have:=p1.gap .space (Pw.nm hn)
    simpa [List.append_assoc] using this
 have hb : bnd (if (o.f 2).l.length = 0 then [] else [40] ++ zH1 K (o.f 2).l ++ [41]):=by
  split
  . exact zIn
  . exact zAX (by decide)
 exact p2.appw (varsT_ps h.vars hv).w hb
theorem zHn {K f : Nat} {t first : List UInt8} {k : KS} {l : List D} (e : first = t ++ [32,123]) (h : Pw t k) (hs : Ps (selsT K f 1 l) (selsK f l)) : Ps (zDb K f first l) (k ++ blkK (selsK f l)):=by
 unfold zDb
 rw [e]
 exact zGV h hs
theorem opB_ps {K f : Nat} {o : D} (h : OpF o) (hv : VarsOk K (o.f 2).l) (hs : SelsOk K f (o.f 3).l) : Ps (opB K f o) (opK f o):=by
 have hp:=zIF f (bulkL (o.f 3).l) 1 1 (o.f 3).l hs h.sels.2.2.2
 unfold opB opK
 by_cases hn : (o.f 0).n = 1 /\ tx (o.f 1).s = [] /\ (o.f 2).l.length = 0
 . rw [if_pos hn]
   unfold zDb opT
   rw [if_pos hn]
   have h1:=zDo (n:=0) (Ps.sign (c:=123) rfl).w
   have h2:=zDo (n:=0) (Ps.sign (c:=125) rfl).w
   exact (h1.app hp).app h2
 . rw [if_neg hn]
   obtain ⟨t,e,ht⟩:=opT_pw h hv hn
   have:=zHn e ht hp
   simpa [List.append_assoc] using this
theorem frgB_ps {K f : Nat} {o : D} (h : FragF o) (hs : SelsOk K f (o.f 2).l) : Ps (zCT K f o) (frgK f o):=by
 have hp:=zIF f (bulkL (o.f 2).l) 1 1 (o.f 2).l hs h.sels.2.2.2
 unfold zCT
 have p1 : Pw ([102,114,97,103,109,101,110,116] ++ [32] ++ tx (o.f 0).s) ([(2,zHS)] ++ [(2,tx (o.f 0).s)]):=(Pw.name (l:=zHS) rfl).gap .space (Pw.nm h.name)
 have p2:=p1.gap .space (Pw.name (l:=[111,110]) rfl)
 have p3:=p2.gap .space (Pw.nm h.on)
 have:=zHn (first:=zEp o) (by simp [zEp,List.append_assoc]) p3 hp
 simpa [List.append_assoc,frgK,onT] using this
def docK (f : Nat) (q : D) : KS:=rgK (opK f) (q.f 0).l ++ rgK (frgK f) (q.f 1).l
theorem join_ps {sep : List UInt8} (hs : Ps sep []) : ∀ (ts : List (List UInt8)) (ks : List KS),ts.length = ks.length -> (∀ i,i < ts.length -> Ps (ts.getD i []) (ks.getD i [])) -> Ps (Lib.join ts sep) ks.flatten
 | [],[],_,_ => .nil
 | [],_ :: _,h,_ => by cases h
 | _ :: _,[],h,_ => by cases h
 | t :: ts,k :: ks,hl,h => by
   have h0 : Ps t k:=h 0 (by simp)
   have ht : ∀ (ts : List (List UInt8)) (ks : List KS),ts.length = ks.length -> (∀ i,i < ts.length -> Ps (ts.getD i []) (ks.getD i [])) -> Ps (Lib.joinTail sep ts) ks.flatten:=fun ts => by
    induction ts with
    | nil => intro ks e _; cases ks with
      | nil => exact .nil
      | cons _ _ => cases e
    | cons t ts ih =>
      intro ks e h
      cases ks with
      | nil => cases e
      | cons k ks =>
        have h1 : Ps t k:=h 0 (by simp)
        have h2:=ih ks (by simpa using e) fun i hi => by
         have:=h (i + 1) (by simpa using hi)
         simpa using this
        have h3:=(hs.app h1).app h2
        simpa [Lib.joinTail] using h3
   rw [Lib.join_cons,List.flatten_cons]
   exact h0.app (ht ts ks (by simpa using hl) fun i hi => by
    have:=h (i + 1) (by simpa using hi)
    simpa using this)
theorem zJG (g : D -> KS) (l : List D) : rgK g l = (l.map g).flatten:=by
 unfold rgK gK
 rw [<- List.range_eq_range',List.flatMap_def]
 congr 1
 apply List.ext_getElem (by simp)
 intro i h1 h2
 simp [zAx (l:=l) (i:=i) (by simpa using h2)]
theorem docT_ps {K f : Nat} {q : D} (h : QueF q) (hv : ∀ i,i < (q.f 0).l.length -> VarsOk K ((gD (q.f 0).l i).f 2).l)
 (ho : ∀ i,i < (q.f 0).l.length -> SelsOk K f ((gD (q.f 0).l i).f 3).l) (hf : ∀ i,i < (q.f 1).l.length -> SelsOk K f ((gD (q.f 1).l i).f 2).l) : Ps (docT K f q) (docK f q):=by
 unfold docT docK
 rw [zJG,zJG,<- List.flatten_append]
 refine join_ps (.sep rfl) _ _ (by simp) fun i hi => ?_
 by_cases hl : i < (q.f 0).l.length
 . have:=opB_ps (h.ops i hl) (hv i hl) (ho i hl)
   rw [List.getD_eq_getElem?_getD,List.getD_eq_getElem?_getD,List.getElem?_append_left (by simpa using hl),List.getElem?_append_left (by simpa using hl),List.getElem?_map,List.getElem?_map,List.getElem?_eq_getElem hl]
   rw [zAx hl] at this
   exact this
 . have hl2 : i - (q.f 0).l.length < (q.f 1).l.length:=by simp at hi; omega
   have:=frgB_ps (h.frags _ hl2) (hf _ hl2)
   rw [List.getD_eq_getElem?_getD,List.getD_eq_getElem?_getD,List.getElem?_append_right (by simp; omega),List.getElem?_append_right (by simp; omega),List.length_map,List.length_map,List.getElem?_map,List.getElem?_map,List.getElem?_eq_getElem hl2]
   rw [zAx hl2] at this
   exact this
theorem good_of : ∀ (K m : Nat) (d : D),everyL m d = true -> goodV K d
 | 0,_,_,_ => trivial
 | K + 1,0,_,h => by cases h
 | K + 1,m + 1,d,h => by
   obtain ⟨hn,hi⟩:=zDs h
   exact ⟨hn.bool,fun i hl => good_of K m _ (hi i hl)⟩
theorem zJV {K : Nat} {d : D} (h : litR d = true) : goodV K d:=by
 unfold litR at h
 rw [Bool.and_eq_true] at h
 exact good_of K _ d h.2
theorem zBu {l : List D} {i : Nat} (h : i < l.length) (j : Nat) : bulkD ((gD l i).f j) <= bulkL l /\ bulkL ((gD l i).f j).l <= bulkL l:=by
 have h1:=zk h
 have h2:=wD_f (gD l i) j
 have h3:=zZ (gD l i)
 have h4:=zZ ((gD l i).f j)
 have h5:=zi ((gD l i).f j)
 omega
section
variable {K : Nat} (hK : 1048576 <= K)
include hK
theorem zHs {l : List D} (h : argsR l = true) (hw : ∀ i,wideD (gD l i)) (hb : bulkL l <= 1048576) : ArgsOk K l:=
 ⟨hw,hb,fun i hi => zBh K _ (by have:=(zBu hi 1).1; omega),fun i hi => zJV ((zDe h).2 i hi).2⟩
theorem dirsOk_of {l : List D} (h : dirsR l = true) (hw : ∀ i,wideD (gD l i)) (hb : bulkL l <= 1048576) : DirsOk K l:=
 ⟨hw,hb,fun i hi => zHs hK ((zEx h).2 i hi).2 (fun q => ((hw i).f 1).l q) (by have:=(zBu hi 1).2; omega)⟩
theorem zEV : ∀ (f k lv : Nat) (l : List D),(∀ i,i < l.length -> selR k lv (gD l i) = true) -> (l.length = 0 \/ lv <= 24) -> 25 <= f + lv -> (∀ i,wideD (gD l i)) -> bulkL l <= 1048576 -> SelsOk K f l
 | 0,_,lv,l,_,h1,h2,_,_ => by
   show l = []
   rcases h1 with h1 | h1
   . exact List.length_eq_zero_iff.1 h1
   . omega
 | f + 1,k,lv,l,h,h1,h2,hw,hb => fun i hi => by
   have h3:=h i hi
   cases k with
   | zero => cases h3
   | succ k =>
     have hs:=xsel h3
     refine ⟨zHs hK hs.args (fun q => ((hw i).f 4).l q) (by have:=(zBu hi 4).2; omega),dirsOk_of hK hs.dirs (fun q => ((hw i).f 5).l q) (by have:=(zBu hi 5).2; omega),?_,?_⟩
     . rcases hs.kind with e | e | e
       . exact .inl e
       . exact .inr (.inl ⟨e,List.length_eq_zero_iff.1 (hs.spread e).2.2.2.1⟩)
       . refine .inr (.inr ⟨e,fun q => ?_⟩)
         have:=(hs.inline e).2.2.2.2.1
         rw [q] at this
         simp at this
     . have hsub : (∀ j,j < ((gD l i).f 6).l.length -> selR k (lv + 1) (gD ((gD l i).f 6).l j) = true) /\ (((gD l i).f 6).l.length = 0 \/ lv + 1 <= 24):=by
        rcases hs.kind with e | e | e
        . have:=(hs.field e).2.2.2
          exact ⟨this.2.2.2,this.2.2.1⟩
        . have:=(hs.spread e).2.2.2.1
          exact ⟨fun j hj => by omega,.inl this⟩
        . have:=(hs.inline e).2.2.2.2
          exact ⟨this.2.2.2,this.2.2.1⟩
       exact zEV f k (lv + 1) _ hsub.1 hsub.2 (by omega) (fun q => ((hw i).f 6).l q) (by have:=(zBu hi 6).2; omega)
theorem varsOk_of {l : List D} (h : ∀ i,i < l.length -> VarF (gD l i)) (hw : ∀ i,wideD (gD l i)) (hb : bulkL l <= 1048576) : VarsOk K l:=
 ⟨hw,hb,fun i hi => zBh K _ (by have:=(zBu hi 3).1; omega),fun i hi => by
   cases e : ((gD l i).f 2).b with
   | true => exact zJV ((h i hi).has e).1
   | false =>
     obtain ⟨h1,-,-,h4,-⟩:=(h i hi).hasnt e
     cases K with
     | zero => trivial
     | succ K => exact ⟨fun q => by omega,fun j hj => by omega⟩⟩
end
theorem zGO {q : D} (h : queR q = true) (hw : wideD q) (hb : bulkD q <= 1048576) : DocOk 1048576 24 q:=by
 have hq:=xque h
 have h0:=wD_f q 0
 have h1:=wD_f q 1
 have h2:=zi (q.f 0)
 have h3:=zi (q.f 1)
 have h4:=zZ q
 refine ⟨hw,hb,by omega,fun i hi => ?_,fun i hi => ?_,fun i hi => ?_⟩
 . exact varsOk_of (Nat.le_refl _) (hq.ops i hi).vars (fun z => (((hw.f 0).l i).f 2).l z) (by have:=(zBu hi 2).2; omega)
 . exact zEV (Nat.le_refl _) 25 _ 1 _ (hq.ops i hi).sels.2.2.2 (.inr (by omega)) (by omega) (fun z => (((hw.f 0).l i).f 3).l z) (by have:=(zBu hi 3).2; omega)
 . exact zEV (Nat.le_refl _) 25 _ 1 _ (hq.frags i hi).sels.2.2.2 (.inr (by omega)) (by omega) (fun z => (((hw.f 1).l i).f 2).l z) (by have:=(zBu hi 2).2; omega)
end Go.Proofs.YthjiclhfhjdjpaaGreatDoor
namespace Go.Proofs.YthjiclhfhjdjpaaGreatDoor
open Go.RowKit
set_option linter.unusedSectionVars false
attribute [local irreducible] wpList Calls Code.wp AW AWo OpOk seqK zx zAI loopK endK AC zm Yld Sub
attribute [local irreducible] ACB ACX ACE absLexG YldG absLexH
theorem q5_ok : DocOk 1048576 24 (.obj [.list [op5],.list []]):=zGO (by kernel_rfl) (by simp [wideD,wideL,op5,opD,se5,selD,ag5,argD,av5,valD,strD,i64D,nmT]) (by decide +kernel)
theorem q0_ok : DocOk 1048576 24 (.obj [.list [op0],.list []]):=zGO (by kernel_rfl) (by simp [wideD,wideL,op0,opD,se0,selD,ag0,argD,av0,valD,strD,i64D,nmT]) (by decide +kernel)
theorem t5_eq : docT 1048576 25 (.obj [.list [op5],.list []]) = [115,117,98,115,99,114,105,112,116,105,111,110,32,123,10,32,32,97,58,32,110,97,109,101,40,110,58,32,53,41,10,125,10]:=by kernel_rfl
theorem t0_eq : docT 1048576 25 (.obj [.list [op0],.list []]) = [115,117,98,115,99,114,105,112,116,105,111,110,32,123,10,32,32,110,97,109,101,40,110,58,32,48,41,10,125,10]:=by kernel_rfl
theorem s5_eq : selsT 1048576 25 1 [se5] = [32,32,97,58,32,110,97,109,101,40,110,58,32,53,41,10]:=by kernel_rfl
theorem qe_same : queEq 100 [op5] [] [op5] [] = true:=by kernel_rfl
theorem qe_diff : queEq 100 [op5] [] [op0] [] = false:=by kernel_rfl
theorem nself (b : ByteArray) : (!(b.toList == b.toList)) = false:=by simp
theorem self9 (b : ByteArray) : (b.toList == b.toList) = true:=by simp
theorem gff {b : Bool} (h : b = false) : (b == false) = true:=by rw [h]; rfl
theorem gtt {b : Bool} (h : b = true) : (b == true) = true:=by rw [h]; rfl
theorem example9_ac : AC EN Tryz.prog 25 [] (.c (.bool true)):=by
 have h1:=sign_ac
 have h2 : AC EN Tryz.prog 28 [.agg [.sl 57 [op5],.sl 116 []]] (.c (.string (⟨#[115,117,98,115,99,114,105,112,116,105,111,110,32,123,10,32,32,97,58,32,110,97,109,101,40,110,58,32,53,41,10,125,10]⟩ : ByteArray))):=by
  have:=zEe _ _ _ _ q5_ok
  rw [t5_eq] at this
  exact this
 have h3 : AC EN Tryz.prog 28 [.agg [.sl 57 [op0],.sl 116 []]] (.c (.string (⟨#[115,117,98,115,99,114,105,112,116,105,111,110,32,123,10,32,32,110,97,109,101,40,110,58,32,48,41,10,125,10]⟩ : ByteArray))):=by
  have:=zEe _ _ _ _ q0_ok
  rw [t0_eq] at this
  exact this
 have h4 : AC EN Tryz.prog 26 [.sl 76 [se5]] (.c (.string (⟨#[32,32,97,58,32,110,97,109,101,40,110,58,32,53,41,10]⟩ : ByteArray))):=by
  have:=selsP_ac 1048576 24 [se5] (q5_ok.sels 0 (by decide)) (fun i => ((q5_ok.wide.f 0).l 0 |>.f 3).l i) (by decide +kernel) (by decide)
  rw [s5_eq] at this
  exact this
 have h5:=zJE 100 [op5] [] [op5] [] (by decide +kernel) (by decide) (by decide +kernel) (by decide) (by decide +kernel) (by decide)
 have h6:=zJE 100 [op5] [] [op0] [] (by decide +kernel) (by decide) (by decide +kernel) (by decide) (by decide +kernel) (by decide)
 rw [qe_same] at h5
 rw [qe_diff] at h6
 have f1:=nself (⟨#[115,117,98,115,99,114,105,112,116,105,111,110,32,123,10,32,32,97,58,32,110,97,109,101,40,110,58,32,53,41,10,125,10]⟩ : ByteArray)
 have g1:=gff f1
 have f2:=nself (⟨#[32,32,97,58,32,110,97,109,101,40,110,58,32,53,41,10]⟩ : ByteArray)
 have g2:=gff f2
 have f3:=self9 (⟨#[115,117,98,115,99,114,105,112,116,105,111,110,32,123,10,32,32,110,97,109,101,40,110,58,32,48,41,10,125,10]⟩ : ByteArray)
 have g3:=gtt f3
 refine zG 52 Tryz.func25 rfl rfl rfl rfl ?_
 intro s w he
 repeat' (first
|apply zAW (WV av5) rfl rfl
 . conv => lhs; whnf; arg 2; whnf
 . repeat' (first | exact VLe.refl _ | exact VLe.nil _ | exact VLe.lit _ _ | exact VLe.own _ _ _ | apply VLe.agg | apply VLeL.cons | exact VLeL.nil)
|apply zAW (WA ag5) rfl rfl
 . conv => lhs; whnf; arg 2; whnf
 . repeat' (first | exact VLe.refl _ | exact VLe.nil _ | exact VLe.lit _ _ | exact VLe.own _ _ _ | apply VLe.agg | apply VLeL.cons | exact VLeL.nil)
|apply zAW (WS se5) rfl rfl
 . conv => lhs; whnf; arg 2; whnf
 . repeat' (first | exact VLe.refl _ | exact VLe.nil _ | exact VLe.lit _ _ | exact VLe.own _ _ _ | apply VLe.agg | apply VLeL.cons | exact VLeL.nil)
|apply zAW (WO op5) rfl rfl
 . conv => lhs; whnf; arg 2; whnf
 . repeat' (first | exact VLe.refl _ | exact VLe.nil _ | exact VLe.lit _ _ | exact VLe.own _ _ _ | apply VLe.agg | apply VLeL.cons | exact VLeL.nil)
|apply zAW (WQ [op5]) rfl rfl
 . conv => lhs; whnf; arg 2; whnf
 . repeat' (first | exact VLe.refl _ | exact VLe.nil _ | exact VLe.lit _ _ | exact VLe.own _ _ _ | apply VLe.agg | apply VLeL.cons | exact VLeL.nil)
|apply zD7 [ag5] rfl rfl
 . conv => lhs; whnf
 . first | exact zHb | exact zHZ | exact zJm | (conv => lhs; whnf; arg 1; whnf)
 . rfl
 . rfl
 . repeat' (first | exact trivial | apply And.intro | rfl)
|apply zD7 [se5] rfl rfl
 . conv => lhs; whnf
 . first | exact zHb | exact zHZ | exact zJm | (conv => lhs; whnf; arg 1; whnf)
 . rfl
 . rfl
 . repeat' (first | exact trivial | apply And.intro | rfl)
|apply zD7 [op5] rfl rfl
 . conv => lhs; whnf
 . first | exact zHb | exact zHZ | exact zJm | (conv => lhs; whnf; arg 1; whnf)
 . rfl
 . rfl
 . repeat' (first | exact trivial | apply And.intro | rfl)
|refine zA ?_
|refine zB ?_
|refine zK ?_
|apply aw_1
 conv => whnf
 refine ⟨?_,trivial⟩
|apply zX rfl rfl
 . conv => lhs; whnf
 . conv => lhs; whnf
 . first | exact bT1 ‹_› | exact bT2 ‹_›
|apply zR rfl rfl
 . conv => lhs; whnf
 . conv => lhs; whnf
 . first | exact bF1 ‹_› | exact bF2 ‹_›
|apply s_1
 conv => whnf; arg 1; arg 4; arg 3; whnf
 refine ⟨?_,?_⟩
|apply zd rfl
 . conv => lhs; whnf
 . conv => lhs; whnf
 . first | exact h1 | exact h2 | exact h3 | exact h4 | exact h5 | exact h6
|apply zY rfl rfl rfl
 . conv => lhs; whnf
 . conv => lhs; whnf; arg 1; whnf
 . conv => lhs; whnf; arg 1; whnf
 . exact ⟨by kernel_rfl,by kernel_rfl⟩
 . rfl
|apply zD rfl
 . conv => lhs; whnf
 . conv => lhs; whnf
 . first | rfl | assumption
 . conv => lhs; whnf; arg 2; whnf
|apply za rfl
 . conv => lhs; whnf
 . conv => lhs; whnf
 . first | rfl | assumption
 . conv => lhs; whnf
 . first | exact h1 | exact h2 | exact h3 | exact h4 | exact h5 | exact h6
|refine zC ?_
|refine ⟨_,by conv => lhs; whnf; arg 2; whnf,?_⟩; conv => rhs; whnf
|exact trivial)
 all_goals first
  | rfl
  | decide
end Go.Proofs.YthjiclhfhjdjpaaGreatDoor
namespace Go.Proofs.YthjiclhfhjdjpaaGreatDoor
def mkT (p : Int × List UInt8) : Tok:=⟨p.1,p.2,0⟩
def pst (l : KS) (v : Bool) (n : Nat) : PS:=⟨l.map mkT,v,n⟩
theorem zCu (k : Int) (s : List UInt8) (r : KS) (v : Bool) (n : Nat) : hdT (pst ((k,s) :: r) v n) = ⟨k,s,0⟩:=rfl
theorem zAR {k : Int} {s : List UInt8} {r : KS} {v : Bool} {n : Nat} (h : k ≠ 5) : nxT (pst ((k,s) :: r) v n) = pst r v n:=by
 unfold nxT
 rw [zCu,if_neg h]
 rfl
theorem zB3 (k : Int) (s : List UInt8) (r : KS) (v : Bool) (n : Nat) (t : List UInt8) : isS (pst ((k,s) :: r) v n) t = (k == 1 && s == t):=rfl
theorem zAS (s : List UInt8) (r : KS) (v : Bool) (n : Nat) : isS (pst ((1,s) :: r) v n) s = true:=by
 rw [zB3]; simp
theorem zA7 (s : List UInt8) (r : KS) (v : Bool) (n : Nat) : takeQ s (pst ((1,s) :: r) v n) = .ok ((),pst r v n):=by
 unfold takeQ
 rw [if_pos (zAS s r v n),zAR (by decide)]
theorem zAd (s : List UInt8) (r : KS) (v : Bool) (n : Nat) : nameQ (pst ((2,s) :: r) v n) = .ok (s,pst r v n):=by
 unfold nameQ
 rw [zCu,if_pos rfl,zAR (by decide)]
theorem then_ok_eq {α β : Type} {a : α} {x : PS} {f : α -> PS -> PR β} : thenQ (.ok (a,x)) f = f a x:=rfl
def nS (r : KS) (s : List UInt8) : Prop:=∀ v n,isS (pst r v n) s = false
theorem zAh {k : Int} {s t : List UInt8} {r : KS} (h : (k == 1 && s == t) = false) : nS ((k,s) :: r) t:=fun _ _ => h
theorem zIR {g : Nat -> KS} {j m : Nat} {r : KS} {s : List UInt8} (hg : ∀ i r,nS (g i ++ r) s) (hr : nS r s) : nS (gK g j m ++ r) s:=by
 cases m with
 | zero => exact hr
 | succ m => rw [zBQ,List.append_assoc]; exact hg _ _
def cnt : List Int -> Nat
 | [] => 0
 | d :: l => if d = 1 then cnt l else cnt l + 1
theorem zDX (d : Int) (l : List Int) : cnt (d :: l) = if d = 1 then cnt l else cnt l + 1:=rfl
theorem cnt_app (a b : List Int) : cnt (a ++ b) = cnt a + cnt b:=by
 induction a with
 | nil => simp [cnt]
 | cons d l ih =>
   rw [List.cons_append,zDX,zDX]
   split <;> omega
def clsK (es : List Int) : KS:=es.map fun d => (1,[if d = 1 then 33 else 93])
theorem refK_eq (n : List UInt8) : ∀ ds : List D,refK n ds = List.replicate (cnt (ds.map D.n)) (1,[91]) ++ (2,n) :: clsK (ds.map D.n).reverse
 | [] => rfl
 | d :: ds => by
   have ih:=refK_eq n ds
   unfold refK
   rw [ih,List.map_cons,List.reverse_cons,zDX]
   by_cases h : d.n = 1
   . rw [if_pos (by rw [h]; rfl),if_pos h]
     simp [clsK,h]
   . rw [if_neg (by simpa using h),if_neg h,List.replicate_succ]
     simp [clsK,h]
theorem cnt_rev (l : List Int) : cnt l.reverse = cnt l:=by
 induction l with
 | nil => rfl
 | cons d l ih =>
   rw [List.reverse_cons,cnt_app,ih,zDX,zDX]
   split <;> simp [cnt]
theorem zJN {r : KS} {v : Bool} {n : Nat} (hr : nS r [91]) : ∀ (m f : Nat),m <= f -> openQ f (pst (List.replicate m (1,[91]) ++ r) v n) = (m,pst r v n)
 | 0,0,_ => rfl
 | 0,f + 1,_ => by
   unfold openQ
   rw [if_neg (by rw [List.replicate_zero,List.nil_append,hr]; decide)]
   rfl
 | m + 1,0,h => by omega
 | m + 1,f + 1,h => by
   unfold openQ
   rw [List.replicate_succ,List.cons_append,if_pos (zAS _ _ _ _),zAR (by decide),zJN hr m f (by omega)]
theorem zIs : ∀ {l : List Int},zCp l = true -> (∀ x ∈ l,x = 1 \/ x = 2) /\ ∀ p a b q,l = p ++ a :: b :: q -> ¬ (a = 1 /\ b = 1)
 | [],_ => ⟨fun _ h => absurd h (by simp),fun p a b q e => by have:=congrArg List.length e; simp at this⟩
 | [w],h => by
   unfold zCp at h
   simp only [Bool.or_eq_true,beq_iff_eq] at h
   refine ⟨fun x hx => ?_,fun p a b q e => ?_⟩
   . rw [List.mem_singleton] at hx; rw [hx]; exact h
   . have:=congrArg List.length e; simp at this; omega
 | w :: u :: r,h => by
   unfold zCp at h
   simp only [Bool.and_eq_true,Bool.or_eq_true,beq_iff_eq,Bool.not_eq_true',Bool.and_eq_false_iff,beq_eq_false_iff_ne] at h
   obtain ⟨⟨h1,h2⟩,h3⟩:=h
   obtain ⟨i1,i2⟩:=zIs h3
   refine ⟨fun x hx => ?_,fun p a b q e => ?_⟩
   . rcases List.mem_cons.1 hx with rfl | hx
     . exact h1
     . exact i1 x hx
   . cases p with
     | nil =>
       rw [List.nil_append] at e
       injection e with e1 e2
       injection e2 with e2 e3
       subst e1 e2
       rintro ⟨a1,a2⟩
       rcases h2 with h2 | h2
       . exact h2 a1
       . exact h2 a2
     | cons y p =>
       rw [List.cons_append] at e
       injection e with e1 e2
       exact i2 p a b q e2
theorem zE0 {r : KS} {v : Bool} {n : Nat} (hr : nS r [33]) : ∀ (es w : List Int),(∀ x ∈ es,x = 1 \/ x = 2) -> (∀ p a b q,es = p ++ a :: b :: q -> ¬ (a = 1 /\ b = 1)) ->
 closeQ (cnt es) w (pst (clsK es ++ r) v n) = .ok (es.reverse ++ w,pst r v n)
 | [],w,_,_ => by
   show closeQ 0 w (pst r v n) = _
   unfold closeQ
   rw [if_neg (by rw [hr]; decide)]
   rfl
 | [d],w,h,_ => by
   rcases h d (by simp) with rfl | rfl
   . show closeQ 0 w (pst ((1,[33]) :: r) v n) = _
     unfold closeQ
     rw [if_pos (zAS _ _ _ _),zAR (by decide)]
     rfl
   . show closeQ 1 w (pst ((1,[93]) :: r) v n) = _
     unfold closeQ
     rw [if_neg (by rw [zB3]; decide),if_neg (by rw [zB3]; decide),zA7,then_ok_eq]
     unfold closeQ
     rw [if_neg (by rw [hr]; decide)]
     rfl
 | d :: e :: es,w,h,ha => by
   rcases h d (by simp) with rfl | rfl
   . have he : e = 2:=by
      rcases h e (by simp) with h' | h'
      . exact absurd ⟨rfl,h'⟩ (ha [] 1 e es rfl)
      . exact h'
     subst he
     have ih:=zE0 (v:=v) (n:=n) hr es (2 :: 1 :: w) (fun x hx => h x (by simp [hx])) (fun p a b q e' => ha (1 :: 2 :: p) a b q (by rw [e']; rfl))
     show closeQ (cnt es + 1) w (pst ((1,[33]) :: (1,[93]) :: (clsK es ++ r)) v n) = _
     unfold closeQ
     rw [if_pos (zAS _ _ _ _),if_pos (zAS _ _ _ _),zAR (by decide),zA7,then_ok_eq,ih]
     simp
   . have ih:=zE0 (v:=v) (n:=n) hr (e :: es) (2 :: w) (fun x hx => h x (by simp at hx |-; exact .inr hx)) (fun p a b q e' => ha (2 :: p) a b q (by rw [e']; rfl))
     show closeQ (cnt (e :: es) + 1) w (pst ((1,[93]) :: (clsK (e :: es) ++ r)) v n) = _
     unfold closeQ
     rw [if_neg (by rw [zB3]; decide),if_neg (by rw [zB3]; decide),zA7,then_ok_eq,ih]
     simp
theorem typ_pst {nm : List UInt8} {ds : List D} {r : KS} {v : Bool} {n : Nat} (hw : zCp (ds.map D.n) = true) (hl : ds.length <= 24) (hr : nS r [33]) : typQ (pst (refK nm ds ++ r) v n) = .ok (refD nm (ds.map D.n),pst r v n):=by
 obtain ⟨h1,h2⟩:=zIs hw
 have e : refK nm ds ++ r = List.replicate (cnt (ds.map D.n)) (1,[91]) ++ (2,nm) :: (clsK (ds.map D.n).reverse ++ r):=by rw [refK_eq]; simp
 have ho:=zJN (r:=(2,nm) :: (clsK (ds.map D.n).reverse ++ r)) (v:=v) (n:=n) (zAh rfl) (cnt (ds.map D.n)) (pst (refK nm ds ++ r) v n).ts.length (by rw [e]; simp [pst])
 have hc:=zE0 (v:=v) (n:=n) hr (ds.map D.n).reverse [] (fun x hx => h1 x (by simpa using hx)) (fun p a b q e' => fun hab => by
  have e2 : ds.map D.n = q.reverse ++ b :: a :: p.reverse:=by have:=congrArg List.reverse e'; simpa using this
  exact h2 _ _ _ _ e2 ⟨hab.2,hab.1⟩)
 rw [cnt_rev] at hc
 unfold typQ innerQ
 rw [e] at ho |-
 rw [ho]
 dsimp only
 rw [zAd,then_ok_eq,hc,then_ok_eq,then_ok_eq]
 dsimp only
 rw [if_neg (by simp; omega)]
 simp
def cnV : Nat -> D -> D
 | 0,d => d
 | k + 1,d => valD (d.f 0).n (d.f 1).n (tx (d.f 2).s) ((List.range (d.f 3).l.length).map fun i => cnV k (gD (d.f 3).l i)) (strsR d)
theorem zJx (k : Nat) (d : D) : cnV (k + 1) d = valD (d.f 0).n (d.f 1).n (tx (d.f 2).s) ((List.range (d.f 3).l.length).map fun i => cnV k (gD (d.f 3).l i)) (strsR d):=rfl
def cL (d : D) : D:=cnV (bulkD d) d
theorem zBW {f lv : Nat} {kk : Int} {s : List UInt8} {r : KS} {v : Bool} {n : Nat} (h0 : zB8 (pst ((kk,s) :: r) v n) = false) (hk : kk ≠ 5) (hlv : lv <= 24) (hn : n < 4096) :
 valueQ (f + 1) lv (pst ((kk,s) :: r) v n) = (if kk = 3 then .ok (valD 2 (numQ s) [] [] [],pst r v (n + 1)) else if kk = 4 then .ok (valD 3 0 s [] [],pst r v (n + 1)) else if kk = 2 then .ok (zDg s,pst r v (n + 1))
  else if s = [36] then thenQ (nameQ (pst r v (n + 1))) (fun n z => .ok (valD 7 0 n [] [],z))
  else if s = [91] then thenQ (itemsQ (valueQ f (lv + 1)) (r.length + 1) [] (pst r v (n + 1))) (fun l z => .ok (valD 5 0 [] l [],z))
  else thenQ (zu (valueQ f (lv + 1)) (r.length + 1) [] [] (pst r v (n + 1))) (fun l z => .ok (valD 6 0 [] l.2 l.1,z))):=by
 have hy : ({ nxT (pst ((kk,s) :: r) v n) with nd:=n + 1 } : PS) = pst r v (n + 1):=by rw [zAR hk]; rfl
 have hlen : (pst r v (n + 1)).ts.length = r.length:=by simp [pst]
 unfold valueQ
 rw [show (pst ((kk,s) :: r) v n).nd = n from rfl,if_neg (by rw [h0]; decide),if_neg (by omega),if_neg (show ¬ 4096 <= n by omega)]
 dsimp only
 rw [hy,zCu,zAR hk]
 dsimp only
 rw [show (pst r v n).ts.length = r.length by simp [pst]]
theorem zHP {val : PS -> PR D} {g : Nat -> KS} {c : Nat -> D} {sz : Nat -> Nat} {v : Bool} {n0 N : Nat} (hval : ∀ i r,i < N -> val (pst (g i ++ r) v (n0 + sumN sz i)) = .ok (c i,pst r v (n0 + sumN sz (i + 1))))
 (hfst : ∀ i r n,i < N -> isS (pst (g i ++ r) v n) [93] = false) : ∀ (m j f : Nat) (r : KS),j + m = N -> m < f ->
 itemsQ val f ((List.range j).map c) (pst (gK g j m ++ (1,[93]) :: r) v (n0 + sumN sz j)) = .ok ((List.range N).map c,pst r v (n0 + sumN sz N))
 | _,_,0,_,_,hf => by omega
 | 0,j,f + 1,r,hj,_ => by
   have e : j = N:=by omega
   subst e
   unfold itemsQ
   rw [zCS,List.nil_append,if_pos (zAS _ _ _ _),zAR (by decide)]
 | m + 1,j,f + 1,r,hj,hf => by
   have ih:=zHP hval hfst m (j + 1) f r (by omega) (by omega)
   unfold itemsQ
   rw [zBQ,List.append_assoc,if_neg (by rw [hfst j _ _ (by omega)]; decide),hval j _ (by omega),then_ok_eq]
   rw [List.range_succ,List.map_append] at ih
   exact ih
theorem zFW {val : PS -> PR D} {g : Nat -> KS} {c : Nat -> D} {key : Nat -> List UInt8} {sz : Nat -> Nat} {v : Bool} {n0 N : Nat} (hval : ∀ i r,i < N -> val (pst (g i ++ r) v (n0 + sumN sz i)) = .ok (c i,pst r v (n0 + sumN sz (i + 1))))
 (hnd : ∀ i j,i < j -> j < N -> key i ≠ key j) : ∀ (m j f : Nat) (r : KS),j + m = N -> m < f ->
 zu val f ((List.range j).map key) ((List.range j).map c) (pst (gK (fun i => (2,key i) :: (1,[58]) :: g i) j m ++ (1,[125]) :: r) v (n0 + sumN sz j)) = .ok (((List.range N).map key,(List.range N).map c),pst r v (n0 + sumN sz N))
 | _,_,0,_,_,hf => by omega
 | 0,j,f + 1,r,hj,_ => by
   have e : j = N:=by omega
   subst e
   unfold zu
   rw [zCS,List.nil_append,if_pos (zAS _ _ _ _),zAR (by decide)]
 | m + 1,j,f + 1,r,hj,hf => by
   have ih:=zFW hval hnd m (j + 1) f r (by omega) (by omega)
   have hc : ((List.range j).map key).contains (key j) = false:=by
    simp only [List.contains_eq_mem,decide_eq_false_iff_not,List.mem_map,List.mem_range]
    rintro ⟨i,hi,e⟩
    exact hnd i j hi (by omega) e
   unfold zu
   rw [zBQ,List.append_assoc,List.cons_append,List.cons_append,if_neg (by rw [zB3]; simp),zAd,then_ok_eq,if_neg (by rw [hc]; decide),zA7,then_ok_eq,hval j _ (by omega),then_ok_eq]
   rw [List.range_succ,List.map_append,List.map_append] at ih
   exact ih
theorem maxN_at {f : Nat -> Nat} : ∀ {n i : Nat},i < n -> f i <= maxN f n
 | 0,_,h => by omega
 | n + 1,i,h => by
   unfold maxN
   by_cases e : i = n
   . subst e; omega
   . have:=maxN_at (f:=f) (n:=n) (i:=i) (by omega); omega
theorem zI4 {d : D} (h : (d.f 4).l.length = 0) : strsR d = []:=by
 unfold strsR
 rw [List.length_eq_zero_iff.1 h]; rfl
theorem zBy {k : Nat} {d : D} (h : (d.f 3).l.length = 0) (h2 : (d.f 4).l.length = 0) : cnV (k + 1) d = valD (d.f 0).n (d.f 1).n (tx (d.f 2).s) [] [] /\ sizeR (k + 1) d = 1:=by
 unfold cnV sizeR
 rw [h,zI4 h2]
 exact ⟨rfl,rfl⟩
theorem zI0 {k : Nat} {d : D} (h : everyL k d = true) : ∃ kk s t,valK k d = (kk,s) :: t /\ (kk == 1 && s == [93]) = false:=by
 cases k with
 | zero => cases h
 | succ k =>
   unfold valK
   repeat' split
   all_goals exact ⟨_,_,_,rfl,rfl⟩
theorem zGm : ∀ (k f lv : Nat) (d : D) (r : KS) (v : Bool) (n : Nat),everyL k d = true -> wideD d -> lv + depthR k d <= 25 -> depthR k d <= f -> n + sizeR k d <= 4096 -> (v = false -> bareR k d = true) ->
 valueQ f lv (pst (valK k d ++ r) v n) = .ok (cnV k d,pst r v (n + sizeR k d))
 | 0,_,_,_,_,_,_,h,_,_,_,_,_ => by cases h
 | k + 1,f,lv,d,r,v,n,h,hw,hlv,hf,hn,hb => by
   obtain ⟨hN,hi⟩:=zDs h
   have hd1 : 1 <= depthR (k + 1) d:=by unfold depthR; omega
   have hs1 : 1 <= sizeR (k + 1) d:=by unfold sizeR; omega
   obtain ⟨f,rfl⟩ : ∃ q,f = q + 1:=⟨f - 1,by omega⟩
   have hdep : ∀ i,i < (d.f 3).l.length -> depthR k (gD (d.f 3).l i) + 1 <= depthR (k + 1) d:=fun i hl => by
    have:=maxN_at (f:=fun i => depthR k (gD (d.f 3).l i)) hl
    have e : depthR (k + 1) d = maxN (fun i => depthR k (gD (d.f 3).l i)) (d.f 3).l.length + 1:=rfl
    omega
   have hsz : sizeR (k + 1) d = 1 + sumN (fun i => sizeR k (gD (d.f 3).l i)) (d.f 3).l.length:=rfl
   have hbar : v = false -> (d.f 0).n ≠ 7 /\ ∀ i,i < (d.f 3).l.length -> bareR k (gD (d.f 3).l i) = true:=fun e => by
    have:=hb e
    unfold bareR at this
    simp only [Bool.and_eq_true,Bool.not_eq_true',beq_eq_false_iff_ne] at this
    exact ⟨this.1,zD3 this.2⟩
   have hval : ∀ i r,i < (d.f 3).l.length -> valueQ f (lv + 1) (pst (valK k (gD (d.f 3).l i) ++ r) v (n + 1 + sumN (fun i => sizeR k (gD (d.f 3).l i)) i)) = .ok (cnV k (gD (d.f 3).l i),pst r v (n + 1 + sumN (fun i => sizeR k (gD (d.f 3).l i)) (i + 1))):=fun i r hl => by
    have h1:=hdep i hl
    have h2:=zAU (fun i => sizeR k (gD (d.f 3).l i)) (show i + 1 <= (d.f 3).l.length by omega)
    have h3 : sumN (fun i => sizeR k (gD (d.f 3).l i)) (i + 1) = sumN (fun i => sizeR k (gD (d.f 3).l i)) i + sizeR k (gD (d.f 3).l i):=rfl
    rw [zGm k f (lv + 1) _ r v _ (hi i hl) ((hw.f 3).l i) (by omega) (by omega) (by omega) fun e => (hbar e).2 i hl,h3,Nat.add_assoc (n + 1)]
   by_cases k1 : (d.f 0).n = 1
   . have i0 : (d.f 3).l.length = 0:=by rcases hN.items0 with e | e | e <;> omega
     have q0 : (d.f 4).l.length = 0:=by rcases hN.keys0 with e | e <;> omega
     have t0 : tx (d.f 2).s = []:=by rcases hN.txt0 with e | e | e | e <;> first | omega | exact e
     obtain ⟨e1,e2⟩:=zBy (k:=k) i0 q0
     rw [e1,e2,t0,k1]
     unfold valK
     rw [if_pos k1,List.cons_append,List.nil_append,zBW rfl (by decide) (by omega) (by omega),if_neg (by decide),if_neg (by decide),if_pos rfl]
     rcases hN.bool k1 with e | e
     . rw [e,if_neg (by decide)]; rfl
     . rw [e,if_pos rfl]; rfl
   by_cases k2 : (d.f 0).n = 2
   . have i0 : (d.f 3).l.length = 0:=by rcases hN.items0 with e | e | e <;> omega
     have q0 : (d.f 4).l.length = 0:=by rcases hN.keys0 with e | e <;> omega
     have t0 : tx (d.f 2).s = []:=by rcases hN.txt0 with e | e | e | e <;> first | omega | exact e
     obtain ⟨e1,e2⟩:=zBy (k:=k) i0 q0
     rw [e1,e2,t0,k2]
     unfold valK
     rw [if_neg k1,if_pos k2,List.cons_append,List.nil_append,zBW rfl (by decide) (by omega) (by omega),if_pos rfl]
     unfold numQ
     rw [zJR _ (hw.f 1).n.1 (hw.f 1).n.2]
   by_cases k3 : (d.f 0).n = 3
   . have i0 : (d.f 3).l.length = 0:=by rcases hN.items0 with e | e | e <;> omega
     have q0 : (d.f 4).l.length = 0:=by rcases hN.keys0 with e | e <;> omega
     have n0 : (d.f 1).n = 0:=by rcases hN.int0 with e | e | e <;> omega
     obtain ⟨e1,e2⟩:=zBy (k:=k) i0 q0
     rw [e1,e2,n0,k3]
     unfold valK
     rw [if_neg k1,if_neg k2,if_pos k3,List.cons_append,List.nil_append,zBW rfl (by decide) (by omega) (by omega),if_neg (by decide),if_pos rfl]
   by_cases k4 : (d.f 0).n = 4
   . have i0 : (d.f 3).l.length = 0:=by rcases hN.items0 with e | e | e <;> omega
     have q0 : (d.f 4).l.length = 0:=by rcases hN.keys0 with e | e <;> omega
     have n0 : (d.f 1).n = 0:=by rcases hN.int0 with e | e | e <;> omega
     obtain ⟨-,w1,w2,w3⟩:=zHY (hN.enum k4)
     obtain ⟨e1,e2⟩:=zBy (k:=k) i0 q0
     rw [e1,e2,n0,k4]
     unfold valK
     rw [if_neg k1,if_neg k2,if_neg k3,if_pos k4,List.cons_append,List.nil_append,zBW rfl (by decide) (by omega) (by omega),if_neg (by decide),if_neg (by decide),if_pos rfl]
     unfold zDg
     rw [if_neg w1,if_neg w2,if_neg w3]
   by_cases k7 : (d.f 0).n = 7
   . have i0 : (d.f 3).l.length = 0:=by rcases hN.items0 with e | e | e <;> omega
     have q0 : (d.f 4).l.length = 0:=by rcases hN.keys0 with e | e <;> omega
     have n0 : (d.f 1).n = 0:=by rcases hN.int0 with e | e | e <;> omega
     obtain ⟨e1,e2⟩:=zBy (k:=k) i0 q0
     cases v with
     | false => exact absurd k7 (hbar rfl).1
     | true =>
       rw [e1,e2,n0,k7]
       unfold valK
       rw [if_neg k1,if_neg k2,if_neg k3,if_neg k4,if_pos k7,List.cons_append,List.cons_append,List.nil_append,zBW rfl (by decide) (by omega) (by omega),if_neg (by decide),if_neg (by decide),if_neg (by decide),if_pos rfl,zAd]
       rfl
   by_cases k5 : (d.f 0).n = 5
   . have q0 : (d.f 4).l.length = 0:=by rcases hN.keys0 with e | e <;> omega
     have n0 : (d.f 1).n = 0:=by rcases hN.int0 with e | e | e <;> omega
     have t0 : tx (d.f 2).s = []:=by rcases hN.txt0 with e | e | e | e <;> first | omega | exact e
     have hit:=zHP (v:=v) hval (fun i r n hl => by
      obtain ⟨kk,s,t,e,hk⟩:=zI0 (hi i hl)
      rw [e,List.cons_append,zB3]; exact hk) (d.f 3).l.length 0 ((gK (fun i => valK k (gD (d.f 3).l i)) 0 (d.f 3).l.length ++ (1,[93]) :: r).length + 1) r (by omega) (by
       have:=zDU (fun i => if i < (d.f 3).l.length then valK k (gD (d.f 3).l i) else [(1,[])]) (fun i => by
        split
        . rename_i hl
          obtain ⟨kk,s,t,e,-⟩:=zI0 (hi i hl)
          rw [e]; simp
        . simp) (d.f 3).l.length 0
       have e2 : gK (fun i => if i < (d.f 3).l.length then valK k (gD (d.f 3).l i) else [(1,[])]) 0 (d.f 3).l.length = gK (fun i => valK k (gD (d.f 3).l i)) 0 (d.f 3).l.length:=by
        unfold gK
        rw [List.flatMap_def,List.flatMap_def]
        congr 1
        refine List.map_congr_left fun i hi2 => ?_
        have : i < (d.f 3).l.length:=by simpa using List.mem_range'.1 hi2 |>.elim fun x hx => by omega
        rw [if_pos this]
       rw [e2] at this
       rw [List.length_append]
       omega)
     have e0 : n + 1 + sumN (fun i => sizeR k (gD (d.f 3).l i)) 0 = n + 1:=rfl
     rw [e0] at hit
     unfold valK
     rw [if_neg k1,if_neg k2,if_neg k3,if_neg k4,if_neg k7,if_pos k5]
     have ea : (1,[91]) :: (gK (fun i => valK k (gD (d.f 3).l i)) 0 (d.f 3).l.length ++ [(1,[93])]) ++ r = ((1 : Int),[(91 : UInt8)]) :: (gK (fun i => valK k (gD (d.f 3).l i)) 0 (d.f 3).l.length ++ (1,[93]) :: r):=by simp
     rw [ea,zBW rfl (by decide) (by omega) (by omega),if_neg (by decide),if_neg (by decide),if_neg (by decide),if_neg (by decide),if_pos rfl]
     have hit' : itemsQ (valueQ f (lv + 1)) ((gK (fun i => valK k (gD (d.f 3).l i)) 0 (d.f 3).l.length ++ (1,[93]) :: r).length + 1) [] (pst (gK (fun i => valK k (gD (d.f 3).l i)) 0 (d.f 3).l.length ++ (1,[93]) :: r) v (n + 1)) = _:=hit
     rw [hit',then_ok_eq,hsz,Nat.add_assoc n 1,zJx,k5,n0,t0,zI4 q0]
   by_cases k6 : (d.f 0).n = 6
   . obtain ⟨-,hlen,hnd⟩:=hN.obj k6
     have n0 : (d.f 1).n = 0:=by rcases hN.int0 with e | e | e <;> omega
     have t0 : tx (d.f 2).s = []:=by rcases hN.txt0 with e | e | e | e <;> first | omega | exact e
     have hst : strsR d = (List.range (d.f 3).l.length).map fun i => tx (gD (d.f 4).l i).s:=by
      unfold strsR
      rw [<- hlen]
      exact zEg (d.f 4).l fun x => tx x.s
     have hkey : ∀ i j,i < j -> j < (d.f 3).l.length -> tx (gD (d.f 4).l i).s ≠ tx (gD (d.f 4).l j).s:=fun i j hij hj => by
      rw [hst] at hnd
      have:=List.pairwise_iff_getElem.1 hnd i j (by simp; omega) (by simp; omega) hij
      simpa using this
     have hit:=zFW (key:=fun i => tx (gD (d.f 4).l i).s) (v:=v) hval hkey (d.f 3).l.length 0 ((gK (fun i => (2,tx (gD (d.f 4).l i).s) :: (1,[58]) :: valK k (gD (d.f 3).l i)) 0 (d.f 3).l.length ++ (1,[125]) :: r).length + 1) r (by omega) (by
      have:=zDU (fun i => (2,tx (gD (d.f 4).l i).s) :: (1,[58]) :: valK k (gD (d.f 3).l i)) (fun i => by simp) (d.f 3).l.length 0
      rw [List.length_append]
      omega)
     have e0 : n + 1 + sumN (fun i => sizeR k (gD (d.f 3).l i)) 0 = n + 1:=rfl
     rw [e0] at hit
     unfold valK
     rw [if_neg k1,if_neg k2,if_neg k3,if_neg k4,if_neg k7,if_neg k5,if_pos k6]
     have ea : (1,[123]) :: (gK (fun i => (2,tx (gD (d.f 4).l i).s) :: (1,[58]) :: valK k (gD (d.f 3).l i)) 0 (d.f 3).l.length ++ [(1,[125])]) ++ r = ((1 : Int),[(123 : UInt8)]) :: (gK (fun i => (2,tx (gD (d.f 4).l i).s) :: (1,[58]) :: valK k (gD (d.f 3).l i)) 0 (d.f 3).l.length ++ (1,[125]) :: r):=by simp
     rw [ea,zBW rfl (by decide) (by omega) (by omega),if_neg (by decide),if_neg (by decide),if_neg (by decide),if_neg (by decide),if_neg (by decide)]
     have hit' : zu (valueQ f (lv + 1)) ((gK (fun i => (2,tx (gD (d.f 4).l i).s) :: (1,[58]) :: valK k (gD (d.f 3).l i)) 0 (d.f 3).l.length ++ (1,[125]) :: r).length + 1) [] [] (pst (gK (fun i => (2,tx (gD (d.f 4).l i).s) :: (1,[58]) :: valK k (gD (d.f 3).l i)) 0 (d.f 3).l.length ++ (1,[125]) :: r) v (n + 1)) = _:=hit
     rw [hit',then_ok_eq,hsz,Nat.add_assoc n 1,zJx,k6,n0,t0,hst]
   . have kd:=hN.kind
     have k0 : (d.f 0).n = 0:=by omega
     have i0 : (d.f 3).l.length = 0:=by rcases hN.items0 with e | e | e <;> omega
     have q0 : (d.f 4).l.length = 0:=by rcases hN.keys0 with e | e <;> omega
     have n0 : (d.f 1).n = 0:=by rcases hN.int0 with e | e | e <;> omega
     have t0 : tx (d.f 2).s = []:=by rcases hN.txt0 with e | e | e | e <;> first | omega | exact e
     obtain ⟨e1,e2⟩:=zBy (k:=k) i0 q0
     rw [e1,e2,n0,t0,k0]
     unfold valK
     rw [if_neg k1,if_neg k2,if_neg k3,if_neg k4,if_neg k7,if_neg k5,if_neg k6,List.cons_append,List.nil_append,zBW rfl (by decide) (by omega) (by omega),if_neg (by decide),if_neg (by decide),if_pos rfl]
     rfl
theorem zGg {d : D} {r : KS} {v : Bool} {n : Nat} (h : litR d = true) (hw : wideD d) (hb : v = false -> bareR (bulkD d) d = true) : zAf (pst (litK d ++ r) v n) = .ok (cL d,pst r v (sizeR (bulkD d) d)):=by
 unfold litR at h
 simp only [Bool.and_eq_true,decide_eq_true_eq] at h
 have:=zGm (bulkD d) 25 1 d r v 0 h.2 hw (by omega) (by omega) (by omega) hb
 rw [Nat.zero_add] at this
 exact this
def rgD (c : D -> D) (l : List D) : List D:=(List.range l.length).map fun i => c (gD l i)
def cA (a : D) : D:=argD (tx (a.f 0).s) (cL (a.f 1))
def cDir (x : D) : D:=dirD (tx (x.f 0).s) (rgD cA (x.f 1).l)
theorem zIK (c : D -> D) : rgD c [] = []:=rfl
theorem zDA (c : Nat -> D) (j : Nat) : ((List.range j).map c).length = j:=by simp
theorem zHt {l : List D} (h : argsR l = true) (hw : ∀ i,wideD (gD l i)) (h0 : 0 < l.length) : ∀ (m j f : Nat) (r : KS) (n : Nat),j + m = l.length -> m < f ->
 ∃ n',argsF f ((List.range j).map fun i => cA (gD l i)) (pst (gK (fun i => argK (gD l i)) j m ++ (1,[41]) :: r) true n) = .ok (rgD cA l,pst r true n')
 | _,_,0,_,_,_,hf => by omega
 | 0,j,f + 1,r,n,hj,_ => by
   have e : j = l.length:=by omega
   subst e
   unfold argsF
   rw [zDA,zCS,List.nil_append,if_pos ⟨by omega,zAS _ _ _ _⟩,zAR (by decide)]
   exact ⟨n,rfl⟩
 | m + 1,j,f + 1,r,n,hj,hf => by
   obtain ⟨hl,ha⟩:=zDe h
   have hj2 : j < l.length:=by omega
   obtain ⟨n',ih⟩:=zHt h hw h0 m (j + 1) f r (sizeR (bulkD ((gD l j).f 1)) ((gD l j).f 1)) (by omega) (by omega)
   refine ⟨n',?_⟩
   unfold argsF
   rw [zDA,zBQ,List.append_assoc]
   have e : argK (gD l j) ++ (gK (fun i => argK (gD l i)) (j + 1) m ++ (1,[41]) :: r) = (2,tx ((gD l j).f 0).s) :: (1,[58]) :: (litK ((gD l j).f 1) ++ (gK (fun i => argK (gD l i)) (j + 1) m ++ (1,[41]) :: r)):=rfl
   rw [e,if_neg (fun q => by have:=q.2; rw [zB3] at this; simp at this),if_neg (fun q => by omega),zAd,then_ok_eq,zA7,then_ok_eq,zGg (ha j hj2).2 ((hw j).f 1) (fun e => by cases e),then_ok_eq]
   rw [List.range_succ,List.map_append] at ih
   exact ih
theorem zJ7 {l : List D} (h : argsR l = true) (hw : ∀ i,wideD (gD l i)) {r : KS} (hr : nS r [40]) (n : Nat) : ∃ n',argsQ (pst (parK l ++ r) true n) = .ok (rgD cA l,pst r true n'):=by
 unfold argsQ parK
 by_cases h0 : l.length = 0
 . rw [if_pos h0,List.nil_append,if_neg (by rw [hr]; decide)]
   rw [List.length_eq_zero_iff.1 h0]
   exact ⟨n,rfl⟩
 . have e : (1,[40]) :: (rgK argK l ++ [(1,[41])]) ++ r = ((1 : Int),[(40 : UInt8)]) :: (gK (fun i => argK (gD l i)) 0 l.length ++ (1,[41]) :: r):=by simp [rgK]
   rw [if_neg h0,e,if_pos (zAS _ _ _ _),zAR (by decide)]
   have hlen:=zDU (fun i => argK (gD l i)) (fun i => by simp [argK]) l.length 0
   exact zHt h hw (by omega) l.length 0 _ r n (by omega) (by simp only [pst,List.length_map,List.length_cons,List.length_append]; omega)
theorem nS_par {l : List D} {r : KS} {s : List UInt8} (h : ([40] == s) = false) (hr : nS r s) : nS (parK l ++ r) s:=by
 unfold parK
 split
 . exact hr
 . exact zAh (by simpa using h)
theorem zHc {l : List D} (h : dirsR l = true) (hw : ∀ i,wideD (gD l i)) : ∀ (m j f : Nat) (r : KS) (n : Nat),j + m = l.length -> m < f -> nS r [64] -> nS r [40] ->
 ∃ n',dirsF f ((List.range j).map fun i => cDir (gD l i)) (pst (gK (fun i => dirK (gD l i)) j m ++ r) true n) = .ok (rgD cDir l,pst r true n')
 | _,_,0,_,_,_,hf,_,_ => by omega
 | 0,j,f + 1,r,n,hj,_,h1,_ => by
   have e : j = l.length:=by omega
   subst e
   unfold dirsF
   rw [zCS,List.nil_append,if_neg (by rw [h1]; decide)]
   exact ⟨n,rfl⟩
 | m + 1,j,f + 1,r,n,hj,hf,h1,h2 => by
   obtain ⟨hl,ha⟩:=zEx h
   have hj2 : j < l.length:=by omega
   obtain ⟨n1,e1⟩:=zJ7 (ha j hj2).2 (fun i => ((hw j).f 1).l i) (r:=gK (fun i => dirK (gD l i)) (j + 1) m ++ r) (zIR (fun i r => zAh (by decide)) h2) n
   obtain ⟨n',ih⟩:=zHc h hw m (j + 1) f r n1 (by omega) (by omega) h1 h2
   refine ⟨n',?_⟩
   unfold dirsF
   rw [zDA,zBQ,List.append_assoc]
   have e : dirK (gD l j) ++ (gK (fun i => dirK (gD l i)) (j + 1) m ++ r) = (1,[64]) :: (2,tx ((gD l j).f 0).s) :: (parK ((gD l j).f 1).l ++ (gK (fun i => dirK (gD l i)) (j + 1) m ++ r)):=rfl
   rw [e,if_pos (zAS _ _ _ _),if_neg (by omega),zAR (by decide),zAd,then_ok_eq,e1,then_ok_eq]
   rw [List.range_succ,List.map_append] at ih
   exact ih
theorem zGS {l : List D} (h : dirsR l = true) (hw : ∀ i,wideD (gD l i)) {r : KS} (h1 : nS r [64]) (h2 : nS r [40]) (n : Nat) : ∃ n',dirsQ (pst (rgK dirK l ++ r) true n) = .ok (rgD cDir l,pst r true n'):=by
 unfold dirsQ
 have hlen:=zDU (fun i => dirK (gD l i)) (fun i => by simp [dirK]) l.length 0
 exact zHc h hw l.length 0 _ r n (by omega) (by simp only [pst,List.length_map,List.length_append,rgK]; omega) h1 h2
theorem nS_dirs {l : List D} {r : KS} {s : List UInt8} (h : ([64] == s) = false) (hr : nS r s) : nS (rgK dirK l ++ r) s:=
 zIR (fun i r => zAh (by simpa using h)) hr
end Go.Proofs.YthjiclhfhjdjpaaGreatDoor
