import Derived.Deep.Upon
import Derived.Test.YtdlnnlglmifceaaGreatDoorV21
set_option maxHeartbeats 2000000
set_option maxRecDepth 100000
set_option linter.unusedVariables false
set_option linter.unusedSimpArgs false
namespace Go.Proofs.YtdlnnlglmifceaaGreatDoor
open Go.RowKit
attribute [local irreducible] wpList Calls Code.wp
section
variable {X : Cx} {nn : Nat} {st : Vst nn} {o : Oper} {K : Vst nn -> Prop} {ops : Array Oper} {l : List Oper} {d : Option Tmp} {KK : Vst nn -> Prop}
theorem res_same {k : Nat} {ρ : Res} (h : st.rs k = some ρ) : st.res k ρ = st:=by
 unfold Vst.res
 have e : updR st.rs k ρ = st.rs:=by
  funext m
  unfold updR
  by_cases hm : m = k
  . subst hm; rw [if_pos rfl,h]
  . rw [if_neg hm]
 rw [e]
end
end Go.Proofs.YtdlnnlglmifceaaGreatDoor
namespace Go.Proofs.YtdlnnlglmifceaaGreatDoor
open Go.RowKit
attribute [local irreducible] wpList Calls Code.wp
section
variable {X : Cx} {nn : Nat} {st : Vst nn} {ops : Array Oper} {ws : List Nat} {wi : Nat}
def Closed (ops : Array Oper) (listed : Array Bool) : Prop:=∀ k o,ops[k]? = some o -> listed.getD k false = true -> ∀ e ∈ o.after,Region.binds .any e = true -> listed.getD e.on false = true
theorem Closed.set {listed : Array Bool} {j : Nat} (h : Closed ops listed) (hj : j ∈ Region.ready .any ops listed) : Closed ops (listed.setIfInBounds j true):=by
 intro k o ho hk e he hb
 obtain ⟨-,oj,hoj,hall⟩:=mem_ready.1 hj
 by_cases hkj : k = j
 . subst hkj
   rw [hoj] at ho; cases ho
   exact getD_set_true (hall e he hb)
 . rw [getD_set_ne false (fun e => hkj e.symm)] at hk
   exact getD_set_true (h k o ho hk e he hb)
def zFB (ops : Array Oper) (k : Nat) : List Nat:=match ops[k]? with | some o => (o.after.toList.filter fun e => Region.binds .any e).map (·.on) | none => []
def reachS (ops : Array Oper) : Nat -> List Nat -> List Nat
 | 0,S => S
 | n + 1,S => reachS ops n (S ++ (S.flatMap (zFB ops)).filter fun k => !S.contains k)
theorem waits_ok {listed : Array Bool} (h : Closed ops listed) {q k : Nat} (hq : listed.getD q false = true) (hk : k ∈ zFB ops q) : listed.getD k false = true:=by
 unfold zFB at hk
 split at hk
 . rename_i o ho
   obtain ⟨e,he,rfl⟩:=List.mem_map.1 hk
   obtain ⟨h1,h2⟩:=List.mem_filter.1 he
   exact h q o ho hq e (by simpa using h1) h2
 . simp at hk
theorem zDm {listed : Array Bool} (h : Closed ops listed) : ∀ (n : Nat) (S : List Nat),(∀ k ∈ S,listed.getD k false = true) -> ∀ k ∈ reachS ops n S,listed.getD k false = true
 | 0,S,hS,k,hk => hS k hk
 | n + 1,S,hS,k,hk => by
   refine zDm h n _ (fun q hq => ?_) k hk
   rcases List.mem_append.1 hq with hq | hq
   . exact hS q hq
   . obtain ⟨h1,-⟩:=List.mem_filter.1 hq
     obtain ⟨p,hp,h2⟩:=List.mem_flatMap.1 h1
     exact waits_ok h (hS p hp) h2
theorem zA5 {listed : Array Bool} {i : Nat} (h0 : listed.getD i true = false) (h1 : listed.getD i false = true) : False:=by
 rw [Array.getD_eq_getD_getElem?] at h0 h1
 cases h : listed[i]? with
 | none => rw [h] at h0; simp at h0
 | some b => rw [h] at h0 h1; simp at h0 h1; rw [h0] at h1; cases h1
end
end Go.Proofs.YtdlnnlglmifceaaGreatDoor
namespace Go.Proofs.YtdlnnlglmifceaaGreatDoor
open Go.RowKit
attribute [local irreducible] wpList Calls Code.wp
mutual
inductive VLe : V -> V -> Prop
 | refl (v : V) : VLe v v
 | nil (e : TypeId) : VLe (.c (.slice none 0 0)) (.sl e [])
 | lit (e : TypeId) (l : List D) : VLe (.lit e l) (.sl e l)
 | own (k : Nat) (e : TypeId) (l : List D) : VLe (.own k e l) (.sl e l)
 | agg {a b : List V} : VLeL a b -> VLe (.agg a) (.agg b)
 | tup {a b : List V} : VLeL a b -> VLe (.tup a) (.tup b)
inductive VLeL : List V -> List V -> Prop
 | nil : VLeL [] []
 | cons {v u : V} {a b : List V} : VLe v u -> VLeL a b -> VLeL (v :: a) (u :: b)
end
mutual
theorem zF7 {P : Program} {s : Sg} {w : World} {v u : V} {x : Value} (h : VLe v u) (hr : rel P s w v x) : rel P s w u x:=by
 cases h with
 | refl => exact hr
 | nil e =>
   unfold rel at hr |-
   rw [hr.1]
   exact ⟨0,none,0,rfl,Nat.le_refl _,by decide,fun _ => rfl,fun h => by simp at h⟩
 | lit e l => unfold rel at hr |-; exact hr.1
 | own k e l => unfold rel at hr |-; exact hr.1
 | agg h => unfold rel at hr |-; obtain ⟨cs,h1,h2⟩:=hr; exact ⟨cs,h1,zFO h h2⟩
 | tup h => unfold rel at hr |-; obtain ⟨cs,h1,h2⟩:=hr; exact ⟨cs,h1,zFO h h2⟩
theorem zFO {P : Program} {s : Sg} {w : World} {a b : List V} {xs : List Value} (h : VLeL a b) (hr : relL P s w a xs) : relL P s w b xs:=by
 cases h with
 | nil => exact hr
 | cons h1 h2 =>
   cases xs with
   | nil => unfold relL at hr; exact hr.elim
   | cons x xs => unfold relL at hr |-; exact ⟨zF7 h1 hr.1,zFO h2 hr.2⟩
end
theorem AC.res {e : Ge} {P : Program} {f : FuncId} {args : List V} {r r' : V} (h : AC e P f args r) (hle : VLe r r') : AC e P f args r':=fun s w us hus hfx he =>
 (h s w us hus hfx he).mono fun _ _ ⟨v,F',h1,h2,h3,h4,h5,h6⟩ => ⟨v,F',h1,h2,h3,h4,h5,zF7 hle h6⟩
theorem AC.arg {e : Ge} {P : Program} {f : FuncId} {args args' : List V} {r : V} (h : AC e P f args' r) (hle : VLeL args args') : AC e P f args r:=fun s w us hus hfx he => h s w us (zFO hle hus) hfx he
section
variable {X : Cx} {nn : Nat} {st : Vst nn} {o : Oper} {ops : Array Oper} {l : List Oper} {d : Option Tmp} {KK : Vst nn -> Prop}
theorem zGC {K : Vst nn -> Prop} {p : Prop} {v : V} (v' : V) (h : act1 X.P st.rs (ev st) o.op = .val p v) (hle : VLe v v') (hp : p) (hK : K (st.put o.dst v')) : OpOk X o st K:=by
 intro s w a hI N Q hP hN
 obtain ⟨u,h1,h2⟩:=act1_ok h hp hI.boxes hI.ev
 unfold Oper.wp
 rw [h1,Oper.upon_value]
 exact hN _ _ _ _ (hI.put o.dst (zF7 hle h2)) hK
theorem zAo {p : Prop} {v : V} (v' : V) (hg : o.guard = none) (hd : o.dst = d) (h : act1 X.P st.rs (ev st) o.op = .val p v) (hle : VLe v v') (hK : AWo X ops l (st.put d v') KK) (hp : p) : AWo X ops (o :: l) st KK:=zAs hg (zGC v' h hle hp (by rw [hd]; exact hK))
end
theorem ACB.res {e : Ge} {P : Program} {f : FuncId} {args : List V} {bs bs' : List Res} {r r' : V} (h : ACB e P f args bs r bs') (hle : VLe r r') : ACB e P f args bs r' bs':=fun pas s w us hus hm he hp =>
 (h pas s w us hus hm he hp).mono fun _ _ ⟨v,s',h1,h2,h3,h4,h5,h6,h7⟩ => ⟨v,s',h1,h2,h3,h4,h5,h6,zF7 hle h7⟩
section
variable {X : Cx} {nn : Nat} {st : Vst nn}
theorem Sub.le {t : Nat} {v : V} (h : VLe (st.tm t) v) : Sub X st (st.put (some t) v):=fun s w a hI =>
 ⟨s,hI.sz,fun i hi => by
   show rel X.P s w (if i = t then v else st.tm i) _
   by_cases e : i = t
   . subst e; rw [if_pos rfl]; exact zF7 h (hI.tm i hi)
   . rw [if_neg e]; exact hI.tm i hi,hI.df,hI.fr,hI.kp,hI.nf,hI.mem,hI.pe⟩
end
section
variable {X : Cx} {nn : Nat} {st : Vst nn}
def headR : Code -> Option Nat
 | .region id _ _ => some id
 | .seq x _ => headR x
 | .block _ x => headR x
 | .scope x => headR x
 | .loop x => headR x
 | _ => none
def cutK (X : Cx) (st1 : Vst nn) (K : Exit -> Vst nn -> Prop) : Exit -> Vst nn -> Prop
 | .normal,st => Sub X st st1
 | e,st => K e st
theorem zBV (n : Nat) (st1 : Vst nn) {x y : Code} {K : Exit -> Vst nn -> Prop} (_hn : headR y = some n) (hx : AW X x st (cutK X st1 K)) (hy : AW X y st1 K) : AW X (.seq x y) st K:=by
 refine zIH ?_
 intro s w a hI
 refine Code.wp_mono (fun e a' w' ⟨st',s',hI',hK⟩ => ?_) (hx s w a hI)
 rcases hK with hK | ⟨pv,rfl,hp⟩
 . cases e
   case normal =>
    refine ⟨st',s',hI',.inl ?_⟩
    show AW X y st' K
    exact zAF hK hy
   all_goals exact ⟨st',s',hI',.inl hK⟩
 . exact ⟨st',s',hI',.inr ⟨pv,rfl,hp⟩⟩
theorem zAb {st1 : Vst nn} {K : Exit -> Vst nn -> Prop} (h : Sub X st st1) : cutK X st1 K .normal st:=h
theorem zj {st1 : Vst nn} {K : Exit -> Vst nn -> Prop} (h : K .ret st) : cutK X st1 K .ret st:=h
theorem za {st1 : Vst nn} {K : Exit -> Vst nn -> Prop} {id : Nat} (h : K (.exit id) st) : cutK X st1 K (.exit id) st:=h
end
end Go.Proofs.YtdlnnlglmifceaaGreatDoor
namespace Go.Proofs.YtdlnnlglmifceaaGreatDoor
open Go.RowKit
attribute [local irreducible] wpList Calls Code.wp
section
variable {X : Cx} {nn : Nat} {st : Vst nn} {ops : Array Oper} {o : Oper}
def inO (l : List Nat) : Option Nat -> Bool
 | none => true
 | some n => l.contains n
inductive YldN (X : Cx) (rd wr : List Nat) (o : Oper) (st : Vst nn) : V -> List (Nat × Res) -> Prop where
 | val {p : Prop} {v : V} (h : act1 X.P st.rs (ev st) o.op = .val p v) (hp : p) (hl : inO rd (loads (ev st) o.op) = true) : YldN X rd wr o st v []
 | valW {p : Prop} {v v' : V} (h : act1 X.P st.rs (ev st) o.op = .val p v) (hle : VLe v v') (hp : p) (hl : inO rd (loads (ev st) o.op) = true) : YldN X rd wr o st v' []
 | call {f : FuncId} {args : List V} {v : V} (h : act1 X.P st.rs (ev st) o.op = .call f args) (hc : AC X.e X.P f (outL args) v) : YldN X rd wr o st v []
 | lit {t e : TypeId} {b m : Nat} {parts : Array (Nat × Operand)} {ds : List D} (ho : o.op = .buildSlice t m parts) (he : zAX X.P t = some (e,b)) (hn : m = ds.length) (hs : m * X.P.cellsOf e <= 2 ^ 24) (hp : zCk X.P e (ev st) parts.toList 0 ds) : YldN X rd wr o st (.lit e ds) []
 | pick {c x y : Operand} {b : Bool} (ho : o.op = .pick c x y) (hc : ev st c = .c (.bool b)) : YldN X rd wr o st (bif b then ev st x else ev st y) []
 | callB {f : FuncId} {vargs args : List V} {bs bs' : List Res} {r : V} (ns : List Nat) (h : act1 X.P st.rs (ev st) o.op = .call f vargs) (hc : ACB X.e X.P f args bs r bs') (hnd : ns.Nodup) (ha : renL (φin ns) vargs = args) (hb : ns.map (fun n => (st.rs n).map (renR (φin ns))) = bs.map some)
    (hl : ns.all (fun n => wr.contains n) = true) (hlen : bs'.length = ns.length) : YldN X rd wr o st (renV (φout ns) r) (ns.zip (bs'.map (renR (φout ns))))
 | callX {f : FuncId} {vargs args : List V} {bs : List Res} {pv : Value} (ns : List Nat) (h : act1 X.P st.rs (ev st) o.op = .call f vargs) (hc : ACX X.e X.P f args bs pv) (hnd : ns.Nodup) (ha : renL (φin ns) vargs = args) (hb : ns.map (fun n => (st.rs n).map (renR (φin ns))) = bs.map some)
    (hl : ns.all (fun n => wr.contains n) = true) (hpk : ∀ tm rs,X.pk pv tm rs) (v : V) (ρs : List Res) (hlen : ρs.length = ns.length) : YldN X rd wr o st v (ns.zip ρs)
 | callS {f : FuncId} {vargs args : List V} {bs : List Res} {r : V} (ns : List Nat) (h : act1 X.P st.rs (ev st) o.op = .call f vargs) (hc : ACB X.e X.P f args bs r bs) (hnd : ns.Nodup) (ha : renL (φin ns) vargs = args) (hb : ns.map st.rs = bs.map some) (hp : bs.all isBld = true)
    (hl : ns.all (fun n => rd.contains n) = true) : YldN X rd wr o st (renV (φout ns) r) []
 | onlit {t e : TypeId} {b : Nat} {x y : Operand} {l l2 : List D} (ho : o.op = .call { callee:=.builtin .append,args:=#[x,y],argTypes:=#[t,t] }) (he : zAX X.P t = some (e,b)) (hleaf : ∀ d,(cellsV X.P 12 e d).all V.leaf = true)
    (hx : ev st x = .lit e l) (hy : (ev st y).out = .sl e l2) (hp : l.length + l2.length <= maxLen /\ (l.length + l2.length) * b <= 140737488355328) : YldN X rd wr o st (.sl e (l ++ l2)) []
 | app {t e : TypeId} {b k : Nat} {x y : Operand} {l l2 : List D} (hk : wr.contains k = true) (ho : o.op = .call { callee:=.builtin .append,args:=#[x,y],argTypes:=#[t,t] }) (he : zAX X.P t = some (e,b)) (hleaf : ∀ d,(cellsV X.P 12 e d).all V.leaf = true)
    (hx : ev st x = .own k e l) (hr : st.rs k = some (.tok e l.length)) (hy : (ev st y).out = .sl e l2) (hp : 0 < l2.length /\ l.length + l2.length <= maxLen /\ (l.length + l2.length) * b <= 140737488355328) :
    YldN X rd wr o st (.own k e (l ++ l2)) [(k,.tok e (l.length + l2.length))]
 | store {t t' : TypeId} {x y : Operand} {n off : Nat} {vs xs : List V} (hk : wr.contains n = true) (ho : o.op = .store t x y) (hd : o.dst = none) (hx : ev st x = .bx n off) (hr : st.rs n = some (.box t' vs)) (hc : cellsOf (ev st y) = some xs)
    (hs : X.P.cellsOf t = xs.length /\ (X.P.info? t).isSome) (hl : off + xs.length <= vs.length) : YldN X rd wr o st .any [(n,.box t' (splice vs off xs))]
def YldG (X : Cx) (ops : Array Oper) (rd wr : List Nat) (o : Oper) (st : Vst nn) (v : V) (u : List (Nat × Res)) : Prop:=
 (gw ops o st = some true /\ YldN X rd wr o st v u) \/ (gw ops o st = some false /\ v = .any /\ u = [])
theorem zFC {rs : Nat -> Option Res} : ∀ {ns : List Nat} {ρs : List Res},ns.Nodup -> ρs.length = ns.length -> updL rs (ns.zip ρs) = updN rs ns ρs
 | [],[],_,_ => by funext m; rfl
 | n :: ns,ρ :: ρs,h,hl => by
   have ih:=zFC (rs:=rs) (ns:=ns) (ρs:=ρs) (List.nodup_cons.1 h).2 (by simpa using hl)
   funext m
   show (if m = n then some ρ else updL rs (ns.zip ρs) m) = _
   unfold updN
   rw [List.idxOf?_cons]
   by_cases e : m = n
   . subst e; simp
   . have e2 : ¬ (n == m) = true:=by simp; exact fun h => e h.symm
     rw [if_neg e,ih,if_neg e2]
     unfold updN
     cases ns.idxOf? m <;> rfl
theorem zGB {rd wr : List Nat} {K : Vst nn -> Prop} {v : V} {u : List (Nat × Res)} (h : YldN X rd wr o st v u) (hK : K (stp st o.dst v u)) : OpOk X o st K:=by
 cases h with
 | val h hp hl => exact zC5 h hp hK
 | valW h hle hp hl => exact zGC _ h hle hp hK
 | call h hc => exact zC6 h hc hK
 | lit ho he hn hs hp => exact zFR ho he hn hs hp hK
 | callS ns h hc hnd ha hb hp hl => exact zEn ns h hc hnd ha hb hp hK
 | callB ns h hc hnd ha hb hl hlen =>
   refine zDJ ns h hc hnd ha hb ?_
   unfold stp at hK
   rw [zFC hnd (by simpa using hlen)] at hK
   exact hK
 | callX ns h hc hnd ha hb hl hpk => exact opOk_callX ns h hc hnd ha hb (hpk _ _)
 | pick ho hc => exact zBL ho hc hK
 | onlit ho he hleaf hx hy hp => exact zBb ho he hleaf hx hy hp.1 hp.2 hK
 | app hk ho he hleaf hx hr hy hp =>
   unfold stp at hK; rw [zCx] at hK
   exact zA9 ho he hleaf hx hr hy hp.1 hp.2.1 hp.2.2 hK
 | store hk ho hd hx hr hc hs hl =>
   unfold stp at hK; rw [zCx,hd] at hK
   exact zDI ho hd hx hr hc hs hl hK
def zCg (a b : List Nat) : Bool:=a.all fun n => !b.contains n
theorem zBK {a b : List Nat} (h : zCg a b = true) {n : Nat} (ha : a.contains n = true) (hb : b.contains n = true) : False:=by
 have:=List.all_eq_true.1 h n (by simpa using ha)
 rw [hb] at this; cases this
def Off (rd wr : List Nat) (u' : List (Nat × Res)) : Prop:=∀ p ∈ u',rd.contains p.1 = false /\ wr.contains p.1 = false
theorem zFD {rs : Nat -> Option Res} {rd wr : List Nat} {u' : List (Nat × Res)} (h : Off rd wr u') {n : Nat} (hn : rd.contains n = true \/ wr.contains n = true) : updL rs u' n = rs n:=
 zBT fun p hp e => by
  have:=h p hp
  rw [e] at this
  rcases hn with hn | hn
  . rw [this.1] at hn; cases hn
  . rw [this.2] at hn; cases hn
theorem act1_off {P : Program} {rs : Nat -> Option Res} {ea : Operand -> V} {rd wr : List Nat} {u : List (Nat × Res)} (hu : Off rd wr u) (op : Op) (hl : inO rd (loads ea op) = true) : act1 P (updL rs u) ea op = act1 P rs ea op:=by
 cases op
 case load t x =>
  simp only [act1,zEX]
  simp only [loads] at hl
  split
  . rfl
  . rename_i n o he
    rw [he] at hl
    simp only [inO] at hl
    rw [zFD hu (.inl hl)]
  . rfl
 case slice t x lo hi mx => cases mx <;> rfl
 all_goals rfl
theorem YldN.congr {rd wr : List Nat} {st st' : Vst nn} {v : V} {u : List (Nat × Res)} (hev : ∀ x ∈ o.op.operands,ev st' x = ev st x) (hrs : ∀ n,rd.contains n = true \/ wr.contains n = true -> st'.rs n = st.rs n) (hact : inO rd (loads (ev st) o.op) = true -> act1 X.P st'.rs (ev st') o.op = act1 X.P st.rs (ev st) o.op)
 (hact2 : ∀ f args,act1 X.P st'.rs (ev st') o.op = .call f args ↔ act1 X.P st.rs (ev st) o.op = .call f args) (h : YldN X rd wr o st v u) : YldN X rd wr o st' v u:=by
 have hloads:=zCq o.op hev
 cases h with
 | val h hp hl => exact .val (by rw [hact hl]; exact h) hp (by rw [hloads]; exact hl)
 | valW h hle hp hl => exact .valW (by rw [hact hl]; exact h) hle hp (by rw [hloads]; exact hl)
 | call h hc => exact .call ((hact2 _ _).2 h) hc
 | lit ho he hn hs hp => exact .lit ho he hn hs (zBl _ _ _ (fun p hp => (hev p.2 (by rw [ho]; simp [Op.operands]; exact ⟨p.1,by simpa using hp⟩)).symm) hp)
 | callB ns h hc hnd ha hb hl hlen =>
   refine .callB ns ((hact2 _ _).2 h) hc hnd ha ?_ hl hlen
   rw [<- hb]
   exact List.map_congr_left fun q hq => by rw [hrs q (.inr (List.all_eq_true.1 hl q hq))]
 | callX ns h hc hnd ha hb hl hpk v ρs hlen =>
   refine .callX ns ((hact2 _ _).2 h) hc hnd ha ?_ hl hpk _ _ hlen
   rw [<- hb]
   exact List.map_congr_left fun q hq => by rw [hrs q (.inr (List.all_eq_true.1 hl q hq))]
 | callS ns h hc hnd ha hb hp hl =>
   refine .callS ns ((hact2 _ _).2 h) hc hnd ha ?_ hp hl
   rw [<- hb]
   exact List.map_congr_left fun q hq => hrs q (.inl (List.all_eq_true.1 hl q hq))
 | pick ho hc =>
   rename_i c x y b
   rw [<- hev c (by rw [ho]; simp [Op.operands])] at hc
   rw [<- hev x (by rw [ho]; simp [Op.operands]),<- hev y (by rw [ho]; simp [Op.operands])]
   exact .pick ho hc
 | onlit ho he hleaf hx hy hp =>
   rw [<- hev _ (by rw [ho]; simp [Op.operands,Call.operands])] at hx
   rw [<- hev _ (by rw [ho]; simp [Op.operands,Call.operands])] at hy
   exact .onlit ho he hleaf hx hy hp
 | app hk ho he hleaf hx hr hy hp =>
   rw [<- hev _ (by rw [ho]; simp [Op.operands,Call.operands])] at hx
   rw [<- hev _ (by rw [ho]; simp [Op.operands,Call.operands])] at hy
   exact .app hk ho he hleaf hx (by rw [hrs _ (.inr hk)]; exact hr) hy hp
 | store hk ho hd hx hr hc hs hl =>
   rw [<- hev _ (by rw [ho]; simp [Op.operands])] at hx
   rw [<- hev _ (by rw [ho]; simp [Op.operands])] at hc
   exact .store hk ho hd hx (by rw [hrs _ (.inr hk)]; exact hr) hc hs hl
theorem YldG.of {rd wr : List Nat} {d : Option Tmp} {v v' : V} {u u' : List (Nat × Res)} (hd : ∀ t,d = some t -> t ∉ o.looksAt ops) (hu : Off rd wr u') :
 YldG X ops rd wr o (stp st d v' u') v u ↔ YldG X ops rd wr o st v u:=by
 have hev : ∀ x ∈ o.op.operands,ev (stp st d v' u') x = ev st x:=fun x hx => zGT fun t ht hxt => hd t ht (by
  subst hxt
  exact List.mem_append_left _ (List.mem_filterMap.2 ⟨.tmp t,by simpa using hx,rfl⟩))
 have hloads:=zCq o.op hev
 have hact : inO rd (loads (ev st) o.op) = true -> act1 X.P (stp st d v' u').rs (ev (stp st d v' u')) o.op = act1 X.P st.rs (ev st) o.op:=fun hl => by
  rw [zCd o.op hev,zCz]
  exact act1_off hu _ hl
 have hact2 : ∀ f args,act1 X.P (stp st d v' u').rs (ev (stp st d v' u')) o.op = .call f args ↔ act1 X.P st.rs (ev st) o.op = .call f args:=fun f args => by
  rw [zCd o.op hev]
  cases ho : o.op
  case load t x =>
   have nob : ∀ rs,act1 X.P rs (ev st) (.load t x) ≠ .call f args:=fun rs h => by
    simp only [act1,zEX,zBs] at h
    repeat' (split at h)
    all_goals cases h
   exact ⟨fun h => (nob _ h).elim,fun h => (nob _ h).elim⟩
  case slice t x lo hi mx => cases mx <;> rfl
  all_goals rfl
 have hgv : ∀ j want,o.guard = some (j,want) -> gval ops (stp st d v' u') j = gval ops st j:=fun j want hg => by
  unfold gval
  cases ht : (ops[j]?).bind (·.dst) with
  | none => rfl
  | some t =>
    have : ev (stp st d v' u') (.tmp t) = ev st (.tmp t):=zGT fun q hq hqt => by
     cases hqt
     exact hd t hq (by simp [Oper.looksAt,hg,ht])
    simp only [this]
 have hgw : gw ops o (stp st d v' u') = gw ops o st:=by
  unfold gw
  cases hg : o.guard with
  | none => rfl
  | some jw => simp only [hgv jw.1 jw.2 hg]
 have hrs : ∀ n,rd.contains n = true \/ wr.contains n = true -> (stp st d v' u').rs n = st.rs n:=fun n hn => by
  rw [zCz]; exact zFD hu hn
 unfold YldG
 rw [hgw]
 refine or_congr (and_congr Iff.rfl ⟨fun h => ?_,fun h => ?_⟩) Iff.rfl
 . exact h.congr (fun x hx => (hev x hx).symm) (fun n hn => (hrs n hn).symm) (fun hl => (hact (by rw [hloads] at hl; exact hl)).symm) fun f args => (hact2 f args).symm
 . exact h.congr hev hrs hact hact2
theorem YldG.names {rd wr : List Nat} {v : V} {u : List (Nat × Res)} (h : YldG X ops rd wr o st v u) : ∀ p ∈ u,wr.contains p.1 = true:=by
 rcases h with ⟨_,h⟩ | ⟨_,_,rfl⟩
 . cases h with
   | app hk => exact fun p hp => by simp at hp; subst hp; exact hk
   | store hk => exact fun p hp => by simp at hp; subst hp; exact hk
   | callB ns h hc hnd ha hb hl hlen => exact fun p hp => List.all_eq_true.1 hl _ (List.of_mem_zip hp).1
   | callX ns h hc hnd ha hb hl => exact fun p hp => List.all_eq_true.1 hl _ (List.of_mem_zip hp).1
   | _ => exact fun p hp => by simp at hp
 . exact fun p hp => by simp at hp
theorem updL_comm {rs : Nat -> Option Res} {u u' : List (Nat × Res)} (h : ∀ p ∈ u,∀ q ∈ u',p.1 ≠ q.1) : updL (updL rs u) u' = updL (updL rs u') u:=by
 have look : ∀ (rs : Nat -> Option Res) (u : List (Nat × Res)) (m : Nat),(∃ p ∈ u,p.1 = m) -> ∀ rs',updL rs u m = updL rs' u m:=by
  intro rs u m hm rs'
  induction u with
  | nil => obtain ⟨p,hp,_⟩:=hm; simp at hp
  | cons x u ih =>
    obtain ⟨k,ρ⟩:=x
    show (if m = k then some ρ else updL rs u m) = if m = k then some ρ else updL rs' u m
    by_cases e : m = k
    . rw [if_pos e,if_pos e]
    . rw [if_neg e,if_neg e]
      obtain ⟨p,hp,he⟩:=hm
      rcases List.mem_cons.1 hp with rfl | hp
      . exact absurd he.symm e
      . exact ih ⟨p,hp,he⟩
 funext m
 by_cases h1 : ∃ p ∈ u,p.1 = m
 . have h2 : ∀ q ∈ u',q.1 ≠ m:=fun q hq e => by
    obtain ⟨p,hp,he⟩:=h1
    exact h p hp q hq (he.trans e.symm)
   rw [zBT h2,look (updL rs u') u m h1 rs]
 . have h3 : ∀ p ∈ u,p.1 ≠ m:=fun p hp e => h1 ⟨p,hp,e⟩
   rw [zBT (rs:=updL rs u') h3]
   by_cases h2 : ∃ q ∈ u',q.1 = m
   . rw [look (updL rs u) u' m h2 rs]
   . have h4 : ∀ q ∈ u',q.1 ≠ m:=fun q hq e => h2 ⟨q,hq,e⟩
     rw [zBT h4,zBT h4,zBT h3]
theorem zFx {d d' : Option Tmp} {v v' : V} {u u' : List (Nat × Res)} (h : ∀ t,d = some t -> d' ≠ some t) (hu : ∀ p ∈ u,∀ q ∈ u',p.1 ≠ q.1) : stp (stp st d v u) d' v' u' = stp (stp st d' v' u') d v u:=by
 have hpr : ∀ (st : Vst nn) (d : Option Tmp) (v : V) (r : Nat -> Option Res),({ (st.put d v) with rs:=r } : Vst nn) = ({ st with rs:=r } : Vst nn).put d v:=fun st d v r => by cases d <;> rfl
 unfold stp
 rw [hpr,hpr,zF5,zF5,updL_comm hu]
 exact put_comm h
variable {rd wr : Nat -> List Nat}
def zDa (ops : Array Oper) (rd wr : Nat -> List Nat) : Bool:=(List.range ops.size).all fun j => (List.range j).all fun i =>
 (zCg (wr i) (rd j) && zCg (wr i) (wr j) && zCg (wr j) (rd i)) || (reachS ops ops.size (zFB ops j)).contains i
def aOpG (X : Cx) (ops : Array Oper) (rd wr : Nat -> List Nat) (i : Nat) (K : Vst nn -> Prop) (st : Vst nn) : Prop:=
 match ops[i]? with
 | none => K st
 | some o => ∃ v u,YldG X ops (rd i) (wr i) o st v u /\ K (stp st o.dst v u)
theorem aOpG_mono {i : Nat} {K K' : Vst nn -> Prop} (h : ∀ st,K st -> K' st) (hh : aOpG X ops rd wr i K st) : aOpG X ops rd wr i K' st:=by
 unfold aOpG at *
 split
 . rename_i hn; simp only [hn] at hh; exact h _ hh
 . rename_i o ho
   simp only [ho] at hh
   obtain ⟨v,u,h1,h2⟩:=hh
   exact ⟨v,u,h1,h _ h2⟩
def absAnyG (X : Cx) (ops : Array Oper) (rd wr : Nat -> List Nat) (Q : Vst nn -> Prop) : Nat -> Array Bool -> Vst nn -> Prop
 | 0,listed,st => Region.ready .any ops listed = [] /\ Q st
 | fuel + 1,listed,st => (Region.ready .any ops listed = [] -> Q st) /\ ∀ i ∈ Region.ready .any ops listed,aOpG X ops rd wr i (absAnyG X ops rd wr Q fuel (listed.setIfInBounds i true)) st
theorem aOpG_put {i j : Nat} {oi oj : Oper} {v : V} {u : List (Nat × Res)} (hj : ops[j]? = some oj) (hap : oi.apart ops oj = true) (hn : zCg (wr i) (rd j) = true /\ zCg (wr i) (wr j) = true /\ zCg (wr j) (rd i) = true) {K : Vst nn -> Prop} (hy : YldG X ops (rd i) (wr i) oi st v u) (h : aOpG X ops rd wr j K (stp st oi.dst v u)) :
 aOpG X ops rd wr j (fun st' => YldG X ops (rd i) (wr i) oi st' v u /\ K (stp st' oi.dst v u)) st:=by
 obtain ⟨h1,h2,h3⟩:=Oper.apart_spec hap
 unfold aOpG at *
 simp only [hj] at *
 obtain ⟨v',u',hy',hK⟩:=h
 have hu : Off (rd j) (wr j) u:=fun p hp => by
  have hw:=hy.names p hp
  refine ⟨?_,?_⟩
  . cases hq : (rd j).contains p.1
    . rfl
    . exact (zBK hn.1 hw hq).elim
  . cases hq : (wr j).contains p.1
    . rfl
    . exact (zBK hn.2.1 hw hq).elim
 have hyj : YldG X ops (rd j) (wr j) oj st v' u':=(YldG.of h1 hu).1 hy'
 have hu' : Off (rd i) (wr i) u':=fun p hp => by
  have hw:=hyj.names p hp
  refine ⟨?_,?_⟩
  . cases hq : (rd i).contains p.1
    . rfl
    . exact (zBK hn.2.2 hw hq).elim
  . cases hq : (wr i).contains p.1
    . rfl
    . exact (zBK hn.2.1 hq hw).elim
 have huu : ∀ p ∈ u,∀ q ∈ u',p.1 ≠ q.1:=fun p hp q hq e => by
  have h5:=hy.names p hp
  have h6:=hyj.names q hq
  rw [<- e] at h6
  exact zBK hn.2.1 h5 h6
 exact ⟨v',u',hyj,(YldG.of h3 hu').2 hy,by rw [<- zFx h2 huu]; exact hK⟩
theorem zFq {Q : Vst nn -> Prop} {i : Nat} {oi : Oper} {v : V} {u : List (Nat × Res)} (hi : ops[i]? = some oi) (hN : zDa ops rd wr = true) :
 ∀ (fuel : Nat) (listed : Array Bool) (st : Vst nn),Closed ops listed -> (∀ j,j < i -> listed.getD j false = true) ->
   (∀ j oj,ops[j]? = some oj -> j ≠ i -> listed.getD j true = false -> (∀ e ∈ oj.after,Region.binds .any e = true -> e.on ≠ i) -> oi.apart ops oj = true) ->
   i ∈ Region.ready .any ops listed -> YldG X ops (rd i) (wr i) oi st v u ->
   absAnyG X ops rd wr Q fuel (listed.setIfInBounds i true) (stp st oi.dst v u) -> absAnyG X ops rd wr Q (fuel + 1) listed st:=by
 intro fuel
 induction fuel with
 | zero =>
   intro listed st _ _ _ hr hy H
   refine ⟨fun h => (by rw [h] at hr; cases hr),fun j hj => ?_⟩
   by_cases hji : j = i
   . subst hji; unfold aOpG; simp only [hi]; exact ⟨v,u,hy,H⟩
   . have:=ready_mono hj hji
     rw [H.1] at this
     cases this
 | succ fuel ih =>
   intro listed st hcl hlow hfree hr hy H
   refine ⟨fun h => (by rw [h] at hr; cases hr),fun j hj => ?_⟩
   by_cases hji : j = i
   . subst hji; unfold aOpG; simp only [hi]; exact ⟨v,u,hy,H⟩
   . have h1:=H.2 j (ready_mono hj hji)
     obtain ⟨hjun,oj,hoj,hall⟩:=mem_ready.1 hj
     have hiun:=(mem_ready.1 hr).1
     have hnot : ∀ e ∈ oj.after,Region.binds .any e = true -> e.on ≠ i:=fun e he hb heq => by
      have h1:=hall e he hb
      rw [heq] at h1
      exact zA5 hiun h1
     have hij : i < j:=by
      rcases Nat.lt_trichotomy i j with h | h | h
      . exact h
      . exact absurd h.symm hji
      . exact (zA5 hjun (hlow j h)).elim
     have hsz : j < ops.size:=(Array.getElem?_eq_some_iff.1 hoj).1
     have hnm : zCg (wr i) (rd j) = true /\ zCg (wr i) (wr j) = true /\ zCg (wr j) (rd i) = true:=by
      have h2:=List.all_eq_true.1 (List.all_eq_true.1 hN j (List.mem_range.2 hsz)) i (List.mem_range.2 hij)
      rw [Bool.or_eq_true] at h2
      rcases h2 with h2 | h2
      . simp only [Bool.and_eq_true] at h2; exact ⟨h2.1.1,h2.1.2,h2.2⟩
      . refine (zA5 hiun (zDm hcl _ _ (fun k hk => ?_) i (by simpa using h2))).elim
        unfold zFB at hk
        rw [hoj] at hk
        obtain ⟨e,he,rfl⟩:=List.mem_map.1 hk
        obtain ⟨h2,h3⟩:=List.mem_filter.1 he
        exact hall e (by simpa using h2) h3
     have h2:=aOpG_put (i:=i) hoj (hfree j oj hoj hji hjun hnot) hnm hy h1
     have hfree' : ∀ k ok,ops[k]? = some ok -> k ≠ i -> (listed.setIfInBounds j true).getD k true = false ->
      (∀ e ∈ ok.after,Region.binds .any e = true -> e.on ≠ i) -> oi.apart ops ok = true:=fun k ok hk hki hun hno => by
      refine hfree k ok hk hki ?_ hno
      by_cases hjk : j = k
      . subst hjk; exact hjun
      . rw [getD_set_ne true hjk] at hun; exact hun
     refine aOpG_mono (fun st' h3 => ih (listed.setIfInBounds j true) st' (hcl.set hj) (fun k hk => getD_set_true (hlow k hk)) hfree' (ready_mono hr (Ne.symm hji)) h3.1 ?_) h2
     rw [Array.setIfInBounds_comm _ _ hji]
     exact h3.2
def absLexG (X : Cx) (ops : Array Oper) (rd wr : Nat -> List Nat) (Q : Vst nn -> Prop) : Nat -> List Oper -> Vst nn -> Prop
 | _,[],st => Q st
 | k,o :: rest,st => ∃ v u,YldG X ops (rd k) (wr k) o st v u /\ absLexG X ops rd wr Q (k + 1) rest (stp st o.dst v u)
theorem zC1 {listed : Array Bool} {k : Nat} (h : k < listed.size) : (listed.setIfInBounds k true).getD k false = true:=by
 simp [Array.getD_eq_getD_getElem?,h]
theorem zER {Q : Vst nn -> Prop} (hN : zDa ops rd wr = true) : ∀ (l : List Oper) (k : Nat) (listed : Array Bool) (st : Vst nn),(∀ j,l[j]? = ops[k + j]?) -> Closed ops listed -> (∀ j,j < k -> listed.getD j false = true) -> listed.size = ops.size ->
 Region.lexFrom .any ops l.length k listed = true -> absLexG X ops rd wr Q k l st -> absAnyG X ops rd wr Q l.length listed st
 | [],_,_,_,_,_,_,_,hB,h => ⟨by simpa [Region.lexFrom] using hB,h⟩
 | o :: l,k,listed,st,hl,hcl,hlow,hsz,hB,h => by
   have h0 : ops[k]? = some o:=by simpa using (hl 0).symm
   have hk : k < ops.size:=(Array.getElem?_eq_some_iff.1 h0).1
   simp only [List.length_cons,Region.lexFrom,Bool.and_eq_true] at hB
   obtain ⟨⟨hr,hf⟩,hB'⟩:=hB
   have hr : k ∈ Region.ready .any ops listed:=by simpa using hr
   obtain ⟨v,u,hy,hK⟩:=h
   exact zFq h0 hN l.length listed st hcl hlow (Region.free_spec h0 hf) hr hy
    (zER hN l (k + 1) _ _ (fun j => by have:=hl (j + 1); simpa [Nat.add_assoc,Nat.add_comm 1 j] using this) (hcl.set hr) (fun j hj => by
      by_cases e : j = k
      . subst e; exact zC1 (by omega)
      . exact getD_set_true (hlow j (by omega))) (by simpa using hsz) hB' hK)
theorem zBR {Q : Vst nn -> Prop} {Q' : Exit -> Act -> World -> Prop} (hP : PQ X nn Q') (hQ : ∀ st' s' w' a',Inv X st' s' w' a' -> Q st' -> Q' .normal a' w') : ∀ (fuel : Nat) (listed : Array Bool) (st : Vst nn) (s : Sg) (w : World) (a : Act),Inv X st s w a ->
 absAnyG X ops rd wr Q fuel listed st -> wpAny X.P .any ops Q' fuel listed a w
 | 0,_,_,_,_,_,hI,h => ⟨h.1,hQ _ _ _ _ hI h.2⟩
 | fuel + 1,listed,st,s,w,a,hI,h => ⟨fun h0 => hQ _ _ _ _ hI (h.1 h0),fun i hi => by
   have h1:=h.2 i hi
   unfold aOpG at h1
   unfold wpOp
   cases ho : ops[i]? with
   | none =>
     simp only [ho] at h1 |-
     exact zBR hP hQ fuel _ st s w a hI h1
   | some o =>
     simp only [ho] at h1 |-
     obtain ⟨v,u,hy,hK⟩:=h1
     rcases hy with ⟨hg,hy⟩ | ⟨hg,rfl,rfl⟩
     . rw [if_pos (zFW hg hI)]
       exact .inl (zGB (K:=absAnyG X ops rd wr Q fuel (listed.setIfInBounds i true)) hy hK s w a hI _ _ hP fun st' s' w' a' hI' hK' => zBR hP hQ fuel _ st' s' w' a' hI' hK')
     . rw [if_neg (by rw [zFW hg hI]; simp)]
       exact zBR hP hQ fuel _ _ s w (a.put o.dst undef) (hI.put o.dst (by simp [rel])) hK⟩
def nmf (l : List (Nat × List Nat)) (k : Nat) : List Nat:=match l.find? (fun p => p.1 == k) with | some p => p.2 | none => []
theorem aw_drawG (r w : List (Nat × List Nat)) {id : Nat} {l : List Oper} {K : Exit -> Vst nn -> Prop} (hm : X.P.follows .mixedOrders = true) (hB : Region.lexB .any l.toArray = true) (hN : zDa l.toArray (nmf r) (nmf w) = true) (h : absLexG X l.toArray (nmf r) (nmf w) (K .normal) 0 l st) : AW X (.region id l.toArray true) st K:=fun s wd a hI => by
 simp only [Region.lexB,Bool.and_eq_true] at hB
 refine wp_region_any hm (zBR (rd:=nmf r) (wr:=nmf w) (Q:=K .normal) (fun pv st' s' w' a' hI' hp => ⟨st',s',hI',.inr ⟨pv,rfl,hp⟩⟩) (fun st' s' w' a' hI' hK => ⟨st',s',hI',.inl hK⟩) _ _ st s _ a hI.drew ?_)
 have:=zER (X:=X) (rd:=nmf r) (wr:=nmf w) (Q:=K .normal) hN l 0 (Array.replicate l.toArray.size false) st (by simp) (fun k o _ hk => by
  have e : (Array.replicate l.toArray.size false).getD k false = false:=by
   rw [Array.getD_eq_getD_getElem?,Array.getElem?_replicate]
   split <;> rfl
  rw [e] at hk; cases hk) (fun j hj => absurd hj (Nat.not_lt_zero j)) (by simp) (by simpa using hB.2) h
 simpa using this
def Dead (st : Vst nn) : Prop:=∃ m t,st.rs m = some (.box t [.c (.tuple #[])])
theorem Dead.no {s : Sg} {w : World} {a : Act} (h : Dead st) (hI : Inv X st s w a) : False:=by
 obtain ⟨m,t,h1⟩:=h
 obtain ⟨b,cs,-,-,h2,-⟩:=hI.mem.ho m _ h1
 cases hc : cs.toList with
 | nil => rw [hc] at h2; simp [relL] at h2
 | cons x r =>
   rw [hc,relL,rel] at h2
   exact h2.1.2
section
variable {l : List Oper} {Q : Vst nn -> Prop} {d : Option Tmp} {k : Nat}
theorem zFa (h : Q st) : absLexG X ops rd wr Q k [] st:=h
theorem zEr {p : Prop} {v : V} (v' : V) (hg : o.guard = none) (hd : o.dst = d) (h : act1 X.P st.rs (ev st) o.op = .val p v) (hle : VLe v v') (hK : absLexG X ops rd wr Q (k + 1) l (st.put d v')) (hp : p) (hl : inO (rd k) (loads (ev st) o.op) = true) : absLexG X ops rd wr Q k (o :: l) st:=
 ⟨v',[],.inl ⟨by simp [gw,hg],.valW h hle hp hl⟩,by rw [hd]; exact hK⟩
theorem zFZ {p : Prop} {v : V} (hg : o.guard = none) (hd : o.dst = d) (h : act1 X.P st.rs (ev st) o.op = .val p v) (hK : absLexG X ops rd wr Q (k + 1) l (st.put d v)) (hp : p) (hl : inO (rd k) (loads (ev st) o.op) = true) : absLexG X ops rd wr Q k (o :: l) st:=
 ⟨v,[],.inl ⟨by simp [gw,hg],.val h hp hl⟩,by rw [hd]; exact hK⟩
theorem zC8 {f : FuncId} {args : List V} {r : V} (hg : o.guard = none) (hd : o.dst = d) (h : act1 X.P st.rs (ev st) o.op = .call f args) (hc : AC X.e X.P f (outL args) r) (hK : absLexG X ops rd wr Q (k + 1) l (st.put d r)) : absLexG X ops rd wr Q k (o :: l) st:=
 ⟨r,[],.inl ⟨by simp [gw,hg],.call h hc⟩,by rw [hd]; exact hK⟩
theorem g_lit {t e : TypeId} {by_ m : Nat} {parts : Array (Nat × Operand)} (ds : List D) (hg : o.guard = none) (ho : o.op = .buildSlice t m parts) (hd : o.dst = d) (he : zAX X.P t = some (e,by_)) (hn : m = ds.length) (hsm : Nat.ble (m * X.P.cellsOf e) (2 ^ 24) = true)
 (hp : zCk X.P e (ev st) parts.toList 0 ds) (hK : absLexG X ops rd wr Q (k + 1) l (st.put d (.lit e ds))) : absLexG X ops rd wr Q k (o :: l) st:=
 ⟨_,[],.inl ⟨by simp [gw,hg],.lit ho he hn (Nat.le_of_ble_eq_true hsm) hp⟩,by rw [hd]; exact hK⟩
theorem stp_two {v : V} {us : List (Nat × Res)} : stp st d v us = ({ st with rs:=updL st.rs us } : Vst nn).put d v:=rfl
theorem g_callB {f : FuncId} {vargs args : List V} {bs bs' : List Res} {r : V} (ns : List Nat) (hg : o.guard = none) (hd : o.dst = d) (h : act1 X.P st.rs (ev st) o.op = .call f vargs) (hc : ACB X.e X.P f args bs r bs') (hnd : ns.Nodup) (ha : renL (φin ns) vargs = args) (hb : ns.map (fun n => (st.rs n).map (renR (φin ns))) = bs.map some)
 (hlen : bs'.length = ns.length) (hl : ns.all (fun n => (wr k).contains n) = true) (hK : absLexG X ops rd wr Q (k + 1) l ((st.resN ns (bs'.map (renR (φout ns)))).put d (renV (φout ns) r))) : absLexG X ops rd wr Q k (o :: l) st:=
 ⟨_,_,.inl ⟨by simp [gw,hg],.callB ns h hc hnd ha hb hl hlen⟩,by rw [hd,stp_two,zFC hnd (by simpa using hlen)]; exact hK⟩
theorem zFb {t e : TypeId} {by_ q : Nat} {x y : Operand} {l1 l2 : List D} (hg : o.guard = none) (ho : o.op = .call { callee:=.builtin .append,args:=#[x,y],argTypes:=#[t,t] }) (hd : o.dst = d) (he : zAX X.P t = some (e,by_))
 (hleaf : ∀ d,(cellsV X.P 12 e d).all V.leaf = true) (hx : ev st x = .own q e l1) (hw : (wr k).contains q = true) (hr : st.rs q = some (.tok e l1.length)) (hy : (ev st y).out = .sl e l2) (hK : absLexG X ops rd wr Q (k + 1) l ((st.res q (.tok e (l1.length + l2.length))).put d (.own q e (l1 ++ l2))))
 (hp : 0 < l2.length /\ l1.length + l2.length <= maxLen /\ (l1.length + l2.length) * by_ <= 140737488355328) : absLexG X ops rd wr Q k (o :: l) st:=
 ⟨_,_,.inl ⟨by simp [gw,hg],.app hw ho he hleaf hx hr hy hp⟩,by rw [hd,zBY]; exact hK⟩
theorem zB3 {t : TypeId} {x y : Operand} {m off : Nat} {t' : TypeId} {vs xs : List V} (hg : o.guard = none) (ho : o.op = .store t x y) (hd : o.dst = none) (hx : ev st x = .bx m off) (hw : (wr k).contains m = true) (hr : st.rs m = some (.box t' vs)) (hc : cellsOf (ev st y) = some xs)
 (hs : X.P.cellsOf t = xs.length /\ (X.P.info? t).isSome) (hl : Nat.ble (off + xs.length) vs.length = true) (hK : absLexG X ops rd wr Q (k + 1) l (st.res m (.box t' (splice vs off xs)))) : absLexG X ops rd wr Q k (o :: l) st:=
 ⟨_,_,.inl ⟨by simp [gw,hg],.store hw ho hd hx hr hc hs (Nat.le_of_ble_eq_true hl)⟩,by rw [hd,zBY]; exact hK⟩
end
end
end Go.Proofs.YtdlnnlglmifceaaGreatDoor
namespace Go.Proofs.YtdlnnlglmifceaaGreatDoor
open Go.RowKit
attribute [local irreducible] wpList Calls Code.wp
section
variable {X : Cx} {nn : Nat} {st : Vst nn} {o : Oper} {ops : Array Oper} {l : List Oper} {d : Option Tmp} {KK : Vst nn -> Prop}
theorem zAI {j : Nat} {want b : Bool} (hg : o.guard = some (j,want)) (hd : o.dst = d) (hb : gval ops st j = some b) (hne : (b == want) = false) (hK : AWo X ops l (st.put d (.tup [])) KK) : AWo X ops (o :: l) st KK:=fun s w a hI Q hP hQ => by
 have hy:=zG3 hb hI
 refine wpList_step fun K' hK' => ?_
 have hwt : Region.wanted o (yielded ops a.tmps) = (b == want):=by simp [Region.wanted,hg,hy]
 rw [hwt,if_neg (by rw [hne]; decide)]
 exact hK' _ _ (hK s w (a.put o.dst undef) (by rw [hd]; exact hI.put d (by rw [rel]; exact ⟨#[],rfl,by simp [relL]⟩)) Q hP hQ)
theorem zAy {j : Nat} {want : Bool} {t : Tmp} (hg : o.guard = some (j,want)) (hd : o.dst = d) (ht : (ops[j]?).bind (·.dst) = some t) (hu : ev st (.tmp t) = .tup []) (hK : AWo X ops l (st.put d (.tup [])) KK) : AWo X ops (o :: l) st KK:=fun s w a hI Q hP hQ => by
 have hr:=hI.ev (.tmp t)
 rw [hu,rel] at hr
 have he : a.tmps.getD t undef = undef:=by
  obtain ⟨cs,h1,h2⟩:=hr
  have : cs = #[]:=by
   apply Array.ext'
   cases hc : cs.toList with
   | nil => rfl
   | cons x xs => rw [hc] at h2; simp [relL] at h2
  have h3 : a.tmps.getD t undef = .tuple cs:=h1
  rw [h3,this]; rfl
 have hy : yielded ops a.tmps j = none:=by
  unfold yielded
  rw [ht]
  simp only [Option.bind_some]
  rw [Array.getD_eq_getD_getElem?] at he
  cases hq : a.tmps[t]? with
  | none => simp
  | some u => rw [hq] at he; simp at he; rw [he]; rfl
 refine wpList_step fun K' hK' => ?_
 have hwt : Region.wanted o (yielded ops a.tmps) = false:=by simp [Region.wanted,hg,hy]
 rw [hwt,if_neg (by decide)]
 exact hK' _ _ (hK s w (a.put o.dst undef) (by rw [hd]; exact hI.put d (by rw [rel]; exact ⟨#[],rfl,by simp [relL]⟩)) Q hP hQ)
theorem zf {j : Nat} {want b : Bool} {p : Prop} {v : V} (hg : o.guard = some (j,want)) (hd : o.dst = d) (hb : gval ops st j = some b) (h : act1 X.P st.rs (ev st) o.op = .val p v) (hK : (b == want) = true -> AWo X ops l (st.put d v) KK) (hp : (b == want) = true -> p)
 (hN : (b == want) = false -> AWo X ops l (st.put d (.tup [])) KK) : AWo X ops (o :: l) st KK:=by
 cases e : b == want
 . exact zAI hg hd hb e (hN e)
 . exact zS hg hd hb e h (hK e) (hp e)
theorem zu {j : Nat} {want b : Bool} {f : FuncId} {args : List V} {r : V} (hg : o.guard = some (j,want)) (hd : o.dst = d) (hb : gval ops st j = some b) (h : act1 X.P st.rs (ev st) o.op = .call f args) (hc : AC X.e X.P f (outL args) r) (hK : (b == want) = true -> AWo X ops l (st.put d r) KK)
 (hN : (b == want) = false -> AWo X ops l (st.put d (.tup [])) KK) : AWo X ops (o :: l) st KK:=by
 cases e : b == want
 . exact zAI hg hd hb e (hN e)
 . exact zR hg hd hb e h hc (hK e)
end
section
variable {X : Cx} {nn : Nat} {st : Vst nn} {o : Oper} {ops : Array Oper} {l : List Oper} {dst : Option Tmp} {KK : Vst nn -> Prop}
theorem zAL {j : Nat} {want b b' : Bool} {c x y : Operand} (hg : o.guard = some (j,want)) (ho : o.op = .pick c x y) (hd : o.dst = dst) (hb : gval ops st j = some b) (hne : (b == want) = true) (hc : ev st c = .c (.bool b')) (hb' : b' = true) (hK : AWo X ops l (st.put dst (ev st x)) KK) : AWo X ops (o :: l) st KK:=
 zBw hg hb (fun _ => zBL ho hc (by rw [hd,hb']; exact hK)) fun e => (e (by simpa using hne)).elim
theorem zAM {j : Nat} {want b b' : Bool} {c x y : Operand} (hg : o.guard = some (j,want)) (ho : o.op = .pick c x y) (hd : o.dst = dst) (hb : gval ops st j = some b) (hne : (b == want) = true) (hc : ev st c = .c (.bool b')) (hb' : b' = false) (hK : AWo X ops l (st.put dst (ev st y)) KK) : AWo X ops (o :: l) st KK:=
 zBw hg hb (fun _ => zBL ho hc (by rw [hd,hb']; exact hK)) fun e => (e (by simpa using hne)).elim
end
end Go.Proofs.YtdlnnlglmifceaaGreatDoor
namespace Go.Proofs.YtdlnnlglmifceaaGreatDoor
open Go.RowKit
attribute [local irreducible] wpList Calls Code.wp
section
variable {X : Cx} {nn : Nat} {st : Vst nn} {o : Oper} {ops : Array Oper} {l : List Oper} {KK : Vst nn -> Prop}
def w1 (X : Cx) (ops : Array Oper) (l : List Oper) (st : Vst nn) (o : Oper) (KK : Vst nn -> Prop) : Prop:=
 match act1 X.P st.rs (ev st) o.op with
 | .val p v => AWo X ops l (st.put o.dst v) KK /\ p
 | .call _ _ => False
 | .bad => match o.op with
   | .alloc t => match o.dst with
     | some m => match zDp X.P t with
       | some vs => match Nat.ble m 999999 && freeL m vs with
         | true => AWo X ops l (((st.kill m).res m (.box t vs)).put (some m) (.bx m 0)) KK /\ True
         | false => False
       | none => False
     | none => False
   | .pick c x y => match ev st c with
     | .c (.bool b) => match b with
       | true => AWo X ops l (st.put o.dst (ev st x)) KK /\ True
       | false => AWo X ops l (st.put o.dst (ev st y)) KK /\ True
     | _ => False
   | _ => False
theorem w1_ok (h : w1 X ops l st o KK) : OpOk X o st (fun st' => AWo X ops l st' KK):=by
 unfold w1 at h
 split at h
 . rename_i p v e
   exact zC5 e h.2 h.1
 . exact h.elim
 . split at h
   . rename_i t ho
     split at h
     . rename_i m hd
       split at h
       . rename_i vs hz
         split at h
         . rename_i hb
           rw [Bool.and_eq_true] at hb
           exact zDK ho hd hb.1 hz hb.2 h.1
         . exact h.elim
       . exact h.elim
     . exact h.elim
   . rename_i c x y ho
     split at h
     . rename_i b hc
       split at h
       . exact zBL ho hc h.1
       . exact zBL ho hc h.1
     . exact h.elim
   . exact h.elim
def w2 (X : Cx) (ops : Array Oper) (l : List Oper) (st : Vst nn) (o : Oper) (KK : Vst nn -> Prop) : Prop:=
 match o.guard with
 | none => w1 X ops l st o KK
 | some (j,want) => match (ops[j]?).bind (·.dst) with
   | some t => match ev st (.tmp t) with
     | .c (.bool b) => match b == want with
       | true => w1 X ops l st o KK
       | false => AWo X ops l (st.put o.dst (.tup [])) KK /\ True
     | .tup [] => AWo X ops l (st.put o.dst (.tup [])) KK /\ True
     | _ => False
   | none => False
theorem s_1 (h : w2 X ops l st o KK) : AWo X ops (o :: l) st KK:=by
 unfold w2 at h
 split at h
 . rename_i hg
   exact zAs hg (w1_ok h)
 . rename_i j want hg
   split at h
   . rename_i t ht
     split at h
     . rename_i b hb
       have hv : gval ops st j = some b:=by unfold gval; rw [ht]; dsimp only; rw [hb]
       split at h
       . rename_i e
         exact zBw hg hv (fun _ => w1_ok h) fun q => (q (by simpa using e)).elim
       . rename_i e
         exact zAI hg rfl hv e h.1
     . rename_i hb
       exact zAy hg rfl ht hb h.1
     . exact h.elim
   . exact h.elim
def w3 (X : Cx) (c : Code) (st : Vst nn) (K : Exit -> Vst nn -> Prop) : Prop:=
 match c with
 | .seq x y => AW X x st (seqK X y K) /\ True
 | .block id c => AW X c st (zAi id K) /\ True
 | .scope c => AW X c st (zAp K) /\ True
 | .skip => K .normal st /\ True
 | .label _ => K .normal st /\ True
 | .ret => K .ret st /\ True
 | .exit id => K (.exit id) st /\ True
 | .cond c x y => match ev st c with
   | .c (.bool b) => match b with
     | true => AW X x st K /\ True
     | false => AW X y st K /\ True
   | _ => False
 | _ => False
theorem aw_1 {c : Code} {K : Exit -> Vst nn -> Prop} (h : w3 X c st K) : AW X c st K:=by
 unfold w3 at h
 split at h
 . exact zIH h.1
 . exact zFm h.1
 . exact zFk h.1
 . exact zHG h.1
 . exact zFl h.1
 . exact zn h.1
 . exact zb h.1
 . rename_i c x y
   split at h
   . rename_i b hc
     split at h
     . exact zW hc (fun _ => h.1) fun e => by cases e
     . exact zW hc (fun e => by cases e) fun _ => h.1
   . exact h.elim
 . exact h.elim
end
end Go.Proofs.YtdlnnlglmifceaaGreatDoor
namespace Go.Proofs.YtdlnnlglmifceaaGreatDoor
open Go.RowKit
attribute [local irreducible] wpList Calls Code.wp
section
variable {X : Cx} {nn : Nat} {st : Vst nn} {o : Oper} {ops : Array Oper} {l : List Oper} {d : Option Tmp} {KK : Vst nn -> Prop} {Q : Vst nn -> Prop} {rd wr : Nat -> List Nat} {k : Nat}
theorem zBC (n : Nat) (r w : List (Nat × List Nat)) {id : Nat} {l : List Oper} {K : Exit -> Vst nn -> Prop} (hn : l.length = n) (hm : X.P.follows .mixedOrders = true) (hB : Region.lexB .any l.toArray = true) (hN : zDa l.toArray (nmf r) (nmf w) = true) (h : absLexG X l.toArray (nmf r) (nmf w) (K .normal) 0 l st) : AW X (.region id l.toArray true) st K:=
 aw_drawG r w hm hB hN h
theorem Sub.ownF {m q i : Nat} {t e : TypeId} {vs : List V} (hq : Nat.ble q 999999 = true) (hmq : m ≠ q) (hr : st.rs m = some (.box t vs)) (hv : vs[i]? = some (.c (.slice none 0 0))) (hf : freeL q vs = true) :
 Sub X st (((st.kill q).res q (.tok e 0)).res m (.box t (vs.set i (.own q e [])))):=fun s w a hI => by
 have hI':=hI.kill q
 let s' : Sg:={ s with tb:=fun p => if p = q then none else s.tb p,tk:=fun p => if p = q then (.slice none 0 0,0) else s.tk p }
 have hx : Ext (fun p => p = q) s w s' w:=⟨Keeps.refl,fun _ _ => rfl,fun p hp => .inl (by show (if p = q then _ else s.tk p) = _; rw [if_neg hp])⟩
 have hbk : ∀ p ρ,p ≠ q -> s'.bk p ρ = s.bk p ρ:=fun p ρ hp => by
  funext x; cases ρ <;> simp [Sg.bk,s',hp]
 have hkm : (st.kill q).rs m = some (.box t vs):=by
  simp only [Vst.kill]
  rw [if_neg hmq,hr]
  simp [Res.free,hf]
 have hget : ∀ p ρ,(((st.kill q).res q (.tok e 0)).res m (.box t (vs.set i (.own q e [])))).rs p = some ρ -> (p = m /\ ρ = .box t (vs.set i (.own q e []))) \/ (p = q /\ ρ = .tok e 0) \/ (p ≠ m /\ p ≠ q /\ (st.kill q).rs p = some ρ):=fun p ρ hp => by
  simp only [Vst.res,updR] at hp
  split at hp
  . rename_i h1; cases hp; exact .inl ⟨h1,rfl⟩
  . rename_i h1
    split at hp
    . rename_i h2; cases hp; exact .inr (.inl ⟨h2,rfl⟩)
    . rename_i h2; exact .inr (.inr ⟨h1,h2,hp⟩)
 have hbm : ∀ b,s'.bk m (.box t (vs.set i (.own q e []))) b -> s.bk m (.box t vs) b:=fun b h => h
 refine ⟨s',hI.sz,fun j hj => ?_,hI.df,hI.fr,hI.kp,hI.nf,?_,hI.pe.ext hx fun p hp => by subst hp; exact Nat.le_of_ble_eq_true hq⟩
 . exact rel.ext hx _ _ (zAw (hI.tm j hj)).1 fun n hn => by subst hn; exact (zAw (hI.tm j hj)).2
 . refine ⟨hI.mem.fx,fun p ρ hp => ?_,fun p ρ b hp hb => ?_,fun p r ρ ρ' b hp hr' hpb hrb => ?_⟩
   . rcases hget p ρ hp with ⟨rfl,rfl⟩ | ⟨rfl,rfl⟩ | ⟨h1,h2,h3⟩
     . obtain ⟨b,cs,q1,q2,q3,q4⟩:=(hI'.mem.ho p _ hkm).keep hx hmq (by simp [s',hmq]) (by simp [s',hmq]) (fun n hn => by subst hn; exact hf) (fun _ _ => rfl) (fun _ _ _ h => h)
       refine ⟨b,cs,q1,q2,?_,q4⟩
       have hlt : i < vs.length:=(List.getElem?_eq_some_iff.1 hv).1
       have hlt2 : i < cs.toList.length:=by rw [<- q3.length]; exact hlt
       have hu:=q3.get i _ _ hv (List.getElem?_eq_getElem hlt2)
       rw [rel] at hu
       have hset : cs.toList.set i (.slice none 0 0) = cs.toList:=by
        rw [<- hu.1]; exact List.set_getElem_self hlt2
       have h5:=q3.set i (v:=.own q e []) (u:=.slice none 0 0) (by
        rw [rel]
        refine ⟨⟨0,none,0,rfl,Nat.le_refl _,by decide,fun _ => rfl,fun h => by simp at h⟩,?_,?_⟩
        . simp [s']
        . intro _; simp [s'])
       rw [hset] at h5
       exact h5
     . exact ⟨by simp [s'],.inl ⟨by simp [s'],by simp [s'],rfl⟩⟩
     . exact (hI'.mem.ho p ρ h3).keep hx h2 (by simp [s',h2]) (by simp [s',h2]) (fun n hn => by subst hn; exact zC7 st n p h3) (fun _ _ => rfl) (fun _ _ _ h => h)
   . rcases hget p ρ hp with ⟨rfl,rfl⟩ | ⟨rfl,rfl⟩ | ⟨h1,h2,h3⟩
     . exact hI'.mem.bs p _ b hkm hb
     . simp [Sg.bk,s'] at hb
     . rw [hbk p ρ h2] at hb; exact hI'.mem.bs p ρ b h3 hb
   . rcases hget p ρ hp with ⟨rfl,rfl⟩ | ⟨rfl,rfl⟩ | ⟨h1,h2,h3⟩ <;> rcases hget r ρ' hr' with ⟨rfl,rfl⟩ | ⟨rfl,rfl⟩ | ⟨g1,g2,g3⟩
     . rfl
     . simp [Sg.bk,s'] at hrb
     . rw [hbk r ρ' g2] at hrb; exact hI'.mem.dj p r _ _ b hkm g3 hpb hrb
     . simp [Sg.bk,s'] at hpb
     . rfl
     . simp [Sg.bk,s'] at hpb
     . rw [hbk p ρ h2] at hpb; exact hI'.mem.dj p r _ _ b h3 hkm hpb hrb
     . simp [Sg.bk,s'] at hrb
     . rw [hbk p ρ h2] at hpb; rw [hbk r ρ' g2] at hrb; exact hI'.mem.dj p r _ _ b h3 g3 hpb hrb
end
end Go.Proofs.YtdlnnlglmifceaaGreatDoor
namespace Go.Proofs.YtdlnnlglmifceaaGreatDoor
open Go.RowKit
attribute [local irreducible] wpList Calls Code.wp
section
variable {P : Program} {s : Sg} {w w' : World} {pas : Nat -> Prop} {B : Nat} {rs : Nat -> Option Res}
theorem zGy (h : MemOk P pas B rs s w) (cur : Array Value) (e : TypeId) (n : Nat) : Keeps s.F (fun b o => s.F b o \/ (b = w.heap.size /\ o < n)) w (w.alloc (.cells cur e)):=fun b o hF =>
 ⟨(zA7 (w:=w) (h.fx b o hF)).trans rfl,.inl hF⟩
theorem MemOk.tokNew0 (h : MemOk P pas B rs s w) (hB : B <= w.heap.size) {k : Nat} (X : Nat -> Prop) (hX : ∀ q,X q -> q = k) (hf : ∀ q ρ,q ≠ k -> rs q = some ρ -> ∀ n,X n -> ρ.free n = true) {cur : Array Value} {e : TypeId} {c m : Nat} (hc : cur.size = c * P.cellsOf e) (hm : m <= c) (hmx : c <= maxLen)
 (hx : Ext X s w (s.tok k w.heap.size (m * P.cellsOf e) (.slice (some ⟨w.heap.size,0,none⟩) m c) m) (w.alloc (.cells cur e))) :
 MemOk P pas B (updR rs k (.tok e m)) (s.tok k w.heap.size (m * P.cellsOf e) (.slice (some ⟨w.heap.size,0,none⟩) m c) m) (w.alloc (.cells cur e)) where
 fx b o hF:=by
  rcases hF with hF | ⟨rfl,hF⟩
  . rw [zA7 (w:=w) (h.fx b o hF)]; exact h.fx b o hF
  . have : o < cur.size:=by rw [hc]; exact Nat.lt_of_lt_of_le hF (Nat.mul_le_mul_right _ hm)
    have h2:=zBU (w:=w) (t:=e) (Array.getElem?_eq_getElem this)
    exact Option.isSome_iff_exists.2 ⟨_,h2⟩
 ho q ρ hq:=by
  by_cases e' : q = k
  . subst e'
    simp only [updR,if_true] at hq
    cases hq
    refine ⟨by simp [Sg.tok],.inr ⟨w.heap.size,c,cur,by simp [Sg.tok],by simp [Sg.tok],heap_alloc_new w _,hm,hmx,hc,fun o ho hF => ?_⟩⟩
    rcases hF with hF | ⟨_,hF⟩
    . obtain ⟨v,hv⟩:=Option.isSome_iff_exists.1 (h.fx _ o hF)
      have:=block_lt_of_cell hv
      simp at this
    . omega
  . simp only [updR,if_neg e'] at hq
    refine (h.ho q ρ hq).keep hx (fun hXq => e' (hX q hXq)) (by simp [Sg.tok,e']) (by simp [Sg.tok,e']) (fun n hn => hf q ρ e' hq n hn) (fun b hb => Below.heap_alloc w _ _ ((h.ho q ρ hq).lt hb)) (fun b o hb hF => ?_)
    rcases hF with hF | ⟨rfl,_⟩
    . exact hF
    . have:=(h.ho q ρ hq).lt hb; omega
 bs q ρ b hq hb:=by
  by_cases e' : q = k
  . subst e'
    simp only [updR,if_true] at hq
    cases hq
    simp only [Sg.bk,Sg.tok,if_true] at hb
    cases hb; exact .inl hB
  . simp only [updR,if_neg e'] at hq
    rw [zBP e'] at hb
    exact h.bs q ρ b hq hb
 dj q r ρ ρ' b hq hr hqb hrb:=by
  by_cases e1 : q = k <;> by_cases e2 : r = k
  . rw [e1,e2]
  . simp only [updR,if_neg e2] at hr
    rw [zBP e2] at hrb
    subst e1
    simp only [updR,if_true] at hq
    cases hq
    simp only [Sg.bk,Sg.tok,if_true] at hqb
    cases hqb
    have:=(h.ho r ρ' hr).lt hrb
    omega
  . simp only [updR,if_neg e1] at hq
    rw [zBP e1] at hqb
    subst e2
    simp only [updR,if_true] at hr
    cases hr
    simp only [Sg.bk,Sg.tok,if_true] at hrb
    cases hrb
    have:=(h.ho q ρ hq).lt hqb
    omega
  . simp only [updR,if_neg e1] at hq
    simp only [updR,if_neg e2] at hr
    rw [zBP e1] at hqb
    rw [zBP e2] at hrb
    exact h.dj q r ρ ρ' b hq hr hqb hrb
end
section
variable {X : Cx} {nn : Nat} {st : Vst nn} {o : Oper} {K : Vst nn -> Prop}
theorem opOk_lit0 {t e : TypeId} {by_ d : Nat} (ho : o.op = .buildSlice t 0 #[]) (hd : o.dst = some d) (hdl : Nat.ble d 999999 = true) (he : zAX X.P t = some (e,by_))
 (hK : K (((st.kill d).res d (.tok e 0)).put (some d) (.own d e []))) : OpOk X o st K:=by
 intro s w a hI N Q hP hN
 obtain ⟨hu,hlay,i,z,hi,hz,hb,hpos,hzs,hsz⟩:=zBe he
 have ha : (Instr.buildSlice t 0 #[]).run X.P w = .ok (.slice (some ⟨w.heap.size,0,none⟩) 0 0) (w.alloc (.cells #[] e)):=by
  simp [Instr.buildSlice,run_underlying hu,sizeOf,typeInfo,hi,Instr.fill,newRow]
  have hr0 : Array.map (fun _ : Nat => (default : Value)) (Array.range 0) = #[]:=by apply Array.ext <;> simp
  rw [hr0]
 unfold Oper.wp
 have hrun : (execOp a.eval o).run X.P w = .ok (.value (.slice (some ⟨w.heap.size,0,none⟩) 0 0)) (w.alloc (.cells #[] e)):=by simp [execOp,ho,ha]
 rw [hrun,Oper.upon_value,hd]
 have hI':=hI.kill d
 have hkeep : Keeps s.F (s.tok d w.heap.size (0 * X.P.cellsOf e) (.slice (some ⟨w.heap.size,0,none⟩) 0 0) 0).F w (w.alloc (.cells #[] e)):=zGy hI.mem _ e _
 have hext : Ext (fun m => m = d) s w (s.tok d w.heap.size (0 * X.P.cellsOf e) (.slice (some ⟨w.heap.size,0,none⟩) 0 0) 0) (w.alloc (.cells #[] e)):=
  ⟨hkeep,fun _ _ => rfl,fun q hq => .inl (by simp only [Sg.tok]; rw [if_neg hq])⟩
 have hmem:=hI'.mem.tokNew0 hI.base (k:=d) (fun m => m = d) (fun _ h => h) zEA (cur:=#[]) (c:=0) (m:=0) (by simp) (Nat.le_refl _) (Nat.zero_le _) hext
 refine hN _ _ _ _ (Inv.put (st:=(st.kill d).res d (.tok e 0)) (v:=.own d e []) ⟨hI.sz,fun i hi => ?_,hI.df,hI.fr.trans (zC9 w _ _) (q:=fun _ => False) (fun _ h => h.elim),hI.kp.trans hkeep,fun b o hb hnp hF => ?_,hmem,hI.pe.ext hext fun m hm => by subst hm; exact Nat.le_of_ble_eq_true hdl⟩ (some d) ?_) hK
 . exact rel.ext hext _ _ (zAw (hI.tm i hi)).1 fun n hn => by subst hn; exact (zAw (hI.tm i hi)).2
 . rcases hF with hF | ⟨rfl,_⟩
   . exact hI.nf b o hb hnp hF
   . have:=hI.base; omega
 . rw [rel]
   exact ⟨zBo (l:=[]) (Nat.le_refl _) (Nat.zero_le _) fun k hk => absurd hk (Nat.not_lt_zero k),by simp [Sg.tok],fun _ => by simp [Sg.tok]⟩
theorem zDh {t e : TypeId} {by_ k : Nat} {x y : Operand} {l : List D} (ho : o.op = .call { callee:=.builtin .append,args:=#[x,y],argTypes:=#[t,t] }) (he : zAX X.P t = some (e,by_))
 (hx : ev st x = .own k e l) (hy : (ev st y).out = .sl e []) (hK : K (st.put o.dst (.own k e l))) : OpOk X o st K:=by
 intro s w a hI N Q hP hN
 obtain ⟨hu,hlay,i,z,hi,hz,hb,hsp,hzs,hsz⟩:=zBe he
 have hxe:=hI.ev x
 rw [hx,rel] at hxe
 obtain ⟨k1,A,c1,hA,hc1,-,-,-⟩:=id hxe.1
 unfold Oper.wp
 have hye:=rel.out _ _ (hI.ev y)
 rw [hy,rel] at hye
 obtain ⟨k2,A2,c2,hy2,-,-,-,-⟩:=hye
 have hrun : (Builtin.append_ #[t,t] o.type #[a.eval x,a.eval y]).run X.P w = .ok (a.eval x) w:=by
  rw [hA,hy2]
  have hsz : (sizeOf e).run X.P w = .ok (X.P.cellsOf e) w:=by simp [sizeOf,typeInfo,hi,hsz]
  have hld : ∀ q,(loadCells q 0).run X.P w = .ok #[] w:=fun q => by simp [loadCells,loadCellsFrom]
  cases A <;> cases A2 <;> simp [Builtin.append_,run_underlying hu,hsz,Builtin.lenOf,Builtin.firstCells,storeCells,hld,Nat.not_lt.2 hc1]
 rw [zBH ho hrun,Oper.upon_value]
 refine hN _ _ _ _ (hI.put o.dst ?_) hK
 rw [rel]
 exact hxe
theorem res_same0 {k : Nat} {ρ : Res} (h : st.rs k = some ρ) : st.res k ρ = st:=by
 have e : (st.res k ρ).rs = st.rs:=funext fun m => by
  show updR st.rs k ρ m = _
  unfold updR
  split
  . rename_i e; rw [e,h]
  . rfl
 calc st.res k ρ = ⟨(st.res k ρ).tm,(st.res k ρ).rs⟩:=rfl
  _ = st:=by rw [e]; rfl
theorem zGD {t e : TypeId} {by_ k : Nat} {x y : Operand} {l l2 : List D} (ho : o.op = .call { callee:=.builtin .append,args:=#[x,y],argTypes:=#[t,t] }) (he : zAX X.P t = some (e,by_))
 (hleaf : ∀ d,(cellsV X.P 12 e d).all V.leaf = true) (hx : ev st x = .own k e l) (hr : st.rs k = some (.tok e l.length)) (hy : (ev st y).out = .sl e l2) (hlen : l.length + l2.length <= maxLen) (hby : (l.length + l2.length) * by_ <= 140737488355328)
 (hK : K ((st.res k (.tok e (l.length + l2.length))).put o.dst (.own k e (l ++ l2)))) : OpOk X o st K:=by
 rcases Nat.eq_zero_or_pos l2.length with h0 | h0
 . have hl0 : l2 = []:=List.eq_nil_of_length_eq_zero h0
   subst hl0
   rw [List.length_nil,Nat.add_zero,res_same0 hr,List.append_nil] at hK
   exact zDh ho he hx hy hK
 . exact zA9 ho he hleaf hx hr hy h0 hlen hby hK
end
end Go.Proofs.YtdlnnlglmifceaaGreatDoor
namespace Go.Proofs.YtdlnnlglmifceaaGreatDoor
open Go.RowKit
attribute [local irreducible] wpList Calls Code.wp
section
variable {X : Cx} {nn : Nat} {st : Vst nn} {ops : Array Oper} {o : Oper}
def Fresh (st : Vst nn) (d : Nat) : Prop:=(∀ i,(st.tm i).free d = true) /\ ∀ m ρ,st.rs m = some ρ -> m ≠ d /\ ρ.free d = true
theorem zEs {d : Nat} (h : Fresh st d) : st.kill d = st:=by
 have e1 : (st.kill d).tm = st.tm:=funext fun i => by
  show zGx d (st.tm i) = _
  unfold zGx; rw [if_pos (h.1 i)]
 have e2 : (st.kill d).rs = st.rs:=funext fun m => by
  unfold Vst.kill
  dsimp only
  cases hm : st.rs m with
  | none => split <;> rfl
  | some ρ =>
    have:=h.2 m ρ hm
    rw [if_neg this.1]
    simp [this.2]
 calc st.kill d = ⟨(st.kill d).tm,(st.kill d).rs⟩:=rfl
  _ = st:=by rw [e1,e2]
theorem zGq {t : TypeId} {d : Nat} {vs : List V} {K : Vst nn -> Prop} (ho : o.op = .alloc t) (hd : o.dst = some d) (hdl : Nat.ble d 999999 = true) (hc : zDp X.P t = some vs) (hf : freeL d vs = true) (hfr : Fresh st d)
 (hK : K ((st.res d (.box t vs)).put (some d) (.bx d 0))) : OpOk X o st K:=by
 refine zDK ho hd hdl hc hf ?_
 rw [zEs hfr]; exact hK
theorem zGP {d : Nat} {t : Option Tmp} {v : V} {u : List (Nat × Res)} (h : Fresh st d) (hv : v.free d = true) (hu : ∀ p ∈ u,p.1 ≠ d /\ p.2.free d = true) : Fresh (stp st t v u) d:=by
 unfold stp
 have hr : ∀ m ρ,updL st.rs u m = some ρ -> m ≠ d /\ ρ.free d = true:=by
  intro m ρ hm
  induction u with
  | nil => exact h.2 m ρ hm
  | cons x u ih =>
    obtain ⟨k,ρ'⟩:=x
    change (if m = k then some ρ' else updL st.rs u m) = some ρ at hm
    split at hm
    . rename_i e
      cases hm
      have:=hu (k,ρ) (List.mem_cons_self ..)
      exact ⟨by rw [e]; exact this.1,this.2⟩
    . exact ih (fun p hp => hu p (List.mem_cons_of_mem _ hp)) hm
 cases t with
 | none => exact ⟨h.1,hr⟩
 | some t =>
   refine ⟨fun i => ?_,hr⟩
   show (if i = t then v else st.tm i).free d = true
   split
   . exact hv
   . exact h.1 i
theorem fresh_put {d : Nat} {t : Option Tmp} {v : V} (h : Fresh st d) (hv : v.free d = true) : Fresh (st.put t v) d:=zGP (u:=[]) h hv (fun _ hp => by cases hp)
theorem fresh_res {d m : Nat} {ρ : Res} (h : Fresh st d) (hm : Nat.beq m d = false) (hv : ρ.free d = true) : Fresh (st.res m ρ) d:=by
 refine ⟨h.1,fun q ρ' hq => ?_⟩
 change updR st.rs m ρ q = some ρ' at hq
 unfold updR at hq
 split at hq
 . rename_i e
   cases hq
   subst e
   exact ⟨fun e2 => by rw [e2] at hm; simp at hm,hv⟩
 . exact h.2 q ρ' hq
theorem fresh_S {d : Nat} {cs : List (Nat × V)} {R : List (Nat × Res)} (h : (cs.all (fun p => p.2.free d) && R.all fun p => !(Nat.beq p.1 d) && p.2.free d) = true) : Fresh (stS nn cs R) d:=by
 rw [Bool.and_eq_true,List.all_eq_true,List.all_eq_true] at h
 refine ⟨fun i => ?_,fun m ρ hm => ?_⟩
 . simp only [stS]
   split
   . rename_i p hp; exact h.1 p (List.mem_of_find?_eq_some hp)
   . rfl
 . simp only [stS] at hm
   split at hm
   . rename_i p hp
     have he:=List.find?_some hp
     simp at he
     cases hm
     have:=h.2 p (List.mem_of_find?_eq_some hp)
     rw [Bool.and_eq_true] at this
     refine ⟨fun e => ?_,this.2⟩
     rw [he,e] at this
     simp at this
   . cases hm
theorem opOk_lit0F {t e : TypeId} {by_ d : Nat} {K : Vst nn -> Prop} (ho : o.op = .buildSlice t 0 #[]) (hd : o.dst = some d) (hdl : Nat.ble d 999999 = true) (he : zAX X.P t = some (e,by_)) (hfr : Fresh st d)
 (hK : K ((st.res d (.tok e 0)).put (some d) (.own d e []))) : OpOk X o st K:=by
 refine opOk_lit0 ho hd hdl he ?_
 rw [zEs hfr]; exact hK
def nfB (fr : List Nat) (v : V) (u : List (Nat × Res)) : Bool:=fr.all fun d => v.free d && u.all fun p => !(Nat.beq p.1 d) && p.2.free d
inductive YldA (X : Cx) (ops : Array Oper) (fr rd wr : List Nat) (o : Oper) (st : Vst nn) : V -> List (Nat × Res) -> Prop where
 | old {v : V} {u : List (Nat × Res)} (h : YldG X ops rd wr o st v u) (hf : nfB fr v u = true) : YldA X ops fr rd wr o st v u
 | alloc {t : TypeId} {d : Nat} {vs : List V} (hg : o.guard = none) (ho : o.op = .alloc t) (hd : o.dst = some d) (hdl : Nat.ble d 999999 = true) (hc : zDp X.P t = some vs) (hfd : freeL d vs = true) (hw : wr.contains d = true) (hf : nfB fr (.bx d 0) [(d,.box t vs)] = true) : YldA X ops fr rd wr o st (.bx d 0) [(d,.box t vs)]
 | lit0 {t e : TypeId} {by_ d : Nat} (hg : o.guard = none) (ho : o.op = .buildSlice t 0 #[]) (hd : o.dst = some d) (hdl : Nat.ble d 999999 = true) (he : zAX X.P t = some (e,by_)) (hw : wr.contains d = true) (hf : nfB fr (.own d e []) [(d,.tok e 0)] = true) : YldA X ops fr rd wr o st (.own d e []) [(d,.tok e 0)]
 | app {t e : TypeId} {by_ k : Nat} {x y : Operand} {l l2 : List D} (hg : o.guard = none) (hw : wr.contains k = true) (ho : o.op = .call { callee:=.builtin .append,args:=#[x,y],argTypes:=#[t,t] }) (he : zAX X.P t = some (e,by_)) (hleaf : ∀ d,(cellsV X.P 12 e d).all V.leaf = true)
    (hx : ev st x = .own k e l) (hr : st.rs k = some (.tok e l.length)) (hy : (ev st y).out = .sl e l2) (hp : l.length + l2.length <= maxLen /\ (l.length + l2.length) * by_ <= 140737488355328) (hf : nfB fr (.own k e (l ++ l2)) [(k,.tok e (l.length + l2.length))] = true) :
    YldA X ops fr rd wr o st (.own k e (l ++ l2)) [(k,.tok e (l.length + l2.length))]
theorem YldA.of {fr rd wr : List Nat} {d : Option Tmp} {v v' : V} {u u' : List (Nat × Res)} (hd : ∀ t,d = some t -> t ∉ o.looksAt ops) (hu : Off rd wr u') :
 YldA X ops fr rd wr o (stp st d v' u') v u ↔ YldA X ops fr rd wr o st v u:=by
 have evs : ∀ x ∈ o.op.operands,ev (stp st d v' u') x = ev st x:=fun x hx => zGT fun t ht hxt => hd t ht (by
  subst hxt
  exact List.mem_append_left _ (List.mem_filterMap.2 ⟨.tmp t,by simpa using hx,rfl⟩))
 have hrs : ∀ n,wr.contains n = true -> (stp st d v' u').rs n = st.rs n:=fun n hn => by
  rw [zCz]; exact zFD hu (.inr hn)
 constructor
 . intro h
   cases h with
   | old h hf => exact .old ((YldG.of hd hu).1 h) hf
   | alloc hg ho hd' hdl hc hfd hw hf => exact .alloc hg ho hd' hdl hc hfd hw hf
   | lit0 hg ho hd' hdl he hw hf => exact .lit0 hg ho hd' hdl he hw hf
   | app hg hw ho he hleaf hx hr hy hp hf =>
     rw [evs _ (by rw [ho]; simp [Op.operands,Call.operands])] at hx
     rw [evs _ (by rw [ho]; simp [Op.operands,Call.operands])] at hy
     rw [hrs _ hw] at hr
     exact .app hg hw ho he hleaf hx hr hy hp hf
 . intro h
   cases h with
   | old h hf => exact .old ((YldG.of hd hu).2 h) hf
   | alloc hg ho hd' hdl hc hfd hw hf => exact .alloc hg ho hd' hdl hc hfd hw hf
   | lit0 hg ho hd' hdl he hw hf => exact .lit0 hg ho hd' hdl he hw hf
   | app hg hw ho he hleaf hx hr hy hp hf =>
     rw [<- evs _ (by rw [ho]; simp [Op.operands,Call.operands])] at hx
     rw [<- evs _ (by rw [ho]; simp [Op.operands,Call.operands])] at hy
     rw [<- hrs _ hw] at hr
     exact .app hg hw ho he hleaf hx hr hy hp hf
theorem YldA.names {fr rd wr : List Nat} {v : V} {u : List (Nat × Res)} (h : YldA X ops fr rd wr o st v u) : ∀ p ∈ u,wr.contains p.1 = true:=by
 cases h with
 | old h hf => exact h.names
 | alloc hg ho hd' hdl hc hfd hw hf => exact fun p hp => by simp at hp; subst hp; exact hw
 | lit0 hg ho hd' hdl he hw hf => exact fun p hp => by simp at hp; subst hp; exact hw
 | app hg hw ho he hleaf hx hr hy hp hf => exact fun p hp => by simp at hp; subst hp; exact hw
theorem YldA.nf {fr rd wr : List Nat} {v : V} {u : List (Nat × Res)} (h : YldA X ops fr rd wr o st v u) : nfB fr v u = true:=by
 cases h with
 | old h hf => exact hf
 | alloc hg ho hd' hdl hc hfd hw hf => exact hf
 | lit0 hg ho hd' hdl he hw hf => exact hf
 | app hg hw ho he hleaf hx hr hy hp hf => exact hf
theorem nfB_ok {fr : List Nat} {v : V} {u : List (Nat × Res)} (h : nfB fr v u = true) {d : Nat} (hd : d ∈ fr) : v.free d = true /\ ∀ p ∈ u,p.1 ≠ d /\ p.2.free d = true:=by
 have:=List.all_eq_true.1 h d hd
 rw [Bool.and_eq_true,List.all_eq_true] at this
 refine ⟨this.1,fun p hp => ?_⟩
 have h2:=this.2 p hp
 rw [Bool.and_eq_true] at h2
 exact ⟨fun e => by rw [e] at h2; simp at h2,h2.2⟩
variable {fr rd wr : Nat -> List Nat}
def aOpH (X : Cx) (ops : Array Oper) (fr rd wr : Nat -> List Nat) (i : Nat) (K : Vst nn -> Prop) (st : Vst nn) : Prop:=
 match ops[i]? with
 | none => K st
 | some o => ∃ v u,YldA X ops (fr i) (rd i) (wr i) o st v u /\ K (stp st o.dst v u)
theorem aOpH_mono {i : Nat} {K K' : Vst nn -> Prop} (h : ∀ st,K st -> K' st) (hh : aOpH X ops fr rd wr i K st) : aOpH X ops fr rd wr i K' st:=by
 unfold aOpH at *
 split
 . rename_i hn; simp only [hn] at hh; exact h _ hh
 . rename_i o ho
   simp only [ho] at hh
   obtain ⟨v,u,h1,h2⟩:=hh
   exact ⟨v,u,h1,h _ h2⟩
def absAnyH (X : Cx) (ops : Array Oper) (fr rd wr : Nat -> List Nat) (Q : Vst nn -> Prop) : Nat -> Array Bool -> Vst nn -> Prop
 | 0,listed,st => Region.ready .any ops listed = [] /\ Q st
 | fuel + 1,listed,st => (Region.ready .any ops listed = [] -> Q st) /\ ∀ i ∈ Region.ready .any ops listed,aOpH X ops fr rd wr i (absAnyH X ops fr rd wr Q fuel (listed.setIfInBounds i true)) st
theorem aOpH_put {i j : Nat} {oi oj : Oper} {v : V} {u : List (Nat × Res)} (hj : ops[j]? = some oj) (hap : oi.apart ops oj = true) (hn : zCg (wr i) (rd j) = true /\ zCg (wr i) (wr j) = true /\ zCg (wr j) (rd i) = true) {K : Vst nn -> Prop} (hy : YldA X ops (fr i) (rd i) (wr i) oi st v u) (h : aOpH X ops fr rd wr j K (stp st oi.dst v u)) :
 aOpH X ops fr rd wr j (fun st' => YldA X ops (fr i) (rd i) (wr i) oi st' v u /\ K (stp st' oi.dst v u)) st:=by
 obtain ⟨h1,h2,h3⟩:=Oper.apart_spec hap
 unfold aOpH at *
 simp only [hj] at *
 obtain ⟨v',u',hy',hK⟩:=h
 have hu : Off (rd j) (wr j) u:=fun p hp => by
  have hw:=hy.names p hp
  refine ⟨?_,?_⟩
  . cases hq : (rd j).contains p.1
    . rfl
    . exact (zBK hn.1 hw hq).elim
  . cases hq : (wr j).contains p.1
    . rfl
    . exact (zBK hn.2.1 hw hq).elim
 have hyj : YldA X ops (fr j) (rd j) (wr j) oj st v' u':=(YldA.of h1 hu).1 hy'
 have hu' : Off (rd i) (wr i) u':=fun p hp => by
  have hw:=hyj.names p hp
  refine ⟨?_,?_⟩
  . cases hq : (rd i).contains p.1
    . rfl
    . exact (zBK hn.2.2 hw hq).elim
  . cases hq : (wr i).contains p.1
    . rfl
    . exact (zBK hn.2.1 hq hw).elim
 have huu : ∀ p ∈ u,∀ q ∈ u',p.1 ≠ q.1:=fun p hp q hq e => by
  have h5:=hy.names p hp
  have h6:=hyj.names q hq
  rw [<- e] at h6
  exact zBK hn.2.1 h5 h6
 exact ⟨v',u',hyj,(YldA.of h3 hu').2 hy,by rw [<- zFx h2 huu]; exact hK⟩
theorem zFp {Q : Vst nn -> Prop} {i : Nat} {oi : Oper} {v : V} {u : List (Nat × Res)} (hi : ops[i]? = some oi) (hN : zDa ops rd wr = true) :
 ∀ (fuel : Nat) (listed : Array Bool) (st : Vst nn),Closed ops listed -> (∀ j,j < i -> listed.getD j false = true) ->
   (∀ j oj,ops[j]? = some oj -> j ≠ i -> listed.getD j true = false -> (∀ e ∈ oj.after,Region.binds .any e = true -> e.on ≠ i) -> oi.apart ops oj = true) ->
   i ∈ Region.ready .any ops listed -> YldA X ops (fr i) (rd i) (wr i) oi st v u ->
   absAnyH X ops fr rd wr Q fuel (listed.setIfInBounds i true) (stp st oi.dst v u) -> absAnyH X ops fr rd wr Q (fuel + 1) listed st:=by
 intro fuel
 induction fuel with
 | zero =>
   intro listed st _ _ _ hr hy H
   refine ⟨fun h => (by rw [h] at hr; cases hr),fun j hj => ?_⟩
   by_cases hji : j = i
   . subst hji; unfold aOpH; simp only [hi]; exact ⟨v,u,hy,H⟩
   . have:=ready_mono hj hji
     rw [H.1] at this
     cases this
 | succ fuel ih =>
   intro listed st hcl hlow hfree hr hy H
   refine ⟨fun h => (by rw [h] at hr; cases hr),fun j hj => ?_⟩
   by_cases hji : j = i
   . subst hji; unfold aOpH; simp only [hi]; exact ⟨v,u,hy,H⟩
   . have h1:=H.2 j (ready_mono hj hji)
     obtain ⟨hjun,oj,hoj,hall⟩:=mem_ready.1 hj
     have hiun:=(mem_ready.1 hr).1
     have hnot : ∀ e ∈ oj.after,Region.binds .any e = true -> e.on ≠ i:=fun e he hb heq => by
      have h1:=hall e he hb
      rw [heq] at h1
      exact zA5 hiun h1
     have hij : i < j:=by
      rcases Nat.lt_trichotomy i j with h | h | h
      . exact h
      . exact absurd h.symm hji
      . exact (zA5 hjun (hlow j h)).elim
     have hsz : j < ops.size:=(Array.getElem?_eq_some_iff.1 hoj).1
     have hnm : zCg (wr i) (rd j) = true /\ zCg (wr i) (wr j) = true /\ zCg (wr j) (rd i) = true:=by
      have h2:=List.all_eq_true.1 (List.all_eq_true.1 hN j (List.mem_range.2 hsz)) i (List.mem_range.2 hij)
      rw [Bool.or_eq_true] at h2
      rcases h2 with h2 | h2
      . simp only [Bool.and_eq_true] at h2; exact ⟨h2.1.1,h2.1.2,h2.2⟩
      . refine (zA5 hiun (zDm hcl _ _ (fun k hk => ?_) i (by simpa using h2))).elim
        unfold zFB at hk
        rw [hoj] at hk
        obtain ⟨e,he,rfl⟩:=List.mem_map.1 hk
        obtain ⟨h2,h3⟩:=List.mem_filter.1 he
        exact hall e (by simpa using h2) h3
     have h2:=aOpH_put (i:=i) hoj (hfree j oj hoj hji hjun hnot) hnm hy h1
     have hfree' : ∀ k ok,ops[k]? = some ok -> k ≠ i -> (listed.setIfInBounds j true).getD k true = false ->
      (∀ e ∈ ok.after,Region.binds .any e = true -> e.on ≠ i) -> oi.apart ops ok = true:=fun k ok hk hki hun hno => by
      refine hfree k ok hk hki ?_ hno
      by_cases hjk : j = k
      . subst hjk; exact hjun
      . rw [getD_set_ne true hjk] at hun; exact hun
     refine aOpH_mono (fun st' h3 => ih (listed.setIfInBounds j true) st' (hcl.set hj) (fun k hk => getD_set_true (hlow k hk)) hfree' (ready_mono hr (Ne.symm hji)) h3.1 ?_) h2
     rw [Array.setIfInBounds_comm _ _ hji]
     exact h3.2
def absLexH (X : Cx) (ops : Array Oper) (fr rd wr : Nat -> List Nat) (Q : Vst nn -> Prop) : Nat -> List Oper -> Vst nn -> Prop
 | _,[],st => Q st
 | k,o :: rest,st => ∃ v u,YldA X ops (fr k) (rd k) (wr k) o st v u /\ absLexH X ops fr rd wr Q (k + 1) rest (stp st o.dst v u)
theorem zEQ {Q : Vst nn -> Prop} (hN : zDa ops rd wr = true) : ∀ (l : List Oper) (k : Nat) (listed : Array Bool) (st : Vst nn),(∀ j,l[j]? = ops[k + j]?) -> Closed ops listed -> (∀ j,j < k -> listed.getD j false = true) -> listed.size = ops.size ->
 Region.lexFrom .any ops l.length k listed = true -> absLexH X ops fr rd wr Q k l st -> absAnyH X ops fr rd wr Q l.length listed st
 | [],_,_,_,_,_,_,_,hB,h => ⟨by simpa [Region.lexFrom] using hB,h⟩
 | o :: l,k,listed,st,hl,hcl,hlow,hsz,hB,h => by
   have h0 : ops[k]? = some o:=by simpa using (hl 0).symm
   have hk : k < ops.size:=(Array.getElem?_eq_some_iff.1 h0).1
   simp only [List.length_cons,Region.lexFrom,Bool.and_eq_true] at hB
   obtain ⟨⟨hr,hf⟩,hB'⟩:=hB
   have hr : k ∈ Region.ready .any ops listed:=by simpa using hr
   obtain ⟨v,u,hy,hK⟩:=h
   exact zFp h0 hN l.length listed st hcl hlow (Region.free_spec h0 hf) hr hy
    (zEQ hN l (k + 1) _ _ (fun j => by have:=hl (j + 1); simpa [Nat.add_assoc,Nat.add_comm 1 j] using this) (hcl.set hr) (fun j hj => by
      by_cases e : j = k
      . subst e; exact zC1 (by omega)
      . exact getD_set_true (hlow j (by omega))) (by simpa using hsz) hB' hK)
def frOf (ops : Array Oper) (R : List (Nat × Nat)) (j : Nat) : List Nat:=(R.filter fun p => !(Nat.beq p.1 j) && !(reachS ops ops.size (zFB ops j)).contains p.1).map (·.2)
theorem zCu (R : List (Nat × Nat)) (hR : ∀ i o t d,ops[i]? = some o -> (o.op = .alloc t \/ o.op = .buildSlice t 0 #[]) -> o.dst = some d -> (i,d) ∈ R) {Q : Vst nn -> Prop} {Q' : Exit -> Act -> World -> Prop} (hP : PQ X nn Q') (hQ : ∀ st' s' w' a',Inv X st' s' w' a' -> Q st' -> Q' .normal a' w') : ∀ (fuel : Nat) (listed : Array Bool) (st : Vst nn) (s : Sg) (w : World) (a : Act),Closed ops listed -> (∀ p ∈ R,listed.getD p.1 true = false -> Fresh st p.2) -> Inv X st s w a ->
 absAnyH X ops (frOf ops R) rd wr Q fuel listed st -> wpAny X.P .any ops Q' fuel listed a w
 | 0,_,_,_,_,_,_,_,hI,h => ⟨h.1,hQ _ _ _ _ hI h.2⟩
 | fuel + 1,listed,st,s,w,a,hcl,hfr,hI,h => ⟨fun h0 => hQ _ _ _ _ hI (h.1 h0),fun i hi => by
   have h1:=h.2 i hi
   obtain ⟨hiun,oi,hoi,hall⟩:=mem_ready.1 hi
   unfold aOpH at h1
   unfold wpOp
   simp only [hoi] at h1 |-
   obtain ⟨v,u,hy,hK⟩:=h1
   have hnf:=hy.nf
   have hfr' : ∀ p ∈ R,(listed.setIfInBounds i true).getD p.1 true = false -> Fresh (stp st oi.dst v u) p.2:=fun p hp hl => by
    have hne : p.1 ≠ i:=fun e => by
     rw [e] at hl
     have hsz : i < listed.size \/ ¬ i < listed.size:=Nat.lt_or_ge i listed.size |>.imp id fun h => by omega
     rw [Array.getD_eq_getD_getElem?,Array.getElem?_setIfInBounds] at hl
     rcases hsz with hsz | hsz
     . simp [hsz] at hl
     . simp [hsz] at hl
    have hl2 : listed.getD p.1 true = false:=by rwa [getD_set_ne true (Ne.symm hne)] at hl
    have hmem : p.2 ∈ frOf ops R i:=by
     refine List.mem_map.2 ⟨p,List.mem_filter.2 ⟨hp,?_⟩,rfl⟩
     rw [Bool.and_eq_true]
     refine ⟨by cases hb : Nat.beq p.1 i; rfl; exact (hne (Nat.eq_of_beq_eq_true hb)).elim,?_⟩
     rw [Bool.not_eq_true']
     cases hq : (reachS ops ops.size (zFB ops i)).contains p.1
     . rfl
     . refine (zA5 hl2 (zDm hcl _ _ (fun k hk => ?_) p.1 (by simpa using hq))).elim
       unfold zFB at hk
       rw [hoi] at hk
       obtain ⟨e,he,rfl⟩:=List.mem_map.1 hk
       obtain ⟨h2,h3⟩:=List.mem_filter.1 he
       exact hall e (by simpa using h2) h3
    have:=nfB_ok hnf hmem
    exact zGP (hfr p hp hl2) this.1 this.2
   have go : ∀ {st' : Vst nn} {s' w' a'},Inv X st' s' w' a' -> (absAnyH X ops (frOf ops R) rd wr Q fuel (listed.setIfInBounds i true) st' /\ ∀ p ∈ R,(listed.setIfInBounds i true).getD p.1 true = false -> Fresh st' p.2) -> wpAny X.P .any ops Q' fuel (listed.setIfInBounds i true) a' w':=
    fun hI' hK' => zCu R hR hP hQ fuel _ _ _ _ _ (hcl.set hi) hK'.2 hI' hK'.1
   cases hy with
   | old hy hf =>
     rcases hy with ⟨hg,hy⟩ | ⟨hg,rfl,rfl⟩
     . rw [if_pos (zFW hg hI)]
       exact .inl (zGB (K:=fun st' => absAnyH X ops (frOf ops R) rd wr Q fuel (listed.setIfInBounds i true) st' /\ ∀ p ∈ R,(listed.setIfInBounds i true).getD p.1 true = false -> Fresh st' p.2) hy ⟨hK,hfr'⟩ s w a hI _ _ hP fun st' s' w' a' hI' hK' => go hI' hK')
     . rw [if_neg (by rw [zFW hg hI]; simp)]
       exact go (hI.put oi.dst (by simp [rel])) ⟨hK,hfr'⟩
   | alloc hg ho hd hdl hc hfd hw hf =>
     rename_i t d vs
     rw [if_pos (zFW (by simp [gw,hg]) hI)]
     have hst : stp st oi.dst (.bx d 0) [(d,.box t vs)] = ((st.res d (.box t vs)).put (some d) (.bx d 0)):=by rw [zBY,hd]
     refine .inl (zGq (K:=fun st' => absAnyH X ops (frOf ops R) rd wr Q fuel (listed.setIfInBounds i true) st' /\ ∀ p ∈ R,(listed.setIfInBounds i true).getD p.1 true = false -> Fresh st' p.2) ho hd hdl hc hfd (hfr _ (hR i oi t d hoi (.inl ho) hd) hiun) ?_ s w a hI _ _ hP fun st' s' w' a' hI' hK' => go hI' hK')
     rw [<- hst]
     exact ⟨hK,hfr'⟩
   | lit0 hg ho hd hdl he hw hf =>
     rename_i t e by_ d
     rw [if_pos (zFW (by simp [gw,hg]) hI)]
     have hst : stp st oi.dst (.own d e []) [(d,.tok e 0)] = ((st.res d (.tok e 0)).put (some d) (.own d e [])):=by rw [zBY,hd]
     refine .inl (opOk_lit0F (K:=fun st' => absAnyH X ops (frOf ops R) rd wr Q fuel (listed.setIfInBounds i true) st' /\ ∀ p ∈ R,(listed.setIfInBounds i true).getD p.1 true = false -> Fresh st' p.2) ho hd hdl he (hfr _ (hR i oi t d hoi (.inr ho) hd) hiun) ?_ s w a hI _ _ hP fun st' s' w' a' hI' hK' => go hI' hK')
     rw [<- hst]
     exact ⟨hK,hfr'⟩
   | app hg hw ho he hleaf hx hr hy hp hf =>
     rename_i t e by_ k x y l l2
     rw [if_pos (zFW (by simp [gw,hg]) hI)]
     have hst : stp st oi.dst (.own k e (l ++ l2)) [(k,.tok e (l.length + l2.length))] = ((st.res k (.tok e (l.length + l2.length))).put oi.dst (.own k e (l ++ l2))):=zBY
     refine .inl (zGD (K:=fun st' => absAnyH X ops (frOf ops R) rd wr Q fuel (listed.setIfInBounds i true) st' /\ ∀ p ∈ R,(listed.setIfInBounds i true).getD p.1 true = false -> Fresh st' p.2) ho he hleaf hx hr hy hp.1 hp.2 ?_ s w a hI _ _ hP fun st' s' w' a' hI' hK' => go hI' hK')
     rw [<- hst]
     exact ⟨hK,hfr'⟩⟩
theorem aw_drawH (r w : List (Nat × List Nat)) (R : List (Nat × Nat)) {id : Nat} {l : List Oper} {K : Exit -> Vst nn -> Prop} (hm : X.P.follows .mixedOrders = true) (hB : Region.lexB .any l.toArray = true) (hN : zDa l.toArray (nmf r) (nmf w) = true)
 (hR : ∀ i o t d,l.toArray[i]? = some o -> (o.op = .alloc t \/ o.op = .buildSlice t 0 #[]) -> o.dst = some d -> (i,d) ∈ R) (hF : ∀ p ∈ R,Fresh st p.2) (h : absLexH X l.toArray (frOf l.toArray R) (nmf r) (nmf w) (K .normal) 0 l st) : AW X (.region id l.toArray true) st K:=fun s wd a hI => by
 simp only [Region.lexB,Bool.and_eq_true] at hB
 have hlow : ∀ k,(Array.replicate l.toArray.size false).getD k false = false:=fun k => by
  rw [Array.getD_eq_getD_getElem?,Array.getElem?_replicate]
  split <;> rfl
 refine wp_region_any hm (zCu R hR (rd:=nmf r) (wr:=nmf w) (Q:=K .normal) (fun pv st' s' w' a' hI' hp => ⟨st',s',hI',.inr ⟨pv,rfl,hp⟩⟩) (fun st' s' w' a' hI' hK => ⟨st',s',hI',.inl hK⟩) _ _ st s _ a (fun k o _ hk => by rw [hlow k] at hk; cases hk) (fun p hp _ => hF p hp) hI.drew ?_)
 have:=zEQ (X:=X) (fr:=frOf l.toArray R) (rd:=nmf r) (wr:=nmf w) (Q:=K .normal) hN l 0 (Array.replicate l.toArray.size false) st (by simp) (fun k o _ hk => by rw [hlow k] at hk; cases hk) (fun j hj => absurd hj (Nat.not_lt_zero j)) (by simp) (by simpa using hB.2) h
 simpa using this
def allocsB (ops : Array Oper) (R : List (Nat × Nat)) : Bool:=(List.range ops.size).all fun i => match ops[i]? with
 | some o => (match o.op,o.dst with | .alloc _,some d => R.contains (i,d) | .buildSlice _ _ _,some d => R.contains (i,d) | _,_ => true)
 | none => true
theorem allocsB_ok {R : List (Nat × Nat)} (h : allocsB ops R = true) : ∀ i o t d,ops[i]? = some o -> (o.op = .alloc t \/ o.op = .buildSlice t 0 #[]) -> o.dst = some d -> (i,d) ∈ R:=fun i o t d hi ho hd => by
 have:=List.all_eq_true.1 h i (List.mem_range.2 (Array.getElem?_eq_some_iff.1 hi).1)
 rw [hi] at this
 rcases ho with ho | ho
 . simp only [ho,hd] at this
   simpa using this
 . simp only [ho,hd] at this
   simpa using this
theorem zCc (r w : List (Nat × List Nat)) (R : List (Nat × Nat)) {id : Nat} {l : List Oper} {K : Exit -> Vst nn -> Prop} (hm : X.P.follows .mixedOrders = true) (hB : Region.lexB .any l.toArray = true) (hN : zDa l.toArray (nmf r) (nmf w) = true)
 (hA : allocsB l.toArray R = true) (hF : ∀ p ∈ R,Fresh st p.2) (h : absLexH X l.toArray (frOf l.toArray R) (nmf r) (nmf w) (K .normal) 0 l st) : AW X (.region id l.toArray true) st K:=
 aw_drawH r w R hm hB hN (allocsB_ok hA) hF h
section
variable {l : List Oper} {Q : Vst nn -> Prop} {d : Option Tmp} {k : Nat}
theorem h_nil (h : Q st) : absLexH X ops fr rd wr Q k [] st:=h
theorem h_val {p : Prop} {v : V} (hg : o.guard = none) (hd : o.dst = d) (h : act1 X.P st.rs (ev st) o.op = .val p v) (hf : nfB (fr k) v [] = true) (hK : absLexH X ops fr rd wr Q (k + 1) l (st.put d v)) (hp : p) (hl : inO (rd k) (loads (ev st) o.op) = true) : absLexH X ops fr rd wr Q k (o :: l) st:=
 ⟨v,[],.old (.inl ⟨by simp [gw,hg],.val h hp hl⟩) hf,by rw [hd]; exact hK⟩
theorem zDO {t : TypeId} {m : Nat} {vs : List V} (hg : o.guard = none) (ho : o.op = .alloc t) (hd : o.dst = some m) (hdl : Nat.ble m 999999 = true) (hc : zDp X.P t = some vs) (hfd : freeL m vs = true) (hw : (wr k).contains m = true) (hf : nfB (fr k) (.bx m 0) [(m,.box t vs)] = true)
 (hK : absLexH X ops fr rd wr Q (k + 1) l ((st.res m (.box t vs)).put (some m) (.bx m 0))) : absLexH X ops fr rd wr Q k (o :: l) st:=
 ⟨_,_,.alloc hg ho hd hdl hc hfd hw hf,by rw [zBY,hd]; exact hK⟩
theorem zDN {t : TypeId} {x y : Operand} {m off : Nat} {t' : TypeId} {vs xs : List V} (hg : o.guard = none) (ho : o.op = .store t x y) (hd : o.dst = none) (hx : ev st x = .bx m off) (hw : (wr k).contains m = true) (hr : st.rs m = some (.box t' vs)) (hc : cellsOf (ev st y) = some xs)
 (hs : X.P.cellsOf t = xs.length /\ (X.P.info? t).isSome) (hl : Nat.ble (off + xs.length) vs.length = true) (hf : nfB (fr k) .any [(m,.box t' (splice vs off xs))] = true) (hK : absLexH X ops fr rd wr Q (k + 1) l (st.res m (.box t' (splice vs off xs)))) : absLexH X ops fr rd wr Q k (o :: l) st:=
 ⟨_,_,.old (.inl ⟨by simp [gw,hg],.store hw ho hd hx hr hc hs (Nat.le_of_ble_eq_true hl)⟩) hf,by rw [hd,zBY]; exact hK⟩
theorem h_lit0 {t e : TypeId} {by_ m : Nat} (hg : o.guard = none) (ho : o.op = .buildSlice t 0 #[]) (hd : o.dst = some m) (hdl : Nat.ble m 999999 = true) (he : zAX X.P t = some (e,by_)) (hw : (wr k).contains m = true) (hf : nfB (fr k) (.own m e []) [(m,.tok e 0)] = true)
 (hK : absLexH X ops fr rd wr Q (k + 1) l ((st.res m (.tok e 0)).put (some m) (.own m e []))) : absLexH X ops fr rd wr Q k (o :: l) st:=
 ⟨_,_,.lit0 hg ho hd hdl he hw hf,by rw [zBY,hd]; exact hK⟩
theorem h_app {t e : TypeId} {by_ q : Nat} {x y : Operand} {l1 l2 : List D} (hg : o.guard = none) (ho : o.op = .call { callee:=.builtin .append,args:=#[x,y],argTypes:=#[t,t] }) (hd : o.dst = d) (he : zAX X.P t = some (e,by_))
 (hleaf : ∀ d,(cellsV X.P 12 e d).all V.leaf = true) (hx : ev st x = .own q e l1) (hw : (wr k).contains q = true) (hr : st.rs q = some (.tok e l1.length)) (hy : (ev st y).out = .sl e l2) (hf : nfB (fr k) (.own q e (l1 ++ l2)) [(q,.tok e (l1 ++ l2).length)] = true)
 (hK : absLexH X ops fr rd wr Q (k + 1) l ((st.res q (.tok e (l1 ++ l2).length)).put d (.own q e (l1 ++ l2))))
 (hp : l1.length + l2.length <= maxLen /\ (l1.length + l2.length) * by_ <= 140737488355328) : absLexH X ops fr rd wr Q k (o :: l) st:=
 ⟨_,_,.app hg hw ho he hleaf hx hr hy hp (by rw [<- List.length_append]; exact hf),by rw [hd,zBY,<- List.length_append]; exact hK⟩
end
end
end Go.Proofs.YtdlnnlglmifceaaGreatDoor
namespace Go.Proofs.YtdlnnlglmifceaaGreatDoor
def sepB (c : UInt8) : Bool:=c == 32 || c == 9 || c == 10 || c == 13 || c == 44
def zDv : Bool -> List UInt8 -> Nat
 | _,[] => 0
 | false,c :: r => if sepB c then zDv false r + 1 else if c == 35 then zDv true r + 1 else 0
 | true,c :: r => if c == 10 || c == 13 then zDv false r + 1 else zDv true r + 1
def letU (c : UInt8) : Bool:=decide (97 <= c.toNat /\ c.toNat <= 122) || decide (65 <= c.toNat /\ c.toNat <= 90) || c == 95
def wrdU (c : UInt8) : Bool:=letU c || digU c
def zEU (c : UInt8) : Bool:=[33,36,38,40,41,58,61,64,91,93,123,124,125].contains c
def spanN (p : UInt8 -> Bool) : List UInt8 -> Nat
 | [] => 0
 | c :: r => if p c then spanN p r + 1 else 0
def litN : List UInt8 -> Option Nat
 | [] => none
 | [c] => if c == 34 then some 1 else none
 | c :: d :: r => if c == 34 then some 1 else if c == 92 then (litN r).map (· + 2) else (litN (d :: r)).map (· + 1)
structure Tok where
 k : Int
 s : List UInt8
 i : Nat
deriving DecidableEq
def nerU : Lib.NumEnd Int -> Int
 | .ok _ => 0
 | Lib.NumEnd.syntax => 3
 | .range => 4
def readU (l : List UInt8) : Except Int (Int × List UInt8 × Nat):=
 match l with
 | [] => .error 3
 | c :: r =>
   if zEU c then .ok (1,[c],1)
   else if c == 46 then (if r.take 2 = [46,46] then .ok (1,[46,46,46],3) else .error 3)
   else if c == 45 || digU c then
    (if nerU (numU (c :: r.take (spanN wrdU r))) = 0 then .ok (3,c :: r.take (spanN wrdU r),spanN wrdU r + 1) else .error (nerU (numU (c :: r.take (spanN wrdU r)))))
   else if letU c then
    (if spanN wrdU r + 1 > 64 then .error 3 else .ok (2,c :: r.take (spanN wrdU r),spanN wrdU r + 1))
   else if c == 34 then
    (match litN r with
    | none => .error 3
    | some n => match unquoteU (c :: r.take n) with
      | none => .error 3
      | some t => .ok (4,t,n + 1))
   else .error 3
theorem zHY (p : UInt8 -> Bool) : ∀ l,spanN p l <= l.length
 | [] => Nat.le_refl _
 | c :: r => by
   have:=zHY p r
   unfold spanN
   split <;> simp <;> omega
theorem zGv : ∀ (l : List UInt8) (n : Nat),litN l = some n -> 1 <= n /\ n <= l.length
 | [],n,h => by simp [litN] at h
 | [c],n,h => by
   unfold litN at h
   split at h
   . cases h; simp
   . cases h
 | c :: d :: r,n,h => by
   unfold litN at h
   split at h
   . cases h; simp
   . split at h
     . obtain ⟨m,hm,rfl⟩:=Option.map_eq_some_iff.1 h
       have:=zGv r m hm
       simp; omega
     . obtain ⟨m,hm,rfl⟩:=Option.map_eq_some_iff.1 h
       have:=zGv (d :: r) m hm
       simp at this |-; omega
theorem readU_le {l : List UInt8} {k : Int} {t : List UInt8} {n : Nat} (h : readU l = .ok (k,t,n)) : 1 <= n /\ n <= l.length /\ 1 <= k /\ k <= 4:=by
 unfold readU at h
 split at h
 . cases h
 . rename_i c r
   have hs:=zHY wrdU r
   split at h
   . cases h; simp
   split at h
   . split at h
     . rename_i h3
       cases h
       have : (r.take 2).length = 2:=by rw [h3]; rfl
       rw [List.length_take] at this
       simp; omega
     . cases h
   split at h
   . split at h
     . cases h; simp; omega
     . cases h
   split at h
   . split at h
     . cases h
     . cases h; simp; omega
   split at h
   . split at h
     . cases h
     . rename_i n' hn
       have:=zGv r n' hn
       split at h
       . cases h
       . cases h; simp; omega
   . cases h
structure PS where
 ts : List Tok
 vr : Bool
 nd : Nat
abbrev PR (α : Type):=Except (Nat × Int) (α × PS)
def hdT (x : PS) : Tok:=x.ts.headD ⟨5,[],0⟩
def isS (x : PS) (s : List UInt8) : Bool:=(hdT x).k == 1 && (hdT x).s == s
def nxT (x : PS) : PS:=if (hdT x).k = 5 then x else { x with ts:=x.ts.drop 1 }
def zDG (s : List UInt8) (x : PS) : PR Unit:=if isS x s = true then .ok ((),nxT x) else .error ((hdT x).i,3)
def zBh (x : PS) : PR (List UInt8):=if (hdT x).k = 2 then .ok ((hdT x).s,nxT x) else .error ((hdT x).i,3)
def zAh {α β : Type} (r : PR α) (f : α -> PS -> PR β) : PR β:=
 match r with
 | .error e => .error e
 | .ok (a,x) => f a x
def strD (s : List UInt8) : D:=.str ⟨s.toArray⟩
def valD (k n : Int) (s : List UInt8) (items : List D) (keys : List (List UInt8)) : D:=.obj [.int k,.int n,strD s,.list items,.list (keys.map strD)]
def refD (n : List UInt8) (w : List Int) : D:=.obj [strD n,.list (w.map .int)]
def argD (n : List UInt8) (v : D) : D:=.obj [strD n,v]
def dirD (n : List UInt8) (aa : List D) : D:=.obj [strD n,.list aa]
def selD (k : Int) (al n on : List UInt8) (aa ds ss : List D) : D:=.obj [.int k,strD al,strD n,strD on,.list aa,.list ds,.list ss]
def varD (n : List UInt8) (t : D) (h : Bool) (v : D) : D:=.obj [strD n,t,.bool h,v]
def opD (k : Int) (n : List UInt8) (vs ss : List D) : D:=.obj [.int k,strD n,.list vs,.list ss]
def fragD (n on : List UInt8) (ss : List D) : D:=.obj [strD n,strD on,.list ss]
def nullD : D:=valD 0 0 [] [] []
def zBa : Nat -> PS -> Nat × PS
 | 0,x => (0,x)
 | f + 1,x => if isS x [91] = true then ((zBa f (nxT x)).1 + 1,(zBa f (nxT x)).2) else (0,x)
def closeQ : Nat -> List Int -> PS -> PR (List Int)
 | 0,w,x => .ok (if isS x [33] = true then (1 :: w,nxT x) else (w,x))
 | n + 1,w,x => zAh (zDG [93] (if isS x [33] = true then nxT x else x)) fun _ y => closeQ n (2 :: (if isS x [33] = true then 1 :: w else w)) y
def zHp (x : PS) : PR (List UInt8 × List Int):=
 zAh (zBh (zBa x.ts.length x).2) fun n y => zAh (closeQ (zBa x.ts.length x).1 [] y) fun w z => .ok ((n,w),z)
def typQ (x : PS) : PR D:=zAh (zHp x) fun t y => if t.2.length > 24 then .error ((hdT x).i,5) else .ok (refD t.1 t.2,y)
def numQ (l : List UInt8) : Int:=match numU l with | .ok n => n | _ => 0
def wordV (s : List UInt8) : D:=
 if s = [116,114,117,101] then valD 1 1 [] [] [] else if s = [102,97,108,115,101] then valD 1 0 [] [] [] else if s = [110,117,108,108] then nullD else valD 4 0 s [] []
def noVal (x : PS) : Bool:=(hdT x).k == 5 || ((hdT x).k == 1 && !isS x [91] && !isS x [123] && !(x.vr && isS x [36]))
def zGK (val : PS -> PR D) : Nat -> List D -> PS -> PR (List D)
 | 0,_,x => .error ((hdT x).i,0)
 | f + 1,acc,x => if isS x [93] = true then .ok (acc,nxT x) else zAh (val x) fun v y => zGK val f (acc ++ [v]) y
def zED (val : PS -> PR D) : Nat -> List (List UInt8) -> List D -> PS -> PR (List (List UInt8) × List D)
 | 0,_,_,x => .error ((hdT x).i,0)
 | f + 1,ks,acc,x =>
   if isS x [125] = true then .ok ((ks,acc),nxT x)
   else zAh (zBh x) fun k y => if ks.contains k = true then .error ((hdT x).i,7) else
    zAh (zDG [58] y) fun _ z => zAh (val z) fun v u => zED val f (ks ++ [k]) (acc ++ [v]) u
def zCv : Nat -> Nat -> PS -> PR D
 | 0,_,x => .error ((hdT x).i,0)
 | f + 1,lv,x =>
   if noVal x = true then .error ((hdT x).i,3)
   else if 24 < lv then .error ((hdT x).i,5)
   else if 4096 <= x.nd then .error ((hdT x).i,4)
   else
    let y : PS:={ nxT x with nd:=x.nd + 1 }
    if (hdT x).k = 3 then .ok (valD 2 (numQ (hdT x).s) [] [] [],y)
    else if (hdT x).k = 4 then .ok (valD 3 0 (hdT x).s [] [],y)
    else if (hdT x).k = 2 then .ok (wordV (hdT x).s,y)
    else if (hdT x).s = [36] then zAh (zBh y) fun n z => .ok (valD 7 0 n [] [],z)
    else if (hdT x).s = [91] then zAh (zGK (zCv f (lv + 1)) (y.ts.length + 1) [] y) fun l z => .ok (valD 5 0 [] l [],z)
    else zAh (zED (zCv f (lv + 1)) (y.ts.length + 1) [] [] y) fun l z => .ok (valD 6 0 [] l.2 l.1,z)
def zEb (x : PS) : PR D:=zCv 25 1 { x with nd:=0 }
def argsF : Nat -> List D -> PS -> PR (List D)
 | 0,_,x => .error ((hdT x).i,0)
 | f + 1,acc,x =>
   if acc.length ≠ 0 /\ isS x [41] = true then .ok (acc,nxT x)
   else if (hdT x).k = 2 /\ 16 <= acc.length then .error ((hdT x).i,4)
   else zAh (zBh x) fun n y => zAh (zDG [58] y) fun _ z => zAh (zEb z) fun v u => argsF f (acc ++ [argD n v]) u
def zHK (x : PS) : PR (List D):=if isS x [40] = true then argsF x.ts.length [] (nxT x) else .ok ([],x)
def dirsF : Nat -> List D -> PS -> PR (List D)
 | 0,_,x => .error ((hdT x).i,0)
 | f + 1,acc,x =>
   if isS x [64] = true then
    (if 16 <= acc.length then .error ((hdT x).i,4) else zAh (zBh (nxT x)) fun n y => zAh (zHK y) fun aa z => dirsF f (acc ++ [dirD n aa]) z)
   else .ok (acc,x)
def zHA (x : PS) : PR (List D):=dirsF (x.ts.length + 1) [] x
def onT : List UInt8:=[111,110]
def selQ (sels : PS -> PR (List D)) (x : PS) : PR D:=
 if isS x [46,46,46] = true then
  let y:=nxT x
  if (hdT y).k = 2 /\ (hdT y).s ≠ onT then zAh (zHA (nxT y)) fun ds z => .ok (selD 2 [] (hdT y).s [] [] ds [],z)
  else
   zAh (if (hdT y).k = 2 then zBh (nxT y) else .ok ([],y)) fun on z =>
    zAh (zHA z) fun ds u => zAh (sels u) fun ss v => .ok (selD 3 [] [] on [] ds ss,v)
 else
  zAh (zBh x) fun n y =>
   zAh (if isS y [58] = true then zAh (zBh (nxT y)) fun m z => .ok ((n,m),z) else .ok (([],n),y)) fun an z =>
    zAh (zHK z) fun aa u => zAh (zHA u) fun ds v =>
     zAh (if isS v [123] = true then sels v else .ok ([],v)) fun ss o => .ok (selD 1 an.1 an.2 [] aa ds ss,o)
def setF (sel : PS -> PR D) : Nat -> List D -> PS -> PR (List D)
 | 0,_,x => .error ((hdT x).i,0)
 | f + 1,acc,x =>
   if acc.length ≠ 0 /\ isS x [125] = true then .ok (acc,nxT x)
   else if ((hdT x).k = 2 \/ isS x [46,46,46] = true) /\ 64 <= acc.length then .error ((hdT x).i,4)
   else zAh (sel x) fun s y => setF sel f (acc ++ [s]) y
def zFM : Nat -> Nat -> PS -> PR (List D)
 | 0,_,x => .error ((hdT x).i,0)
 | f + 1,lv,x =>
   if isS x [123] = true /\ 24 < lv then .error ((hdT x).i,5)
   else zAh (zDG [123] x) fun _ y => setF (selQ (zFM f (lv + 1))) (y.ts.length + 1) [] y
def setQ (x : PS) : PR (List D):=zFM 25 1 x
def varsF : Nat -> List D -> PS -> PR (List D)
 | 0,_,x => .error ((hdT x).i,0)
 | f + 1,acc,x =>
   if acc.length ≠ 0 /\ isS x [41] = true then .ok (acc,nxT x)
   else if isS x [36] = true /\ 16 <= acc.length then .error ((hdT x).i,4)
   else zAh (zDG [36] x) fun _ y => zAh (zBh y) fun n z => zAh (zDG [58] z) fun _ u => zAh (typQ u) fun t v =>
    zAh (if isS v [61] = true then zAh (zEb { nxT v with vr:=false }) fun d o => .ok ((true,d),{ o with vr:=true }) else .ok ((false,nullD),v)) fun d o =>
     varsF f (acc ++ [varD n t d.1 d.2]) o
def opQ (k : Int) (x : PS) : PR D:=
 zAh (if (hdT x).k = 2 then .ok ((hdT x).s,nxT x) else .ok ([],x)) fun n y =>
  zAh (if isS y [40] = true then varsF y.ts.length [] (nxT y) else .ok ([],y)) fun vs z =>
   zAh (setQ z) fun ss u => .ok (opD k n vs ss,u)
def fragQ (x : PS) : PR D:=
 if (hdT x).s = onT then .error ((hdT x).i,3)
 else zAh (zBh x) fun n y => if (hdT y).k = 2 /\ (hdT y).s = onT then
  zAh (zBh (nxT y)) fun on z => zAh (setQ z) fun ss u => .ok (fragD n on ss,u)
  else .error ((hdT y).i,3)
inductive Lex : List UInt8 -> List (Int × List UInt8) -> Prop where
 | done {l : List UInt8} (h : l.drop (zDv false l) = []) : Lex l []
 | tok {l : List UInt8} {c : UInt8} {r : List UInt8} {k : Int} {s : List UInt8} {n : Nat} {ks : List (Int × List UInt8)} (h : l.drop (zDv false l) = c :: r) (ht : readU (c :: r) = .ok (k,s,n)) (hr : Lex ((c :: r).drop n) ks) : Lex l ((k,s) :: ks)
def bare (t : Tok) : Int × List UInt8:=(t.k,t.s)
def bnd (l : List UInt8) : Prop:=∀ c,l.head? = some c -> wrdU c = false
theorem zID {c : UInt8} {r : List UInt8} (h : wrdU c = false) : bnd (c :: r):=fun _ e => by cases e; exact h
def Ps (t : List UInt8) (ks : List (Int × List UInt8)) : Prop:=∀ r kr,Lex r kr -> Lex (t ++ r) (ks ++ kr)
def Pw (t : List UInt8) (ks : List (Int × List UInt8)) : Prop:=∀ r kr,bnd r -> Lex r kr -> Lex (t ++ r) (ks ++ kr)
theorem Ps.w {t : List UInt8} {ks : List (Int × List UInt8)} (h : Ps t ks) : Pw t ks:=fun r kr _ hr => h r kr hr
theorem Ps.nil : Ps [] []:=fun _ _ h => h
theorem Ps.app {a b : List UInt8} {ka kb : List (Int × List UInt8)} (h : Ps a ka) (k : Ps b kb) : Ps (a ++ b) (ka ++ kb):=fun r kr hr => by
 rw [List.append_assoc,List.append_assoc]; exact h _ _ (k r kr hr)
theorem Ps.appw {a b : List UInt8} {ka kb : List (Int × List UInt8)} (h : Ps a ka) (k : Pw b kb) : Pw (a ++ b) (ka ++ kb):=fun r kr hb hr => by
 rw [List.append_assoc,List.append_assoc]; exact h _ _ (k r kr hb hr)
theorem Pw.app {a b : List UInt8} {ka kb : List (Int × List UInt8)} (h : Pw a ka) (k : Ps b kb) (hb : b ≠ [] /\ bnd b) : Ps (a ++ b) (ka ++ kb):=fun r kr hr => by
 rw [List.append_assoc,List.append_assoc]
 refine h _ _ (fun c hc => hb.2 c ?_) (k r kr hr)
 cases b with
 | nil => exact (hb.1 rfl).elim
 | cons x y => exact hc
theorem Pw.appw {a b : List UInt8} {ka kb : List (Int × List UInt8)} (h : Pw a ka) (k : Pw b kb) (hb : bnd b) : Pw (a ++ b) (ka ++ kb):=fun r kr hr hl => by
 rw [List.append_assoc,List.append_assoc]
 refine h _ _ (fun c hc => ?_) (k r kr hr hl)
 cases b with
 | nil => exact hr c hc
 | cons x y => exact hb c hc
theorem Lex.sep {c : UInt8} {r : List UInt8} {kr : List (Int × List UInt8)} (hc : sepB c = true) (h : Lex r kr) : Lex (c :: r) kr:=by
 have e : (c :: r).drop (zDv false (c :: r)) = r.drop (zDv false r):=by
  rw [zDv,if_pos hc,List.drop_succ_cons]
 cases h with
 | done h => exact .done (by rw [e]; exact h)
 | tok h ht hr => exact .tok (by rw [e]; exact h) ht hr
theorem Ps.sep {c : UInt8} (hc : sepB c = true) : Ps [c] []:=fun _ _ h => h.sep hc
theorem zEf (c : UInt8) : zEU c = true -> sepB c = false /\ (c == 35) = false /\ wrdU c = false:=
 all256 (p:=fun c => zEU c = true -> sepB c = false /\ (c == 35) = false /\ wrdU c = false) (by decide +kernel) c
theorem zDu {c : UInt8} {r : List UInt8} (h : sepB c = false) (h2 : (c == 35) = false) : zDv false (c :: r) = 0:=by
 rw [zDv,if_neg (by rw [h]; decide),if_neg (by rw [h2]; decide)]
theorem Ps.sign {c : UInt8} (hc : zEU c = true) : Ps [c] [(1,[c])]:=fun r kr h => by
 obtain ⟨h1,h2,-⟩:=zEf c hc
 refine .tok (l:=c :: r) (c:=c) (r:=r) (n:=1) (by rw [zDu h1 h2]; rfl) ?_ h
 unfold readU
 simp only [hc,if_true]
def nameU (l : List UInt8) : Bool:=match l with | [] => false | c :: r => letU c && r.all wrdU && decide (r.length < 64)
theorem let_plain (c : UInt8) : letU c = true -> sepB c = false /\ (c == 35) = false /\ zEU c = false /\ (c == 46) = false /\ (c == 45 || digU c) = false /\ wrdU c = true:=
 all256 (p:=fun c => letU c = true -> sepB c = false /\ (c == 35) = false /\ zEU c = false /\ (c == 46) = false /\ (c == 45 || digU c) = false /\ wrdU c = true) (by decide +kernel) c
theorem zFJ {p : UInt8 -> Bool} : ∀ (l r : List UInt8),l.all p = true -> (∀ c,r.head? = some c -> p c = false) -> spanN p (l ++ r) = l.length
 | [],[],_,_ => rfl
 | [],c :: r,_,h => by
   show spanN p (c :: r) = 0
   rw [spanN,if_neg (by rw [h c rfl]; decide)]
 | c :: l,r,ha,h => by
   rw [List.all_cons,Bool.and_eq_true] at ha
   rw [List.cons_append,spanN,if_pos ha.1,zFJ l r ha.2 h,List.length_cons]
theorem Pw.name {l : List UInt8} (h : nameU l = true) : Pw l [(2,l)]:=fun r kr hb hr => by
 cases l with
 | nil => cases h
 | cons c q =>
   simp only [nameU,Bool.and_eq_true,decide_eq_true_eq] at h
   obtain ⟨⟨h1,h2⟩,h3⟩:=h
   obtain ⟨p1,p2,p3,p4,p5,p6⟩:=let_plain c h1
   have hs:=zFJ q r h2 hb
   refine .tok (l:=c :: (q ++ r)) (c:=c) (r:=q ++ r) (n:=q.length + 1) (by rw [zDu p1 p2]; rfl) ?_ (by rw [List.drop_succ_cons,List.drop_left]; exact hr)
   unfold readU
   simp only [p3,p4,p5,h1,hs,Bool.false_eq_true,if_false,if_true,List.take_left]
   rw [if_neg (by omega)]
theorem zH8 : ∀ {l : List UInt8},l.all digU = true -> l.all wrdU = true:=fun {l} h => by
 rw [List.all_eq_true] at h |-
 intro x hx
 unfold wrdU
 rw [h x hx,Bool.or_true]
theorem num_plain (c : UInt8) : (c == 45 || digU c) = true -> sepB c = false /\ (c == 35) = false /\ zEU c = false /\ (c == 46) = false:=
 all256 (p:=fun c => (c == 45 || digU c) = true -> sepB c = false /\ (c == 35) = false /\ zEU c = false /\ (c == 46) = false) (by decide +kernel) c
theorem Pw.num {l : List UInt8} {n : Int} (h : numU l = .ok n) (h1 : ∃ c q,l = c :: q /\ (c == 45 || digU c) = true /\ q.all wrdU = true) : Pw l [(3,l)]:=fun r kr hb hr => by
 obtain ⟨c,q,rfl,h2,h3⟩:=h1
 obtain ⟨p1,p2,p3,p4⟩:=num_plain c h2
 have hs:=zFJ q r h3 hb
 refine .tok (l:=c :: (q ++ r)) (c:=c) (r:=q ++ r) (n:=q.length + 1) (by rw [zDu p1 p2]; rfl) ?_ (by rw [List.drop_succ_cons,List.drop_left]; exact hr)
 unfold readU
 simp only [p3,p4,h2,hs,Bool.false_eq_true,if_false,if_true,List.take_left,h,nerU]
theorem itoa_shape (n : Int) : ∃ c q,Lib.itoa n = c :: q /\ (c == 45 || digU c) = true /\ q.all wrdU = true:=by
 unfold Lib.itoa
 split
 . exact ⟨45,_,rfl,rfl,zH8 (zEJ _)⟩
 . have h:=zEJ n.toNat
   cases hd : Lib.decDigits n.toNat with
   | nil => exact (zH9 _ hd).elim
   | cons c q =>
     rw [hd,List.all_cons,Bool.and_eq_true] at h
     exact ⟨c,q,rfl,by rw [h.1,Bool.or_true],zH8 h.2⟩
theorem Pw.int (n : Int) (h0 : -9223372036854775808 <= n) (h1 : n <= 9223372036854775807) : Pw (Lib.itoa n) [(3,Lib.itoa n)]:=Pw.num (num_itoa n h0 h1) (itoa_shape n)
inductive All2 (T : Tok -> Tok -> Prop) : List Tok -> List Tok -> Prop where
 | nil : All2 T [] []
 | cons {a b : Tok} {l m : List Tok} (h : T a b) (t : All2 T l m) : All2 T (a :: l) (b :: m)
structure TR (T : Tok -> Tok -> Prop) (I : Nat -> Nat -> Prop) : Prop where
 k : ∀ {t t'},T t t' -> t.k = t'.k
 s : ∀ {t t'},T t t' -> t.s = t'.s
 i : ∀ {t t'},T t t' -> I t.i t'.i
 z : I 0 0
structure XR (T : Tok -> Tok -> Prop) (x x' : PS) : Prop where
 ts : All2 T x.ts x'.ts
 vr : x.vr = x'.vr
 nd : x.nd = x'.nd
def RR (T : Tok -> Tok -> Prop) (I : Nat -> Nat -> Prop) {α : Type} : PR α -> PR α -> Prop
 | .ok (a,x),.ok (a',x') => a = a' /\ XR T x x'
 | .error e,.error e' => I e.1 e'.1 /\ e.2 = e'.2
 | _,_ => False
section
variable {T : Tok -> Tok -> Prop} {I : Nat -> Nat -> Prop} {α β : Type}
theorem zHN {a b : List Tok} (h : All2 T a b) : a.length = b.length:=by induction h with | nil => rfl | cons _ _ ih => simp [ih]
theorem all2_drop {a b : List Tok} (h : All2 T a b) : ∀ n,All2 T (a.drop n) (b.drop n):=by
 induction h with
 | nil => intro n; simp; exact .nil
 | cons h1 h2 ih =>
   intro n
   cases n with
   | zero => exact .cons h1 h2
   | succ n => simpa using ih n
theorem XR.hd (hT : TR T I) {x x' : PS} (h : XR T x x') : (hdT x').k = (hdT x).k /\ (hdT x').s = (hdT x).s /\ I (hdT x).i (hdT x').i:=by
 obtain ⟨h1,-,-⟩:=h
 unfold hdT
 generalize x.ts = a at h1
 generalize x'.ts = b at h1
 cases h1 with
 | nil => exact ⟨rfl,rfl,hT.z⟩
 | cons h2 h3 => exact ⟨(hT.k h2).symm,(hT.s h2).symm,hT.i h2⟩
theorem XR.isS (hT : TR T I) {x x' : PS} (h : XR T x x') (s : List UInt8) : isS x' s = isS x s:=by
 obtain ⟨h1,h2,-⟩:=h.hd hT
 unfold Go.Proofs.YtdlnnlglmifceaaGreatDoor.isS
 rw [h1,h2]
theorem XR.nx (hT : TR T I) {x x' : PS} (h : XR T x x') : XR T (nxT x) (nxT x'):=by
 obtain ⟨h1,-,-⟩:=h.hd hT
 unfold nxT
 rw [h1]
 split
 . exact h
 . exact ⟨all2_drop h.ts 1,h.vr,h.nd⟩
theorem XR.len {x x' : PS} (h : XR T x x') : x'.ts.length = x.ts.length:=(zHN h.ts).symm
theorem RR.err (hT : TR T I) {x x' : PS} (h : XR T x x') (e : Int) : RR T I (α:=α) (.error ((hdT x).i,e)) (.error ((hdT x').i,e)):=⟨(h.hd hT).2.2,rfl⟩
theorem RR.okk {x x' : PS} (h : XR T x x') (a : α) : RR T I (.ok (a,x)) (.ok (a,x')):=⟨rfl,h⟩
theorem RR.ite {c : Prop} [Decidable c] {a b a' b' : PR α} (h1 : c -> RR T I a a') (h2 : ¬ c -> RR T I b b') : RR T I (if c then a else b) (if c then a' else b'):=by
 split
 . rename_i h; exact h1 h
 . rename_i h; exact h2 h
theorem RR.then {r r' : PR α} {f f' : α -> PS -> PR β} (h : RR T I r r') (hf : ∀ a x x',XR T x x' -> RR T I (f a x) (f' a x')) : RR T I (zAh r f) (zAh r' f'):=by
 unfold zAh
 cases r with
 | error e => cases r' with | error e' => exact h | ok a' => exact h.elim
 | ok a =>
   cases r' with
   | error e' => exact h.elim
   | ok a' =>
     obtain ⟨a,x⟩:=a
     obtain ⟨a',x'⟩:=a'
     obtain ⟨rfl,hx⟩:=h
     exact hf _ _ _ hx
variable (hT : TR T I)
include hT
end
end Go.Proofs.YtdlnnlglmifceaaGreatDoor
namespace Go.Proofs.YtdlnnlglmifceaaGreatDoor
theorem Lex.kinds {l : List UInt8} {ks : List (Int × List UInt8)} (h : Lex l ks) : ∀ p ∈ ks,p.1 ≠ 5:=by
 induction h with
 | done h => intro p hp; cases hp
 | tok h ht hr ih =>
   intro p hp
   rcases List.mem_cons.1 hp with rfl | hp
   . have:=readU_le ht
     show _ ≠ _
     omega
   . exact ih p hp
end Go.Proofs.YtdlnnlglmifceaaGreatDoor
namespace Go.Proofs.YtdlnnlglmifceaaGreatDoor
open Go.RowKit
attribute [local irreducible] wpList Calls Code.wp
theorem zBk {a b : Bool} (h : a = b) : Ending.returned (.bool a) = .returned (.bool b):=by rw [h]
def Yn (b : Bool) (w : World) (e : Ending) (w' : World) : Prop:=e = .returned (.bool b) /\ w = w'
theorem zGH (v : Int) (w : World) (h0 : 0 <= v) (h1 : v <= 255) : Calls Tryz.prog 53 #[.int .u8 v] w (Yn (letB v) w):=by
 have hc:=nm_cases v
 rcases hc with h | h | h | h | h | h | h | h | h
 all_goals first
  | (subst h; rw [show letB _ = _ from rfl])
  | (rw [letB_true (by omega)]; have q : (v == 95) = false:=beq_false_of_ne (by omega))
  | (rw [letB_false (by omega)]; have q : (v == 95) = false:=beq_false_of_ne (by omega))
 all_goals
  go_enter Tryz.func53,Tryz.ntmps53
  go_wp2
  go_ret
  exact ⟨zBk (by first | rfl | (simp; omega)),rfl⟩
theorem digit (v : Int) (w : World) (h0 : 0 <= v) (h1 : v <= 255) : Calls Tryz.prog 54 #[.int .u8 v] w (Yn (digB v) w):=by
 have hc : v < 48 \/ (48 <= v /\ v <= 57) \/ 58 <= v:=by omega
 rcases hc with h | h | h
 all_goals first
  | rw [digB_true (by omega)]
  | rw [zEx (by omega)]
 all_goals
  go_enter Tryz.func54,Tryz.ntmps54
  go_wp2
  go_ret
  exact ⟨zBk (by first | rfl | (simp; omega)),rfl⟩
theorem nameR (s : ByteArray) (w : World) (hs : s.size <= 9223372036854775807) : Calls Tryz.prog 26 #[.string s] w (Yn (nameB s) w):=by
 by_cases h0 : 0 < s.size
 . by_cases h1 : s.size <= 64
   . have q1 : ¬ (s.size : Int) < 1:=by omega
     have q2 : decide ((s.size : Int) > 64) = false:=decide_eq_false (by omega)
     go_enter Tryz.func26,Tryz.ntmps26
     go_wp2
     go_loop [3] (fun i => ∃ m : Nat,m <= s.size /\ i = .int .i64 m /\ (0 < m -> digB (bV s 0) = false) /\ ∀ k,k < m -> (letB (bV s k) || digB (bV s k)) = true) (fun i => s.size - (intOf i).toNat)
     case atStart => exact ⟨0,by omega,rfl,fun h => by omega,fun k hk => by omega⟩
     case round =>
      obtain ⟨x,hx,rfl,hd,hall⟩:=hrel
      have Hall:=Lib.hid hall; have Hd:=Lib.hid hd
      clear hall hd
      by_cases hlt : x < s.size
      . have hb:=bV_at hlt
        have hr:=zIG s x
        have Hat:=Lib.hid (@nameB_at s x hlt)
        have Hdg:=Lib.hid (@nameB_dig s)
        have Hstep:=Lib.hid (show (letB (bV s x) || digB (bV s x)) = true -> ∀ k,k < x + 1 -> (letB (bV s k) || digB (bV s k)) = true from fun h k hk => by
         by_cases e : k = x
         . rw [e]; exact h
         . exact Hall.out k (by omega))
        by_cases hl : letB (bV s x) = true
        . have hd0 : x = 0 -> digB (bV s 0) = false:=fun e => by
           subst e
           have hl:=of_decide_eq_true hl
           exact zEx (by omega)
          have Hd0:=Lib.hid hd0
          have Hl:=Lib.hid hl
          generalize bV s x = v at *
          clear hd0
          go_wp2_with (go_at_call 53; refine (zGH _ _ (by omega) (by omega)).mono ?_; rintro e w' ⟨rfl,rfl⟩)
          go_round
          case rel => exact ⟨x + 1,by omega,by go_num,fun _ => by
           by_cases e : x = 0
           . exact Hd0.out e
           . exact Hd.out (by omega),Hstep.out (by rw [Hl.out]; rfl)⟩
          case measure => simp [intOf]; omega
        . have hl2 : letB (bV s x) = false:=by simpa using hl
          have Hl:=Lib.hid hl2
          clear hl
          by_cases hdg : digB (bV s x) = true
          . have Hdt:=Lib.hid hdg
            by_cases hx0 : x = 0
            . subst hx0
              have hno:=Hdg.out hdg
              have Hno:=Lib.hid hno
              clear hno
              generalize bV s 0 = v at *
              go_wp2_with (go_at_call 53; refine (zGH _ _ (by omega) (by omega)).mono ?_; rintro e w' ⟨rfl,rfl⟩)
              go_ret
              exact ⟨zBk Hno.out.symm,rfl⟩
            . have q3 : ((x : Int) == 0) = false:=beq_false_of_ne (by omega)
              generalize bV s x = v at *
              go_wp2_with (first | (go_at_call 53; refine (zGH _ _ (by omega) (by omega)).mono ?_; rintro e w' ⟨rfl,rfl⟩) | (go_at_call 54; refine (digit _ _ (by omega) (by omega)).mono ?_; rintro e w' ⟨rfl,rfl⟩))
              go_round
              case rel => exact ⟨x + 1,by omega,by go_num,fun _ => Hd.out (by omega),Hstep.out (by rw [Hl.out,Hdt.out]; rfl)⟩
              case measure => simp [intOf]; omega
          . have hdg2 : digB (bV s x) = false:=by simpa using hdg
            have hno:=Hat.out (by rw [Hl.out,hdg2]; rfl)
            have Hno:=Lib.hid hno
            clear hno hdg
            by_cases hx0 : x = 0
            . subst hx0
              generalize bV s 0 = v at *
              go_wp2_with (first | (go_at_call 53; refine (zGH _ _ (by omega) (by omega)).mono ?_; rintro e w' ⟨rfl,rfl⟩) | (go_at_call 54; refine (digit _ _ (by omega) (by omega)).mono ?_; rintro e w' ⟨rfl,rfl⟩))
              go_ret
              exact ⟨zBk Hno.out.symm,rfl⟩
            . have q3 : ((x : Int) == 0) = false:=beq_false_of_ne (by omega)
              generalize bV s x = v at *
              go_wp2_with (first | (go_at_call 53; refine (zGH _ _ (by omega) (by omega)).mono ?_; rintro e w' ⟨rfl,rfl⟩) | (go_at_call 54; refine (digit _ _ (by omega) (by omega)).mono ?_; rintro e w' ⟨rfl,rfl⟩))
              go_ret
              exact ⟨zBk Hno.out.symm,rfl⟩
      . obtain rfl : x = s.size:=by omega
        have hyes:=nameB_yes h0 h1 (Hd.out h0) Hall.out
        have Hyes:=Lib.hid hyes
        clear hyes
        go_wp2
        go_ret
        exact ⟨zBk Hyes.out.symm,rfl⟩
   . have hno:=zHh (s:=s) (by omega)
     have Hno:=Lib.hid hno
     have q1 : ¬ (s.size : Int) < 1:=by omega
     have q2 : decide ((s.size : Int) > 64) = true:=decide_eq_true (by omega)
     clear hno
     go_enter Tryz.func26,Tryz.ntmps26
     go_wp2
     go_ret
     exact ⟨zBk Hno.out.symm,rfl⟩
 . have hno:=zHh (s:=s) (by omega)
   have Hno:=Lib.hid hno
   have q1 : (s.size : Int) < 1:=by omega
   clear hno
   go_enter Tryz.func26,Tryz.ntmps26
   go_wp2
   go_ret
   exact ⟨zBk Hno.out.symm,rfl⟩
end Go.Proofs.YtdlnnlglmifceaaGreatDoor
