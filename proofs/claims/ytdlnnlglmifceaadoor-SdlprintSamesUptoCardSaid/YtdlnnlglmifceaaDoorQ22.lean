import Derived.WalkSmall
import Derived.Test.YtdlnnlglmifceaaDoorQ21
set_option maxHeartbeats 2000000
set_option maxRecDepth 100000
set_option linter.unusedVariables false
set_option linter.unusedSimpArgs false
namespace Go.Proofs.YtdlnnlglmifceaaDoor
open Go.RowKit
attribute [local irreducible] wpList Calls Code.wp
inductive Out where
 | ret (r : V) (bs : List Res)
 | die (v : Value)
def ACX (e : Ge) (P : Program) (f : FuncId) (args : List V) (bs : List Res) (pv : Value) : Prop:=
 ∀ (pas : Nat -> Prop) (s : Sg) (w : World) (us : Array Value),relL P s w args us.toList -> MemOk P pas w.heap.size (rsOf bs) s w -> e.E w -> (∀ k,k < e.G -> ¬ pas k) ->
   Calls P f us w fun en w' => en = .panicked [{ v:=pv,recovered:=false }] /\ ∃ F',Frm pas w w' /\ Keeps s.F F' w w' /\ (∀ b o,b < w.heap.size -> ¬ pas b -> F' b o -> s.F b o) /\ (∀ b o,F' b o -> (w'.cell? ⟨b,o,none⟩).isSome)
def forgetN (rs : Nat -> Option Res) (ns : List Nat) : Nat -> Option Res:=fun m => if m ∈ ns then none else rs m
section
variable {X : Cx} {nn : Nat} {st : Vst nn} {o : Oper} {K : Vst nn -> Prop}
theorem opOk_callX {f : FuncId} {vargs args : List V} {bs : List Res} {pv : Value} (ns : List Nat) (h : act1 X.P st.rs (ev st) o.op = .call f vargs) (hc : ACX X.e X.P f args bs pv) (hnd : ns.Nodup) (ha : renL (φin ns) vargs = args)
 (hb : ns.map (fun n => (st.rs n).map (renR (φin ns))) = bs.map some) (hK : X.pk pv st.tm (forgetN st.rs ns)) : OpOk X o st K:=by
 intro s w a hI N Q hP hN
 obtain ⟨us,h1,h2⟩:=zGA h hI.ev (fun _ => rfl)
 unfold Oper.wp
 rw [h1,Oper.upon_enter]
 let sc : Sg:={ F:=s.F,bx:=fun n => (φout ns n).bind s.bx,tb:=fun n => (φout ns n).bind s.tb,tk:=fun n => match φout ns n with | some m => s.tk m | none => (.tuple #[],0) }
 have hin : ∀ n m,φin ns n = some m -> ∃ i,m = pn i /\ ns[i]? = some n:=fun n m hm => by
  obtain ⟨i,hi,rfl⟩:=Option.map_eq_some_iff.1 hm
  exact ⟨i,rfl,zCF hi⟩
 have hsc : ∀ (i q : Nat),ns[i]? = some q -> sc.bx (pn i) = s.bx q /\ sc.tb (pn i) = s.tb q /\ sc.tk (pn i) = s.tk q:=fun i q hq => by
  have e : φout ns (pn i) = some q:=(φout_pn ns i).trans hq
  refine ⟨?_,?_,?_⟩
  . show (φout ns (pn i)).bind s.bx = _; rw [e]; rfl
  . show (φout ns (pn i)).bind s.tb = _; rw [e]; rfl
  . show (match φout ns (pn i) with | some m => s.tk m | none => (.tuple #[],0)) = _; rw [e]
 have hφ1 : ∀ n m,φin ns n = some m -> sc.bx m = s.bx n /\ sc.tk m = s.tk n:=fun n m hm => by
  obtain ⟨i,rfl,hi⟩:=hin n m hm
  exact ⟨(hsc i n hi).1,(hsc i n hi).2.2⟩
 have hargs : relL X.P sc w args us.toList:=by rw [<- ha]; exact relL.ren (s:=s) (s2:=sc) rfl hφ1 _ _ h2
 have hbs : ∀ (i : Nat) (ρ : Res),bs[i]? = some ρ -> ∃ q ρ0,ns[i]? = some q /\ st.rs q = some ρ0 /\ ρ = renR (φin ns) ρ0:=fun i ρ hi => by
  have h3 : (ns.map (fun n => (st.rs n).map (renR (φin ns))))[i]? = (bs.map some)[i]?:=by rw [hb]
  rw [List.getElem?_map,List.getElem?_map,hi] at h3
  obtain ⟨q,hq,h4⟩:=Option.map_eq_some_iff.1 h3
  obtain ⟨ρ0,h5,h6⟩:=Option.map_eq_some_iff.1 h4
  exact ⟨q,ρ0,hq,h5,h6.symm⟩
 let pas : Nat -> Prop:=fun b => ∃ n ρ,n ∈ ns /\ st.rs n = some ρ /\ s.bk n ρ b
 have hpas : ∀ b,pas b -> X.w0.heap.size <= b \/ X.pas b:=fun b ⟨n,ρ,_,hn,hbk⟩ => hI.mem.bs n ρ b hn hbk
 have hmem : MemOk X.P pas w.heap.size (rsOf bs) sc w:=by
  refine ⟨hI.mem.fx,fun n ρ hn => ?_,fun n ρ b hn hbk => ?_,fun n m ρ ρ' b hn hm hnb hmb => ?_⟩
  . obtain ⟨i,rfl,hi⟩:=zAw hn
    obtain ⟨q,ρ0,hq,h3,rfl⟩:=hbs i ρ hi
    exact Holds.ren (s:=s) (s2:=sc) rfl hφ1 (hsc i q hq).1 (hsc i q hq).2.1 (hsc i q hq).2.2 (hI.mem.ho q ρ0 h3)
  . obtain ⟨i,rfl,hi⟩:=zAw hn
    obtain ⟨q,ρ0,hq,h3,rfl⟩:=hbs i ρ hi
    exact .inr ⟨q,ρ0,List.mem_of_getElem? hq,h3,(bk_ren (hsc i q hq).1 (hsc i q hq).2.1).1 hbk⟩
  . obtain ⟨i,rfl,hi⟩:=zAw hn
    obtain ⟨j,rfl,hj⟩:=zAw hm
    obtain ⟨q,ρ0,hq,h3,rfl⟩:=hbs i ρ hi
    obtain ⟨q',ρ1,hq',h3',rfl⟩:=hbs j ρ' hj
    have e:=hI.mem.dj q q' _ _ b h3 h3' ((bk_ren (hsc i q hq).1 (hsc i q hq).2.1).1 hnb) ((bk_ren (hsc j q' hq').1 (hsc j q' hq').2.1).1 hmb)
    subst e
    have:=(zGk hnd hq).symm.trans (zGk hnd hq')
    cases this; rfl
 refine (hc pas sc w us hargs hmem hI.en fun k hk hp => (hpas k hp).elim (fun h => by have:=X.e.le _ X.he; omega) (X.hp k hk)).mono ?_
 rintro e w' ⟨rfl,F',hfr,hk,hnf,hfx⟩
 have hx : Ext (fun _ => False) s w { s with F:=F' } w':=⟨hk,fun _ _ => rfl,fun _ _ => .inl rfl⟩
 have hnp : ∀ m ρ b,m ∉ ns -> st.rs m = some ρ -> s.bk m ρ b -> ¬ pas b:=fun m ρ b hi hm hbk ⟨n,ρ',hn,hn2,hbk2⟩ => by
  have:=hI.mem.dj m n ρ ρ' b hm hn2 hbk hbk2
  subst this
  exact hi hn
 have hget : ∀ m ρ,forgetN st.rs ns m = some ρ -> m ∉ ns /\ st.rs m = some ρ:=fun m ρ hm => by
  unfold forgetN at hm
  split at hm
  . cases hm
  . rename_i hn; exact ⟨hn,hm⟩
 have bk2 : ∀ m ρ,({ s with F:=F' } : Sg).bk m ρ = s.bk m ρ:=fun m ρ => by funext x; cases ρ <;> simp [Sg.bk]
 refine hP pv ⟨st.tm,forgetN st.rs ns⟩ { s with F:=F' } w' a ⟨hI.sz,fun i hi => (hI.tm i hi).ext0 hx,hI.df,hI.fr.trans hfr hpas,hI.kp.trans hk,fun b o hb' hnp' hF => hI.nf b o hb' hnp' (hnf b o (Nat.lt_of_lt_of_le hb' hI.base) (fun hp => (hpas b hp).elim (fun h => by omega) hnp') hF),?_,hI.pe.ext0 hx⟩ hK
 refine ⟨hfx,fun m ρ hm => ?_,fun m ρ b hm hbk => ?_,fun m q ρ ρ' b hm hq hmb hqb => ?_⟩
 . obtain ⟨hn,hm⟩:=hget m ρ hm
   exact (hI.mem.ho m ρ hm).keep hx (fun h => h) rfl rfl (fun _ h => h.elim) (fun b hb' => hfr.block b ((hI.mem.ho m ρ hm).lt hb') (hnp m ρ b hn hm hb')) (fun b o hb' hF => hnf b o ((hI.mem.ho m ρ hm).lt hb') (hnp m ρ b hn hm hb') hF)
 . rw [bk2] at hbk
   exact hI.mem.bs m ρ b (hget m ρ hm).2 hbk
 . rw [bk2] at hmb hqb
   exact hI.mem.dj m q ρ ρ' b (hget m ρ hm).2 (hget q ρ' hq).2 hmb hqb
end
end Go.Proofs.YtdlnnlglmifceaaDoor
namespace Go.Proofs.YtdlnnlglmifceaaDoor
open Go.RowKit
attribute [local irreducible] wpList Calls Code.wp
section
variable {X : Cx} {nn : Nat} {st : Vst nn} {ops : Array Oper} {o : Oper}
def inO (l : List Nat) : Option Nat -> Bool
 | none => true
 | some n => l.contains n
inductive YldN (X : Cx) (rd wr : List Nat) (o : Oper) (st : Vst nn) : V -> List (Nat × Res) -> Prop where
 | val {p : Prop} {v : V} (h : act1 X.P st.rs (ev st) o.op = .val p v) (hp : p) (hl : inO rd (loads (ev st) o.op) = true) : YldN X rd wr o st v []
 | valW {p : Prop} {v v' : V} (h : act1 X.P st.rs (ev st) o.op = .val p v) (hle : VLe v v') (hp : p) (hl : inO rd (loads (ev st) o.op) = true) : YldN X rd wr o st v' []
 | call {f : FuncId} {args : List V} {v : V} (h : act1 X.P st.rs (ev st) o.op = .call f args) (hc : AC X.e X.P f (outL args) v) : YldN X rd wr o st v []
 | lit {t e : TypeId} {b m : Nat} {parts : Array (Nat × Operand)} {ds : List D} (ho : o.op = .buildSlice t m parts) (he : zAo X.P t = some (e,b)) (hn : m = ds.length) (hs : m * X.P.cellsOf e <= 2 ^ 24) (hp : zCn X.P e (ev st) parts.toList 0 ds) : YldN X rd wr o st (.lit e ds) []
 | pick {c x y : Operand} {b : Bool} (ho : o.op = .pick c x y) (hc : ev st c = .c (.bool b)) : YldN X rd wr o st (bif b then ev st x else ev st y) []
 | callB {f : FuncId} {vargs args : List V} {bs bs' : List Res} {r : V} (ns : List Nat) (h : act1 X.P st.rs (ev st) o.op = .call f vargs) (hc : ACB X.e X.P f args bs r bs') (hnd : ns.Nodup) (ha : renL (φin ns) vargs = args) (hb : ns.map (fun n => (st.rs n).map (renR (φin ns))) = bs.map some)
    (hl : ns.all (fun n => wr.contains n) = true) (hlen : bs'.length = ns.length) : YldN X rd wr o st (renV (φout ns) r) (ns.zip (bs'.map (renR (φout ns))))
 | callX {f : FuncId} {vargs args : List V} {bs : List Res} {pv : Value} (ns : List Nat) (h : act1 X.P st.rs (ev st) o.op = .call f vargs) (hc : ACX X.e X.P f args bs pv) (hnd : ns.Nodup) (ha : renL (φin ns) vargs = args) (hb : ns.map (fun n => (st.rs n).map (renR (φin ns))) = bs.map some)
    (hl : ns.all (fun n => wr.contains n) = true) (hpk : ∀ tm rs,X.pk pv tm rs) (v : V) (ρs : List Res) (hlen : ρs.length = ns.length) : YldN X rd wr o st v (ns.zip ρs)
 | callS {f : FuncId} {vargs args : List V} {bs : List Res} {r : V} (ns : List Nat) (h : act1 X.P st.rs (ev st) o.op = .call f vargs) (hc : ACB X.e X.P f args bs r bs) (hnd : ns.Nodup) (ha : renL (φin ns) vargs = args) (hb : ns.map st.rs = bs.map some) (hp : bs.all isBld = true)
    (hl : ns.all (fun n => rd.contains n) = true) : YldN X rd wr o st (renV (φout ns) r) []
 | onlit {t e : TypeId} {b : Nat} {x y : Operand} {l l2 : List D} (ho : o.op = .call { callee:=.builtin .append,args:=#[x,y],argTypes:=#[t,t] }) (he : zAo X.P t = some (e,b)) (hleaf : ∀ d,(cellsV X.P 12 e d).all V.leaf = true)
    (hx : ev st x = .lit e l) (hy : (ev st y).out = .sl e l2) (hp : l.length + l2.length <= maxLen /\ (l.length + l2.length) * b <= 140737488355328) : YldN X rd wr o st (.sl e (l ++ l2)) []
 | app {t e : TypeId} {b k : Nat} {x y : Operand} {l l2 : List D} (hk : wr.contains k = true) (ho : o.op = .call { callee:=.builtin .append,args:=#[x,y],argTypes:=#[t,t] }) (he : zAo X.P t = some (e,b)) (hleaf : ∀ d,(cellsV X.P 12 e d).all V.leaf = true)
    (hx : ev st x = .own k e l) (hr : st.rs k = some (.tok e l.length)) (hy : (ev st y).out = .sl e l2) (hp : 0 < l2.length /\ l.length + l2.length <= maxLen /\ (l.length + l2.length) * b <= 140737488355328) :
    YldN X rd wr o st (.own k e (l ++ l2)) [(k,.tok e (l.length + l2.length))]
 | store {t t' : TypeId} {x y : Operand} {n off : Nat} {vs xs : List V} (hk : wr.contains n = true) (ho : o.op = .store t x y) (hd : o.dst = none) (hx : ev st x = .bx n off) (hr : st.rs n = some (.box t' vs)) (hc : cellsOf (ev st y) = some xs)
    (hs : X.P.cellsOf t = xs.length /\ (X.P.info? t).isSome) (hl : off + xs.length <= vs.length) : YldN X rd wr o st .any [(n,.box t' (splice vs off xs))]
def YldG (X : Cx) (ops : Array Oper) (rd wr : List Nat) (o : Oper) (st : Vst nn) (v : V) (u : List (Nat × Res)) : Prop:=
 (gw ops o st = some true /\ YldN X rd wr o st v u) \/ (gw ops o st = some false /\ v = .any /\ u = [])
theorem zHi {rs : Nat -> Option Res} : ∀ {ns : List Nat} {ρs : List Res},ns.Nodup -> ρs.length = ns.length -> updL rs (ns.zip ρs) = updN rs ns ρs
 | [],[],_,_ => by funext m; rfl
 | n :: ns,ρ :: ρs,h,hl => by
   have ih:=zHi (rs:=rs) (ns:=ns) (ρs:=ρs) (List.nodup_cons.1 h).2 (by simpa using hl)
   funext m
   show (if m = n then some ρ else updL rs (ns.zip ρs) m) = _
   unfold updN
   rw [List.idxOf?_cons]
   by_cases e : m = n
   . subst e; simp
   . have e2 : ¬ (n == m) = true:=by simp; exact fun h => e h.symm
     rw [if_neg e,ih,if_neg e2]
     unfold updN
     cases ns.idxOf? m <;> rfl
theorem opOk_yldN {rd wr : List Nat} {K : Vst nn -> Prop} {v : V} {u : List (Nat × Res)} (h : YldN X rd wr o st v u) (hK : K (stp st o.dst v u)) : OpOk X o st K:=by
 cases h with
 | val h hp hl => exact zDE h hp hK
 | valW h hle hp hl => exact zGV _ h hle hp hK
 | call h hc => exact zDF h hc hK
 | lit ho he hn hs hp => exact zFu ho he hn hs hp hK
 | callS ns h hc hnd ha hb hp hl => exact zFA ns h hc hnd ha hb hp hK
 | callB ns h hc hnd ha hb hl hlen =>
   refine zDY ns h hc hnd ha hb ?_
   unfold stp at hK
   rw [zHi hnd (by simpa using hlen)] at hK
   exact hK
 | callX ns h hc hnd ha hb hl hpk => exact opOk_callX ns h hc hnd ha hb (hpk _ _)
 | pick ho hc => exact zBX ho hc hK
 | onlit ho he hleaf hx hy hp => exact zBj ho he hleaf hx hy hp.1 hp.2 hK
 | app hk ho he hleaf hx hr hy hp =>
   unfold stp at hK; rw [zC1] at hK
   exact zBD ho he hleaf hx hr hy hp.1 hp.2.1 hp.2.2 hK
 | store hk ho hd hx hr hc hs hl =>
   unfold stp at hK; rw [zC1,hd] at hK
   exact zDX ho hd hx hr hc hs hl hK
def zEx (a b : List Nat) : Bool:=a.all fun n => !b.contains n
theorem zDK {a b : List Nat} (h : zEx a b = true) {n : Nat} (ha : a.contains n = true) (hb : b.contains n = true) : False:=by
 have:=List.all_eq_true.1 h n (by simpa using ha)
 rw [hb] at this; cases this
def Off (rd wr : List Nat) (u' : List (Nat × Res)) : Prop:=∀ p ∈ u',rd.contains p.1 = false /\ wr.contains p.1 = false
theorem zDs {rs : Nat -> Option Res} {rd wr : List Nat} {u' : List (Nat × Res)} (h : Off rd wr u') {n : Nat} (hn : rd.contains n = true \/ wr.contains n = true) : updL rs u' n = rs n:=
 zBe fun p hp e => by
  have:=h p hp
  rw [e] at this
  rcases hn with hn | hn
  . rw [this.1] at hn; cases hn
  . rw [this.2] at hn; cases hn
theorem zIZ {P : Program} {rs : Nat -> Option Res} {ea : Operand -> V} {rd wr : List Nat} {u : List (Nat × Res)} (hu : Off rd wr u) (op : Op) (hl : inO rd (loads ea op) = true) : act1 P (updL rs u) ea op = act1 P rs ea op:=by
 cases op
 case load t x =>
  simp only [act1,zEN]
  simp only [loads] at hl
  split
  . rfl
  . rename_i n o he
    rw [he] at hl
    simp only [inO] at hl
    rw [zDs hu (.inl hl)]
  . rfl
 case slice t x lo hi mx => cases mx <;> rfl
 all_goals rfl
theorem YldN.congr {rd wr : List Nat} {st st' : Vst nn} {v : V} {u : List (Nat × Res)} (hev : ∀ x ∈ o.op.operands,ev st' x = ev st x) (hrs : ∀ n,rd.contains n = true \/ wr.contains n = true -> st'.rs n = st.rs n) (hact : inO rd (loads (ev st) o.op) = true -> act1 X.P st'.rs (ev st') o.op = act1 X.P st.rs (ev st) o.op)
 (hact2 : ∀ f args,act1 X.P st'.rs (ev st') o.op = .call f args ↔ act1 X.P st.rs (ev st) o.op = .call f args) (h : YldN X rd wr o st v u) : YldN X rd wr o st' v u:=by
 have hloads:=zBl o.op hev
 cases h with
 | val h hp hl => exact .val (by rw [hact hl]; exact h) hp (by rw [hloads]; exact hl)
 | valW h hle hp hl => exact .valW (by rw [hact hl]; exact h) hle hp (by rw [hloads]; exact hl)
 | call h hc => exact .call ((hact2 _ _).2 h) hc
 | lit ho he hn hs hp => exact .lit ho he hn hs (zBW _ _ _ (fun p hp => (hev p.2 (by rw [ho]; simp [Op.operands]; exact ⟨p.1,by simpa using hp⟩)).symm) hp)
 | callB ns h hc hnd ha hb hl hlen =>
   refine .callB ns ((hact2 _ _).2 h) hc hnd ha ?_ hl hlen
   rw [<- hb]
   exact List.map_congr_left fun q hq => by rw [hrs q (.inr (List.all_eq_true.1 hl q hq))]
 | callX ns h hc hnd ha hb hl hpk v ρs hlen =>
   refine .callX ns ((hact2 _ _).2 h) hc hnd ha ?_ hl hpk _ _ hlen
   rw [<- hb]
   exact List.map_congr_left fun q hq => by rw [hrs q (.inr (List.all_eq_true.1 hl q hq))]
 | callS ns h hc hnd ha hb hp hl =>
   refine .callS ns ((hact2 _ _).2 h) hc hnd ha ?_ hp hl
   rw [<- hb]
   exact List.map_congr_left fun q hq => hrs q (.inl (List.all_eq_true.1 hl q hq))
 | pick ho hc =>
   rename_i c x y b
   rw [<- hev c (by rw [ho]; simp [Op.operands])] at hc
   rw [<- hev x (by rw [ho]; simp [Op.operands]),<- hev y (by rw [ho]; simp [Op.operands])]
   exact .pick ho hc
 | onlit ho he hleaf hx hy hp =>
   rw [<- hev _ (by rw [ho]; simp [Op.operands,Call.operands])] at hx
   rw [<- hev _ (by rw [ho]; simp [Op.operands,Call.operands])] at hy
   exact .onlit ho he hleaf hx hy hp
 | app hk ho he hleaf hx hr hy hp =>
   rw [<- hev _ (by rw [ho]; simp [Op.operands,Call.operands])] at hx
   rw [<- hev _ (by rw [ho]; simp [Op.operands,Call.operands])] at hy
   exact .app hk ho he hleaf hx (by rw [hrs _ (.inr hk)]; exact hr) hy hp
 | store hk ho hd hx hr hc hs hl =>
   rw [<- hev _ (by rw [ho]; simp [Op.operands])] at hx
   rw [<- hev _ (by rw [ho]; simp [Op.operands])] at hc
   exact .store hk ho hd hx (by rw [hrs _ (.inr hk)]; exact hr) hc hs hl
theorem YldG.of {rd wr : List Nat} {d : Option Tmp} {v v' : V} {u u' : List (Nat × Res)} (hd : ∀ t,d = some t -> t ∉ o.looksAt ops) (hu : Off rd wr u') :
 YldG X ops rd wr o (stp st d v' u') v u ↔ YldG X ops rd wr o st v u:=by
 have hev : ∀ x ∈ o.op.operands,ev (stp st d v' u') x = ev st x:=fun x hx => zEa fun t ht hxt => hd t ht (by
  subst hxt
  exact List.mem_append_left _ (List.mem_filterMap.2 ⟨.tmp t,by simpa using hx,rfl⟩))
 have hloads:=zBl o.op hev
 have hact : inO rd (loads (ev st) o.op) = true -> act1 X.P (stp st d v' u').rs (ev (stp st d v' u')) o.op = act1 X.P st.rs (ev st) o.op:=fun hl => by
  rw [zBi o.op hev,zCS]
  exact zIZ hu _ hl
 have hact2 : ∀ f args,act1 X.P (stp st d v' u').rs (ev (stp st d v' u')) o.op = .call f args ↔ act1 X.P st.rs (ev st) o.op = .call f args:=fun f args => by
  rw [zBi o.op hev]
  cases ho : o.op
  case load t x =>
   have nob : ∀ rs,act1 X.P rs (ev st) (.load t x) ≠ .call f args:=fun rs h => by
    simp only [act1,zEN,zBx] at h
    repeat' (split at h)
    all_goals cases h
   exact ⟨fun h => (nob _ h).elim,fun h => (nob _ h).elim⟩
  case slice t x lo hi mx => cases mx <;> rfl
  all_goals rfl
 have hgv : ∀ j want,o.guard = some (j,want) -> gval ops (stp st d v' u') j = gval ops st j:=fun j want hg => by
  unfold gval
  cases ht : (ops[j]?).bind (·.dst) with
  | none => rfl
  | some t =>
    have : ev (stp st d v' u') (.tmp t) = ev st (.tmp t):=zEa fun q hq hqt => by
     cases hqt
     exact hd t hq (by simp [Oper.looksAt,hg,ht])
    simp only [this]
 have hgw : gw ops o (stp st d v' u') = gw ops o st:=by
  unfold gw
  cases hg : o.guard with
  | none => rfl
  | some jw => simp only [hgv jw.1 jw.2 hg]
 have hrs : ∀ n,rd.contains n = true \/ wr.contains n = true -> (stp st d v' u').rs n = st.rs n:=fun n hn => by
  rw [zCS]; exact zDs hu hn
 unfold YldG
 rw [hgw]
 refine or_congr (and_congr Iff.rfl ⟨fun h => ?_,fun h => ?_⟩) Iff.rfl
 . exact h.congr (fun x hx => (hev x hx).symm) (fun n hn => (hrs n hn).symm) (fun hl => (hact (by rw [hloads] at hl; exact hl)).symm) fun f args => (hact2 f args).symm
 . exact h.congr hev hrs hact hact2
theorem YldG.names {rd wr : List Nat} {v : V} {u : List (Nat × Res)} (h : YldG X ops rd wr o st v u) : ∀ p ∈ u,wr.contains p.1 = true:=by
 rcases h with ⟨_,h⟩ | ⟨_,_,rfl⟩
 . cases h with
   | app hk => exact fun p hp => by simp at hp; subst hp; exact hk
   | store hk => exact fun p hp => by simp at hp; subst hp; exact hk
   | callB ns h hc hnd ha hb hl hlen => exact fun p hp => List.all_eq_true.1 hl _ (List.of_mem_zip hp).1
   | callX ns h hc hnd ha hb hl => exact fun p hp => List.all_eq_true.1 hl _ (List.of_mem_zip hp).1
   | _ => exact fun p hp => by simp at hp
 . exact fun p hp => by simp at hp
theorem updL_comm {rs : Nat -> Option Res} {u u' : List (Nat × Res)} (h : ∀ p ∈ u,∀ q ∈ u',p.1 ≠ q.1) : updL (updL rs u) u' = updL (updL rs u') u:=by
 have look : ∀ (rs : Nat -> Option Res) (u : List (Nat × Res)) (m : Nat),(∃ p ∈ u,p.1 = m) -> ∀ rs',updL rs u m = updL rs' u m:=by
  intro rs u m hm rs'
  induction u with
  | nil => obtain ⟨p,hp,_⟩:=hm; simp at hp
  | cons x u ih =>
    obtain ⟨k,ρ⟩:=x
    show (if m = k then some ρ else updL rs u m) = if m = k then some ρ else updL rs' u m
    by_cases e : m = k
    . rw [if_pos e,if_pos e]
    . rw [if_neg e,if_neg e]
      obtain ⟨p,hp,he⟩:=hm
      rcases List.mem_cons.1 hp with rfl | hp
      . exact absurd he.symm e
      . exact ih ⟨p,hp,he⟩
 funext m
 by_cases h1 : ∃ p ∈ u,p.1 = m
 . have h2 : ∀ q ∈ u',q.1 ≠ m:=fun q hq e => by
    obtain ⟨p,hp,he⟩:=h1
    exact h p hp q hq (he.trans e.symm)
   rw [zBe h2,look (updL rs u') u m h1 rs]
 . have h3 : ∀ p ∈ u,p.1 ≠ m:=fun p hp e => h1 ⟨p,hp,e⟩
   rw [zBe (rs:=updL rs u') h3]
   by_cases h2 : ∃ q ∈ u',q.1 = m
   . rw [look (updL rs u) u' m h2 rs]
   . have h4 : ∀ q ∈ u',q.1 ≠ m:=fun q hq e => h2 ⟨q,hq,e⟩
     rw [zBe h4,zBe h4,zBe h3]
theorem stp_commG {d d' : Option Tmp} {v v' : V} {u u' : List (Nat × Res)} (h : ∀ t,d = some t -> d' ≠ some t) (hu : ∀ p ∈ u,∀ q ∈ u',p.1 ≠ q.1) : stp (stp st d v u) d' v' u' = stp (stp st d' v' u') d v u:=by
 have hpr : ∀ (st : Vst nn) (d : Option Tmp) (v : V) (r : Nat -> Option Res),({ (st.put d v) with rs:=r } : Vst nn) = ({ st with rs:=r } : Vst nn).put d v:=fun st d v r => by cases d <;> rfl
 unfold stp
 rw [hpr,hpr,zGQ,zGQ,updL_comm hu]
 exact put_comm h
variable {rd wr : Nat -> List Nat}
def zHz (ops : Array Oper) (rd wr : Nat -> List Nat) : Bool:=(List.range ops.size).all fun j => (List.range j).all fun i =>
 (zEx (wr i) (rd j) && zEx (wr i) (wr j) && zEx (wr j) (rd i)) || (reachS ops ops.size (zGG ops j)).contains i
theorem zFn {listed : Array Bool} {k : Nat} (h : k < listed.size) : (listed.setIfInBounds k true).getD k false = true:=by
 simp [Array.getD_eq_getD_getElem?,h]
def nmf (l : List (Nat × List Nat)) (k : Nat) : List Nat:=match l.find? (fun p => p.1 == k) with | some p => p.2 | none => []
def Dead (st : Vst nn) : Prop:=∃ m t,st.rs m = some (.box t [.c (.tuple #[])])
theorem Dead.no {s : Sg} {w : World} {a : Act} (h : Dead st) (hI : Inv X st s w a) : False:=by
 obtain ⟨m,t,h1⟩:=h
 obtain ⟨b,cs,-,-,h2,-⟩:=hI.mem.ho m _ h1
 cases hc : cs.toList with
 | nil => rw [hc] at h2; simp [relL] at h2
 | cons x r =>
   rw [hc,relL,rel] at h2
   exact h2.1.2
end
end Go.Proofs.YtdlnnlglmifceaaDoor
namespace Go.Proofs.YtdlnnlglmifceaaDoor
open Go.RowKit
attribute [local irreducible] wpList Calls Code.wp
section
variable {X : Cx} {nn : Nat} {st : Vst nn} {o : Oper} {ops : Array Oper} {l : List Oper} {d : Option Tmp} {KK : Vst nn -> Prop}
theorem zAB {j : Nat} {want b : Bool} (hg : o.guard = some (j,want)) (hd : o.dst = d) (hb : gval ops st j = some b) (hne : (b == want) = false) (hK : AWo X ops l (st.put d (.tup [])) KK) : AWo X ops (o :: l) st KK:=fun s w a hI Q hP hQ => by
 have hy:=zHP hb hI
 refine wpList_step fun K' hK' => ?_
 have hwt : Region.wanted o (yielded ops a.tmps) = (b == want):=by simp [Region.wanted,hg,hy]
 rw [hwt,if_neg (by rw [hne]; decide)]
 exact hK' _ _ (hK s w (a.put o.dst undef) (by rw [hd]; exact hI.put d (by rw [rel]; exact ⟨#[],rfl,by simp [relL]⟩)) Q hP hQ)
theorem zAm {j : Nat} {want : Bool} {t : Tmp} (hg : o.guard = some (j,want)) (hd : o.dst = d) (ht : (ops[j]?).bind (·.dst) = some t) (hu : ev st (.tmp t) = .tup []) (hK : AWo X ops l (st.put d (.tup [])) KK) : AWo X ops (o :: l) st KK:=fun s w a hI Q hP hQ => by
 have hr:=hI.ev (.tmp t)
 rw [hu,rel] at hr
 have he : a.tmps.getD t undef = undef:=by
  obtain ⟨cs,h1,h2⟩:=hr
  have : cs = #[]:=by
   apply Array.ext'
   cases hc : cs.toList with
   | nil => rfl
   | cons x xs => rw [hc] at h2; simp [relL] at h2
  have h3 : a.tmps.getD t undef = .tuple cs:=h1
  rw [h3,this]; rfl
 have hy : yielded ops a.tmps j = none:=by
  unfold yielded
  rw [ht]
  simp only [Option.bind_some]
  rw [Array.getD_eq_getD_getElem?] at he
  cases hq : a.tmps[t]? with
  | none => simp
  | some u => rw [hq] at he; simp at he; rw [he]; rfl
 refine wpList_step fun K' hK' => ?_
 have hwt : Region.wanted o (yielded ops a.tmps) = false:=by simp [Region.wanted,hg,hy]
 rw [hwt,if_neg (by decide)]
 exact hK' _ _ (hK s w (a.put o.dst undef) (by rw [hd]; exact hI.put d (by rw [rel]; exact ⟨#[],rfl,by simp [relL]⟩)) Q hP hQ)
theorem zb {j : Nat} {want b : Bool} {p : Prop} {v : V} (hg : o.guard = some (j,want)) (hd : o.dst = d) (hb : gval ops st j = some b) (h : act1 X.P st.rs (ev st) o.op = .val p v) (hK : (b == want) = true -> AWo X ops l (st.put d v) KK) (hp : (b == want) = true -> p)
 (hN : (b == want) = false -> AWo X ops l (st.put d (.tup [])) KK) : AWo X ops (o :: l) st KK:=by
 cases e : b == want
 . exact zAB hg hd hb e (hN e)
 . exact zQ hg hd hb e h (hK e) (hp e)
theorem zt {j : Nat} {want b : Bool} {f : FuncId} {args : List V} {r : V} (hg : o.guard = some (j,want)) (hd : o.dst = d) (hb : gval ops st j = some b) (h : act1 X.P st.rs (ev st) o.op = .call f args) (hc : AC X.e X.P f (outL args) r) (hK : (b == want) = true -> AWo X ops l (st.put d r) KK)
 (hN : (b == want) = false -> AWo X ops l (st.put d (.tup [])) KK) : AWo X ops (o :: l) st KK:=by
 cases e : b == want
 . exact zAB hg hd hb e (hN e)
 . exact zP hg hd hb e h hc (hK e)
end
section
variable {X : Cx} {nn : Nat} {st : Vst nn} {o : Oper} {ops : Array Oper} {l : List Oper} {dst : Option Tmp} {KK : Vst nn -> Prop}
theorem zAK {j : Nat} {want b b' : Bool} {c x y : Operand} (hg : o.guard = some (j,want)) (ho : o.op = .pick c x y) (hd : o.dst = dst) (hb : gval ops st j = some b) (hne : (b == want) = true) (hc : ev st c = .c (.bool b')) (hb' : b' = true) (hK : AWo X ops l (st.put dst (ev st x)) KK) : AWo X ops (o :: l) st KK:=
 zB9 hg hb (fun _ => zBX ho hc (by rw [hd,hb']; exact hK)) fun e => (e (by simpa using hne)).elim
theorem zAL {j : Nat} {want b b' : Bool} {c x y : Operand} (hg : o.guard = some (j,want)) (ho : o.op = .pick c x y) (hd : o.dst = dst) (hb : gval ops st j = some b) (hne : (b == want) = true) (hc : ev st c = .c (.bool b')) (hb' : b' = false) (hK : AWo X ops l (st.put dst (ev st y)) KK) : AWo X ops (o :: l) st KK:=
 zB9 hg hb (fun _ => zBX ho hc (by rw [hd,hb']; exact hK)) fun e => (e (by simpa using hne)).elim
end
end Go.Proofs.YtdlnnlglmifceaaDoor
namespace Go.Proofs.YtdlnnlglmifceaaDoor
open Go.RowKit
attribute [local irreducible] wpList Calls Code.wp
section
variable {X : Cx} {nn : Nat} {st : Vst nn} {o : Oper} {ops : Array Oper} {l : List Oper} {KK : Vst nn -> Prop}
def w1 (X : Cx) (ops : Array Oper) (l : List Oper) (st : Vst nn) (o : Oper) (KK : Vst nn -> Prop) : Prop:=
 match act1 X.P st.rs (ev st) o.op with
 | .val p v => AWo X ops l (st.put o.dst v) KK /\ p
 | .call _ _ => False
 | .bad => match o.op with
   | .alloc t => match o.dst with
     | some m => match zD3 X.P t with
       | some vs => match Nat.ble m 999999 && freeL m vs with
         | true => AWo X ops l (((st.kill m).res m (.box t vs)).put (some m) (.bx m 0)) KK /\ True
         | false => False
       | none => False
     | none => False
   | .pick c x y => match ev st c with
     | .c (.bool b) => match b with
       | true => AWo X ops l (st.put o.dst (ev st x)) KK /\ True
       | false => AWo X ops l (st.put o.dst (ev st y)) KK /\ True
     | _ => False
   | _ => False
theorem w1_ok (h : w1 X ops l st o KK) : OpOk X o st (fun st' => AWo X ops l st' KK):=by
 unfold w1 at h
 split at h
 . rename_i p v e
   exact zDE e h.2 h.1
 . exact h.elim
 . split at h
   . rename_i t ho
     split at h
     . rename_i m hd
       split at h
       . rename_i vs hz
         split at h
         . rename_i hb
           rw [Bool.and_eq_true] at hb
           exact zDZ ho hd hb.1 hz hb.2 h.1
         . exact h.elim
       . exact h.elim
     . exact h.elim
   . rename_i c x y ho
     split at h
     . rename_i b hc
       split at h
       . exact zBX ho hc h.1
       . exact zBX ho hc h.1
     . exact h.elim
   . exact h.elim
def w2 (X : Cx) (ops : Array Oper) (l : List Oper) (st : Vst nn) (o : Oper) (KK : Vst nn -> Prop) : Prop:=
 match o.guard with
 | none => w1 X ops l st o KK
 | some (j,want) => match (ops[j]?).bind (·.dst) with
   | some t => match ev st (.tmp t) with
     | .c (.bool b) => match b == want with
       | true => w1 X ops l st o KK
       | false => AWo X ops l (st.put o.dst (.tup [])) KK /\ True
     | .tup [] => AWo X ops l (st.put o.dst (.tup [])) KK /\ True
     | _ => False
   | none => False
theorem s_1 (h : w2 X ops l st o KK) : AWo X ops (o :: l) st KK:=by
 unfold w2 at h
 split at h
 . rename_i hg
   exact zAs hg (w1_ok h)
 . rename_i j want hg
   split at h
   . rename_i t ht
     split at h
     . rename_i b hb
       have hv : gval ops st j = some b:=by unfold gval; rw [ht]; dsimp only; rw [hb]
       split at h
       . rename_i e
         exact zB9 hg hv (fun _ => w1_ok h) fun q => (q (by simpa using e)).elim
       . rename_i e
         exact zAB hg rfl hv e h.1
     . rename_i hb
       exact zAm hg rfl ht hb h.1
     . exact h.elim
   . exact h.elim
def w3 (X : Cx) (c : Code) (st : Vst nn) (K : Exit -> Vst nn -> Prop) : Prop:=
 match c with
 | .seq x y => AW X x st (seqK X y K) /\ True
 | .block id c => AW X c st (zAf id K) /\ True
 | .scope c => AW X c st (zAj K) /\ True
 | .skip => K .normal st /\ True
 | .label _ => K .normal st /\ True
 | .ret => K .ret st /\ True
 | .exit id => K (.exit id) st /\ True
 | .cond c x y => match ev st c with
   | .c (.bool b) => match b with
     | true => AW X x st K /\ True
     | false => AW X y st K /\ True
   | _ => False
 | _ => False
theorem aw_1 {c : Code} {K : Exit -> Vst nn -> Prop} (h : w3 X c st K) : AW X c st K:=by
 unfold w3 at h
 split at h
 . exact aw_seq h.1
 . exact aw_block h.1
 . exact aw_scope h.1
 . exact aw_skip h.1
 . exact aw_label h.1
 . exact zv h.1
 . exact zh h.1
 . rename_i c x y
   split at h
   . rename_i b hc
     split at h
     . exact zd hc (fun _ => h.1) fun e => by cases e
     . exact zd hc (fun e => by cases e) fun _ => h.1
   . exact h.elim
 . exact h.elim
end
end Go.Proofs.YtdlnnlglmifceaaDoor
namespace Go.Proofs.YtdlnnlglmifceaaDoor
open Go.RowKit
attribute [local irreducible] wpList Calls Code.wp
theorem zBw {a b : Bool} (h : a = b) : Ending.returned (.bool a) = .returned (.bool b):=by rw [h]
def Yn (b : Bool) (w : World) (e : Ending) (w' : World) : Prop:=e = .returned (.bool b) /\ w = w'
theorem zGd (v : Int) (w : World) (h0 : 0 <= v) (h1 : v <= 255) : Calls Tryd.prog 57 #[.int .u8 v] w (Yn (letB v) w):=by
 have hc:=nm_cases v
 rcases hc with h | h | h | h | h | h | h | h | h
 all_goals first
  | (subst h; rw [show letB _ = _ from rfl])
  | (rw [letB_true (by omega)]; have q : (v == 95) = false:=beq_false_of_ne (by omega))
  | (rw [letB_false (by omega)]; have q : (v == 95) = false:=beq_false_of_ne (by omega))
 all_goals
  go_enter Tryd.func57,Tryd.ntmps57
  go_wp2
  go_ret
  exact ⟨zBw (by first | rfl | (simp; omega)),rfl⟩
theorem digit (v : Int) (w : World) (h0 : 0 <= v) (h1 : v <= 255) : Calls Tryd.prog 58 #[.int .u8 v] w (Yn (digB v) w):=by
 have hc : v < 48 \/ (48 <= v /\ v <= 57) \/ 58 <= v:=by omega
 rcases hc with h | h | h
 all_goals first
  | rw [digB_true (by omega)]
  | rw [zFP (by omega)]
 all_goals
  go_enter Tryd.func58,Tryd.ntmps58
  go_wp2
  go_ret
  exact ⟨zBw (by first | rfl | (simp; omega)),rfl⟩
theorem nameR (s : ByteArray) (w : World) (hs : s.size <= 9223372036854775807) : Calls Tryd.prog 40 #[.string s] w (Yn (nameB s) w):=by
 by_cases h0 : 0 < s.size
 . by_cases h1 : s.size <= 64
   . have q1 : ¬ (s.size : Int) < 1:=by omega
     have q2 : decide ((s.size : Int) > 64) = false:=decide_eq_false (by omega)
     go_enter Tryd.func40,Tryd.ntmps40
     go_wp2
     go_loop [3] (fun i => ∃ m : Nat,m <= s.size /\ i = .int .i64 m /\ (0 < m -> digB (bV s 0) = false) /\ ∀ k,k < m -> (letB (bV s k) || digB (bV s k)) = true) (fun i => s.size - (intOf i).toNat)
     case atStart => exact ⟨0,by omega,rfl,fun h => by omega,fun k hk => by omega⟩
     case round =>
      obtain ⟨x,hx,rfl,hd,hall⟩:=hrel
      have Hall:=Lib.hid hall; have Hd:=Lib.hid hd
      clear hall hd
      by_cases hlt : x < s.size
      . have hb:=bV_at hlt
        have hr:=zIW s x
        have Hat:=Lib.hid (@nameB_at s x hlt)
        have Hdg:=Lib.hid (@nameB_dig s)
        have Hstep:=Lib.hid (show (letB (bV s x) || digB (bV s x)) = true -> ∀ k,k < x + 1 -> (letB (bV s k) || digB (bV s k)) = true from fun h k hk => by
         by_cases e : k = x
         . rw [e]; exact h
         . exact Hall.out k (by omega))
        by_cases hl : letB (bV s x) = true
        . have hd0 : x = 0 -> digB (bV s 0) = false:=fun e => by
           subst e
           have hl:=of_decide_eq_true hl
           exact zFP (by omega)
          have Hd0:=Lib.hid hd0
          have Hl:=Lib.hid hl
          generalize bV s x = v at *
          clear hd0
          go_wp2_with (go_at_call 57; refine (zGd _ _ (by omega) (by omega)).mono ?_; rintro e w' ⟨rfl,rfl⟩)
          go_round
          case rel => exact ⟨x + 1,by omega,by go_num,fun _ => by
           by_cases e : x = 0
           . exact Hd0.out e
           . exact Hd.out (by omega),Hstep.out (by rw [Hl.out]; rfl)⟩
          case measure => simp [intOf]; omega
        . have hl2 : letB (bV s x) = false:=by simpa using hl
          have Hl:=Lib.hid hl2
          clear hl
          by_cases hdg : digB (bV s x) = true
          . have Hdt:=Lib.hid hdg
            by_cases hx0 : x = 0
            . subst hx0
              have hno:=Hdg.out hdg
              have Hno:=Lib.hid hno
              clear hno
              generalize bV s 0 = v at *
              go_wp2_with (go_at_call 57; refine (zGd _ _ (by omega) (by omega)).mono ?_; rintro e w' ⟨rfl,rfl⟩)
              go_ret
              exact ⟨zBw Hno.out.symm,rfl⟩
            . have q3 : ((x : Int) == 0) = false:=beq_false_of_ne (by omega)
              generalize bV s x = v at *
              go_wp2_with (first | (go_at_call 57; refine (zGd _ _ (by omega) (by omega)).mono ?_; rintro e w' ⟨rfl,rfl⟩) | (go_at_call 58; refine (digit _ _ (by omega) (by omega)).mono ?_; rintro e w' ⟨rfl,rfl⟩))
              go_round
              case rel => exact ⟨x + 1,by omega,by go_num,fun _ => Hd.out (by omega),Hstep.out (by rw [Hl.out,Hdt.out]; rfl)⟩
              case measure => simp [intOf]; omega
          . have hdg2 : digB (bV s x) = false:=by simpa using hdg
            have hno:=Hat.out (by rw [Hl.out,hdg2]; rfl)
            have Hno:=Lib.hid hno
            clear hno hdg
            by_cases hx0 : x = 0
            . subst hx0
              generalize bV s 0 = v at *
              go_wp2_with (first | (go_at_call 57; refine (zGd _ _ (by omega) (by omega)).mono ?_; rintro e w' ⟨rfl,rfl⟩) | (go_at_call 58; refine (digit _ _ (by omega) (by omega)).mono ?_; rintro e w' ⟨rfl,rfl⟩))
              go_ret
              exact ⟨zBw Hno.out.symm,rfl⟩
            . have q3 : ((x : Int) == 0) = false:=beq_false_of_ne (by omega)
              generalize bV s x = v at *
              go_wp2_with (first | (go_at_call 57; refine (zGd _ _ (by omega) (by omega)).mono ?_; rintro e w' ⟨rfl,rfl⟩) | (go_at_call 58; refine (digit _ _ (by omega) (by omega)).mono ?_; rintro e w' ⟨rfl,rfl⟩))
              go_ret
              exact ⟨zBw Hno.out.symm,rfl⟩
      . obtain rfl : x = s.size:=by omega
        have hyes:=nameB_yes h0 h1 (Hd.out h0) Hall.out
        have Hyes:=Lib.hid hyes
        clear hyes
        go_wp2
        go_ret
        exact ⟨zBw Hyes.out.symm,rfl⟩
   . have hno:=zH0 (s:=s) (by omega)
     have Hno:=Lib.hid hno
     have q1 : ¬ (s.size : Int) < 1:=by omega
     have q2 : decide ((s.size : Int) > 64) = true:=decide_eq_true (by omega)
     clear hno
     go_enter Tryd.func40,Tryd.ntmps40
     go_wp2
     go_ret
     exact ⟨zBw Hno.out.symm,rfl⟩
 . have hno:=zH0 (s:=s) (by omega)
   have Hno:=Lib.hid hno
   have q1 : (s.size : Int) < 1:=by omega
   clear hno
   go_enter Tryd.func40,Tryd.ntmps40
   go_wp2
   go_ret
   exact ⟨zBw Hno.out.symm,rfl⟩
end Go.Proofs.YtdlnnlglmifceaaDoor
