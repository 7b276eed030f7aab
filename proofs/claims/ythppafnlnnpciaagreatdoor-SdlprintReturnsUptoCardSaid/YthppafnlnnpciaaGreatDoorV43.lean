import Derived.Test.YthppafnlnnpciaaGreatDoorV35
set_option maxHeartbeats 8000000
set_option maxRecDepth 100000
set_option linter.unusedVariables false
set_option linter.unusedSimpArgs false
namespace Go.Proofs.YthppafnlnnpciaaGreatDoor
section
open Go.RowKit
set_option linter.unusedSectionVars false
theorem cB {a b:Bool} (h:a=b):V.c (.bool a)=V.c (.bool b):=by rw [h]
attribute [local irreducible] wpList Calls Code.wp AW AWo OpOk seqK zz z8 loopK endK AC zl Yld Sub
attribute [local irreducible] ACB ACX ACE absLexG YldG absLexH
section
variable {lit:D->Bool} (hN : ∀ s:ByteArray,AC EN5 Tryz.prog 67 [.c (.string s)] (.c (.bool (nameB s)))) (hL : ∀ d:D,AC EN5 Tryz.prog 182 [.agg (cellsV Tryz.prog 12 53 d)] (.c (.bool (lit d)))) (hR : ∀ d:D,AC EN5 Tryz.prog 132 [.agg (cellsV Tryz.prog 12 48 d)] (.c (.bool (refR d))))
include hN hL hR
end
end
section
open Go.RowKit
attribute [local irreducible] wpList Calls Code.wp
section
variable {X:Cx} {nn:Nat} {st:Vst nn} {ops:Array Oper} {o:Oper}
def gvD (ops:Array Oper) (st:Vst nn) (j:Nat):Option (Option Bool):=
 match (ops[j]?).bind (·.dst) with
 |some d=>match ev st (.tmp d) with | .c (.bool b)=>some (some b) | .tup []=>some none | _=>none
 |none=>none
def gwD (ops:Array Oper) (o:Oper) (st:Vst nn):Option Bool:=
 match o.guard with
 |none=>some true
 |some (j,want)=>(gvD ops st j).map (· == some want)
inductive YldT (X:Cx) (rd wr:List Nat) (o:Oper) (st:Vst nn):V->List (Nat × Res)->Prop where
 |val {p:Prop} {v:V} (h:act1 X.P st.rs (ev st) o.op = .val p v) (hp:p) (hl:inO rd (loads (ev st) o.op)=true):YldT X rd wr o st v []
 |valW {p:Prop} {v v':V} (h:act1 X.P st.rs (ev st) o.op = .val p v) (hle:VLe v v') (hp:p) (hl:inO rd (loads (ev st) o.op)=true):YldT X rd wr o st v' []
 |call {f:FuncId} {args:List V} {v:V} (h:act1 X.P st.rs (ev st) o.op = .call f args) (hc:AC X.e X.P f (outL args) v):YldT X rd wr o st v []
 |lit {t e:TypeId} {b m:Nat} {parts:Array (Nat × Operand)} {ds:List D} (ho:o.op = .buildSlice t m parts) (he:zAD X.P t=some (e,b)) (hn:m=ds.length) (hs:m*X.P.cellsOf e<=2^24) (hp:zCo X.P e (ev st) parts.toList 0 ds):YldT X rd wr o st (.lit e ds) []
 |pick {c x y:Operand} {b:Bool} (ho:o.op = .pick c x y) (hc:ev st c = .c (.bool b)):YldT X rd wr o st (bif b then ev st x else ev st y) []
 |callB {f:FuncId} {vargs args:List V} {bs bs':List Res} {r:V} (ns:List Nat) (h:act1 X.P st.rs (ev st) o.op = .call f vargs) (hc:ACB X.e X.P f args bs r bs') (hnd:ns.Nodup) (ha:renL (φin ns) vargs=args) (hb:ns.map (fun n=>(st.rs n).map (renR (φin ns)))=bs.map some)
   (hl:ns.all (fun n=>wr.contains n)=true) (hlen:bs'.length=ns.length):YldT X rd wr o st (renV (φout ns) r) (ns.zip (bs'.map (renR (φout ns))))
 |callR {f:FuncId} {vargs args:List V} {bs:List Res} {r:V} (ns:List Nat) (h:act1 X.P st.rs (ev st) o.op = .call f vargs) (hc:ACB X.e X.P f args bs r bs) (hnd:ns.Nodup) (ha:renL (φin ns) vargs=args) (hb:ns.map st.rs=bs.map some) (hp : ∀ ρ∈bs,∀ φ,renR φ ρ=ρ)
   (hl:ns.all (fun n=>rd.contains n)=true):YldT X rd wr o st (renV (φout ns) r) []
 |onlit {t e:TypeId} {b:Nat} {x y:Operand} {l l2:List D} (ho:o.op = .call { callee:=.builtin .append,args:=#[x,y],argTypes:=#[t,t] }) (he:zAD X.P t=some (e,b)) (hleaf : ∀ d,(cellsV X.P 12 e d).all V.leaf=true)
   (hx:ev st x = .lit e l) (hy:(ev st y).out = .sl e l2) (hp:l.length+l2.length<=maxLen/\(l.length+l2.length)*b<=140737488355328):YldT X rd wr o st (.sl e (l++l2)) []
 |app {t e:TypeId} {b k:Nat} {x y:Operand} {l l2:List D} (hk:wr.contains k=true) (ho:o.op = .call { callee:=.builtin .append,args:=#[x,y],argTypes:=#[t,t] }) (he:zAD X.P t=some (e,b)) (hleaf : ∀ d,(cellsV X.P 12 e d).all V.leaf=true)
   (hx:ev st x = .own k e l) (hr:st.rs k=some (.tok e l.length)) (hy:(ev st y).out = .sl e l2) (hp:0<l2.length/\l.length+l2.length<=maxLen/\(l.length+l2.length)*b<=140737488355328) :
   YldT X rd wr o st (.own k e (l++l2)) [(k,.tok e (l.length+l2.length))]
 |store {t t':TypeId} {x y:Operand} {n off:Nat} {vs xs:List V} (hk:wr.contains n=true) (ho:o.op = .store t x y) (hd:o.dst=none) (hx:ev st x = .bx n off) (hr:st.rs n=some (.box t' vs)) (hc:cellsOf (ev st y)=some xs)
   (hs:X.P.cellsOf t=xs.length/\(X.P.info? t).isSome) (hl:off+xs.length<=vs.length):YldT X rd wr o st .any [(n,.box t' (splice vs off xs))]
def YldU (X:Cx) (ops:Array Oper) (rd wr:List Nat) (o:Oper) (st:Vst nn) (v:V) (u:List (Nat × Res)):Prop:=
 (gwD ops o st=some true/\YldT X rd wr o st v u)\/(gwD ops o st=some false/\v = .tup []/\u=[])
theorem YldT.congr {rd wr:List Nat} {st st':Vst nn} {v:V} {u:List (Nat × Res)} (hev : ∀ x∈o.op.operands,ev st' x=ev st x) (hrs : ∀ n,rd.contains n=true\/wr.contains n=true->st'.rs n=st.rs n) (hact:inO rd (loads (ev st) o.op)=true->act1 X.P st'.rs (ev st') o.op=act1 X.P st.rs (ev st) o.op)
 (hact2 : ∀ f args,act1 X.P st'.rs (ev st') o.op = .call f args ↔ act1 X.P st.rs (ev st) o.op = .call f args) (h:YldT X rd wr o st v u):YldT X rd wr o st' v u:=by
 have hloads:=zBn o.op hev
 cases h with
 |val h hp hl=>exact .val (by rw [hact hl];exact h) hp (by rw [hloads];exact hl)
 |valW h hle hp hl=>exact .valW (by rw [hact hl];exact h) hle hp (by rw [hloads];exact hl)
 |call h hc=>exact .call ((hact2 _ _).2 h) hc
 |lit ho he hn hs hp=>exact .lit ho he hn hs (zBQ _ _ _ (fun p hp=>(hev p.2 (by rw [ho];simp [Op.operands];exact ⟨p.1,by simpa using hp⟩)).symm) hp)
 |callB ns h hc hnd ha hb hl hlen =>
  refine .callB ns ((hact2 _ _).2 h) hc hnd ha ?_ hl hlen
  rw [<- hb]
  exact List.map_congr_left fun q hq=>by rw [hrs q (.inr (List.all_eq_true.1 hl q hq))]
 |callR ns h hc hnd ha hb hp hl =>
  refine .callR ns ((hact2 _ _).2 h) hc hnd ha ?_ hp hl
  rw [<- hb]
  exact List.map_congr_left fun q hq=>hrs q (.inl (List.all_eq_true.1 hl q hq))
 |pick ho hc =>
  rename_i c x y b
  rw [<- hev c (by rw [ho];simp [Op.operands])] at hc
  rw [<- hev x (by rw [ho];simp [Op.operands]),<- hev y (by rw [ho];simp [Op.operands])]
  exact .pick ho hc
 |onlit ho he hleaf hx hy hp =>
  rw [<- hev _ (by rw [ho];simp [Op.operands,Call.operands])] at hx
  rw [<- hev _ (by rw [ho];simp [Op.operands,Call.operands])] at hy
  exact .onlit ho he hleaf hx hy hp
 |app hk ho he hleaf hx hr hy hp =>
  rw [<- hev _ (by rw [ho];simp [Op.operands,Call.operands])] at hx
  rw [<- hev _ (by rw [ho];simp [Op.operands,Call.operands])] at hy
  exact .app hk ho he hleaf hx (by rw [hrs _ (.inr hk)];exact hr) hy hp
 |store hk ho hd hx hr hc hs hl =>
  rw [<- hev _ (by rw [ho];simp [Op.operands])] at hx
  rw [<- hev _ (by rw [ho];simp [Op.operands])] at hc
  exact .store hk ho hd hx (by rw [hrs _ (.inr hk)];exact hr) hc hs hl
theorem YldU.of {rd wr:List Nat} {d:Option Tmp} {v v':V} {u u':List (Nat × Res)} (hd : ∀ t,d=some t->t ∉ o.looksAt ops) (hu:Off rd wr u') :
 YldU X ops rd wr o (stp st d v' u') v u ↔ YldU X ops rd wr o st v u:=by
 have hev : ∀ x∈o.op.operands,ev (stp st d v' u') x=ev st x:=fun x hx=>zFb fun t ht hxt=>hd t ht (by
  subst hxt
  exact List.mem_append_left _ (List.mem_filterMap.2 ⟨.tmp t,by simpa using hx,rfl⟩))
 have hloads:=zBn o.op hev
 have hact:inO rd (loads (ev st) o.op)=true->act1 X.P (stp st d v' u').rs (ev (stp st d v' u')) o.op=act1 X.P st.rs (ev st) o.op:=fun hl=>by
  rw [zBh o.op hev,zCk]
  exact zK9 hu _ hl
 have hact2 : ∀ f args,act1 X.P (stp st d v' u').rs (ev (stp st d v' u')) o.op = .call f args ↔ act1 X.P st.rs (ev st) o.op = .call f args:=fun f args=>by
  rw [zBh o.op hev]
  cases ho:o.op
  case load t x =>
   have nob : ∀ rs,act1 X.P rs (ev st) (.load t x) ≠ .call f args:=fun rs h=>by
    simp only [act1,zFL,zB1] at h
    repeat' (split at h)
    all_goals cases h
   exact ⟨fun h=>(nob _ h).elim,fun h=>(nob _ h).elim⟩
  case slice t x lo hi mx=>cases mx<;>rfl
  all_goals rfl
 have hgv : ∀ j want,o.guard=some (j,want)->gvD ops (stp st d v' u') j=gvD ops st j:=fun j want hg=>by
  unfold gvD
  cases ht:(ops[j]?).bind (·.dst) with
  |none=>rfl
  |some t =>
   have:ev (stp st d v' u') (.tmp t)=ev st (.tmp t):=zFb fun q hq hqt=>by
    cases hqt
    exact hd t hq (by simp [Oper.looksAt,hg,ht])
   simp only [this]
 have hgw:gwD ops o (stp st d v' u')=gwD ops o st:=by
  unfold gwD
  cases hg:o.guard with
  |none=>rfl
  |some jw=>simp only [hgv jw.1 jw.2 hg]
 have hrs : ∀ n,rd.contains n=true\/wr.contains n=true->(stp st d v' u').rs n=st.rs n:=fun n hn=>by
  rw [zCk];exact zEo hu hn
 unfold YldU
 rw [hgw]
 refine or_congr (and_congr Iff.rfl ⟨fun h => ?_,fun h => ?_⟩) Iff.rfl
 . exact h.congr (fun x hx=>(hev x hx).symm) (fun n hn=>(hrs n hn).symm) (fun hl=>(hact (by rw [hloads] at hl;exact hl)).symm) fun f args=>(hact2 f args).symm
 . exact h.congr hev hrs hact hact2
theorem YldU.names {rd wr:List Nat} {v:V} {u:List (Nat × Res)} (h:YldU X ops rd wr o st v u) : ∀ p∈u,wr.contains p.1=true:=by
 rcases h with ⟨_,h⟩ | ⟨_,_,rfl⟩
 . cases h with
   |app hk=>exact fun p hp=>by simp at hp;subst hp;exact hk
   |store hk=>exact fun p hp=>by simp at hp;subst hp;exact hk
   |callB ns h hc hnd ha hb hl hlen=>exact fun p hp=>List.all_eq_true.1 hl _ (List.of_mem_zip hp).1
   |_=>exact fun p hp=>by simp at hp
 . exact fun p hp=>by simp at hp
variable {rd wr:Nat->List Nat}
end
end
section
open Go.RowKit
set_option linter.unusedSectionVars false
theorem kind_dec (k:Int):decide (1<=k/\k<=5)=((k==1||k==2)||(k==3||k==4)||k==5):=by
 by_cases h1:k=1
 . subst h1;rfl
 by_cases h2:k=2
 . subst h2;rfl
 by_cases h3:k=3
 . subst h3;rfl
 by_cases h4:k=4
 . subst h4;rfl
 by_cases h5:k=5
 . subst h5;rfl
 rw [decide_eq_false (by omega),beq_eq_false_iff_ne.2 h1,beq_eq_false_iff_ne.2 h2,beq_eq_false_iff_ne.2 h3,beq_eq_false_iff_ne.2 h4,beq_eq_false_iff_ne.2 h5];rfl
attribute [local irreducible] wpList Calls Code.wp AW AWo OpOk seqK zz z8 loopK endK AC zl Yld Sub
attribute [local irreducible] ACB ACX ACE absLexG YldG absLexH YldU
section
variable {lit:D->Bool} (hN : ∀ s:ByteArray,AC EN5 Tryz.prog 67 [.c (.string s)] (.c (.bool (nameB s)))) (hL : ∀ d:D,AC EN5 Tryz.prog 182 [.agg (cellsV Tryz.prog 12 53 d)] (.c (.bool (lit d)))) (hR : ∀ d:D,AC EN5 Tryz.prog 132 [.agg (cellsV Tryz.prog 12 48 d)] (.c (.bool (refR d))))
include hN hL hR
end
end
section
open Go.RowKit
set_option linter.unusedSectionVars false
theorem len_im {n:Nat} {d:D} (h:LenT Tryz.prog (n+2) 45 d):(d.f 2).l.length<=maxLen:=
 (LenT.lst (t:=39) (e:=9) (by kernel_rfl) (LenT.fld 2 (fs:=Tryz.prog.fieldsOf 45) (f:=(Tryz.prog.fieldsOf 45)[2]!) (by kernel_rfl) (by kernel_rfl) h)).1
theorem len_defs {n:Nat} {d:D} (h:LenT Tryz.prog (n+2) 25 d) : ∀ i,i<(d.f 0).l.length->LenT Tryz.prog n 45 (gD (d.f 0).l i):=
 (LenT.lst (t:=23) (e:=45) (by kernel_rfl) (LenT.fld 0 (fs:=Tryz.prog.fieldsOf 25) (f:=(Tryz.prog.fieldsOf 25)[0]!) (by kernel_rfl) (by kernel_rfl) h)).2 (by decide +kernel)
attribute [local irreducible] wpList Calls Code.wp AW AWo OpOk seqK zz z8 loopK endK AC zl Yld Sub
attribute [local irreducible] ACB ACX ACE absLexG YldG absLexH YldU
section
variable {lit:D->Bool} (hN : ∀ s:ByteArray,AC EN5 Tryz.prog 67 [.c (.string s)] (.c (.bool (nameB s)))) (hL : ∀ d:D,AC EN5 Tryz.prog 182 [.agg (cellsV Tryz.prog 12 53 d)] (.c (.bool (lit d)))) (hR : ∀ d:D,AC EN5 Tryz.prog 132 [.agg (cellsV Tryz.prog 12 48 d)] (.c (.bool (refR d))))
include hN hL hR
end
end
end Go.Proofs.YthppafnlnnpciaaGreatDoor
