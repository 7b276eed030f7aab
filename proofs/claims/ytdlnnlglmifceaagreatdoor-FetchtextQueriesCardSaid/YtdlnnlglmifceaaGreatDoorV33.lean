import Derived.SizedLaws
import Derived.Test.YtdlnnlglmifceaaGreatDoorV32
set_option maxHeartbeats 20000000
set_option maxRecDepth 100000
set_option linter.unusedVariables false
set_option linter.unusedSimpArgs false
namespace Go.Proofs.YtdlnnlglmifceaaGreatDoor
open Go.RowKit
attribute [local irreducible] wpList Calls Code.wp
def ReachD (P : Program) : Nat -> TypeId -> D -> Prop
 | 0,_,_ => True
 | k + 1,t,d =>
   match P.underlying t with
   | some (.slice e) => d.l.length * P.bytesOf e <= reachBytes /\ ∀ i,i < d.l.length -> ReachD P k e (gD d.l i)
   | some (.struct fs) => ∀ j f,fs[j]? = some f -> ReachD P k f.type (d.f j)
   | _ => True
theorem zHM {l m : List Nat} (h : ∀ n ∈ l ++ m,n <= reachBytes) : (∀ n ∈ l,n <= reachBytes) /\ (∀ n ∈ m,n <= reachBytes):=
 ⟨fun n hn => h n (List.mem_append_left _ hn),fun n hn => h n (List.mem_append_right _ hn)⟩
theorem zCi {H : Type} {P : Program} {e : TypeId} : ∀ {l : List (DataW H)} {i : Nat} (hi : i < l.length),(∀ n ∈ DataW.weightsAll P e l,n <= reachBytes) -> ∀ n ∈ (l[i]'hi).weights P e,n <= reachBytes
 | [],_,hi,_ => absurd hi (Nat.not_lt_zero _)
 | d :: r,0,_,h => (zHM (by simpa [DataW.weightsAll] using h)).1
 | d :: r,i + 1,hi,h => zCi (l:=r) (by simpa using hi) (zHM (l:=d.weights P e) (by simpa [DataW.weightsAll] using h)).2
theorem zCB {P : Program} {w : World} {H : Type} {enc : TypeId × Value -> H} {held : Bool} {sp : Nat -> Bool} : ∀ {k : Nat} {t : TypeId} {cs : List Value} {x : DataW H × List MemPlace},
 DataW.trod enc P w 0 sp held k t cs = some x -> (∀ n ∈ x.1.weights P t,n <= reachBytes) -> ∃ d,Rep P w (fun b => b < w.heap.size) k t cs d /\ Fits P k t d /\ ReachD P k t d
 | 0,t,cs,x,h,_ => by simp [DataW.trod] at h
 | k + 1,t,cs,x,h,hz => by
   cases hu : P.underlying t with
   | none => exact ⟨default,by unfold Rep; rw [hu]; trivial,by unfold Fits; rw [hu]; trivial,by unfold ReachD; rw [hu]; trivial⟩
   | some ty =>
     cases ty
     case bool =>
      obtain ⟨b,rfl,_⟩:=DataW.trod_bool hu h
      exact ⟨.bool b,.mk_bool hu,by unfold Fits; rw [hu]; exact ⟨b,rfl⟩,by unfold ReachD; rw [hu]; trivial⟩
     case int q =>
      obtain ⟨n,rfl,_,hw⟩:=DataW.trod_int hu h
      exact ⟨.int n,.mk_int hu hw,by unfold Fits; rw [hu]; exact ⟨n,rfl⟩,by unfold ReachD; rw [hu]; trivial⟩
     case string =>
      obtain ⟨s,rfl,hx,hs⟩:=DataW.trod_string hu h
      exact ⟨.str s,.mk_str hu hs,by unfold Fits; rw [hu]; exact ⟨s,rfl⟩,by unfold ReachD; rw [hu]; trivial⟩
     case slice e =>
      rcases DataW.trod_slice hu h with ⟨rfl,_⟩ | ⟨a,len,cap,elems,rest,n,hk,rfl,hx,_,hle,hcm,hlen,hel,_⟩
      . exact ⟨.list [],.mk_slice hu rfl (by simp) (by simp [maxLen]) (fun _ => rfl) (Sl.nil _ _ _),by unfold Fits; rw [hu]; exact ⟨[],rfl,fun i hi => by simp at hi⟩,by unfold ReachD; rw [hu]; exact ⟨by show 0 * _ <= _; omega,fun i hi => absurd hi (Nat.not_lt_zero _)⟩⟩
      . obtain rfl : n = k:=by omega
        rw [hx] at hz
        have hw : DataW.weights P t (DataW.slice (elems.map (·.1)) (rest.map (·.1))) = ((elems.map (·.1)).length + (rest.map (·.1)).length) * P.bytesOf e :: (DataW.weightsAll P e (elems.map (·.1)) ++ DataW.weightsAll P e (rest.map (·.1))):=by rw [DataW.weights,hu]
        have hz2 : ∀ n ∈ DataW.weights P t (DataW.slice (elems.map (·.1)) (rest.map (·.1))),n <= reachBytes:=hz
        rw [hw] at hz2
        have hz3:=hz2 _ (List.mem_cons_self)
        have hz4:=(zHM fun n hn => hz2 n (List.mem_cons_of_mem _ hn)).1
        have hx2 : ∀ i,i < len -> ∃ d,(∃ ys,w.cells? 0 (a.add (i * P.cellsOf e)) (P.cellsOf e) = some ys /\ Rep P w (fun b => b < w.heap.size) n e ys d) /\ Fits P n e d /\ ReachD P n e d:=fun i hi => by
         have h1:=hel i hi
         rw [List.getElem?_eq_getElem (by omega)] at h1
         obtain ⟨ys,y1,y2⟩:=Option.bind_eq_some_iff.1 h1
         have hm:=zCi (l:=elems.map (·.1)) (i:=i) (by simp; omega) hz4
         obtain ⟨d,hd,hd2,hd3⟩:=zCB y2 (by simpa using hm)
         exact ⟨d,⟨ys,y1,hd⟩,hd2,hd3⟩
        obtain ⟨l,hll,hl⟩:=zB4 hx2
        refine ⟨.list l,.mk_slice hu hll.symm (by omega) hcm (fun h => by cases h) ?_,by unfold Fits; rw [hu]; exact ⟨l,rfl,fun i hi => (hl i (by omega)).2.1⟩,?_⟩
        . intro h0 hc
          obtain ⟨b,off,spot⟩:=a
          obtain ⟨⟨ys,y1,_⟩,_⟩:=hl 0 (by omega)
          obtain ⟨_,y3,y4⟩:=World.cells?_some y1
          have y5:=y4 0 hc
          rw [List.getElem?_eq_getElem (by omega)] at y5
          have hspot : spot = none:=by simpa [Addr.add] using World.cell?_spot y5
          subst hspot
          have hbl : b < w.heap.size:=by simpa [Addr.add] using block_lt_of_cell y5
          refine ⟨b,off,rfl,hbl,fun i hi => ?_⟩
          obtain ⟨⟨ys,y1,y2⟩,_⟩:=hl i (by omega)
          obtain ⟨_,y3,y4⟩:=World.cells?_some y1
          refine ⟨ys,y3,fun j u hu => ?_,y2⟩
          have hj : j < P.cellsOf e:=by have:=(List.getElem?_eq_some_iff.1 hu).1; omega
          have:=y4 j hj
          rw [Go.WideShapes.add_plain,Go.WideShapes.add_plain,hu] at this
          exact this
        . unfold ReachD
          rw [hu]
          refine ⟨Nat.le_trans (Nat.mul_le_mul_right _ ?_) hz3,fun i hi => (hl i (by show i < len; have : i < l.length:=hi; omega)).2.2⟩
          show l.length <= _
          simp
          omega
     case struct fs =>
      obtain ⟨xs,n,hk,hx,hcs,hxs,hf⟩:=DataW.trod_struct hu h
      obtain rfl : n = k:=by omega
      rw [hx] at hz
      have hw : DataW.weights P t (DataW.agg (xs.map (·.1))) = DataW.weightsEach P (fs.toList.map (·.type)) (xs.map (·.1)):=by rw [DataW.weights,hu]
      have hz2 : ∀ n ∈ DataW.weights P t (DataW.agg (xs.map (·.1))),n <= reachBytes:=hz
      rw [hw] at hz2
      have hx2 : ∀ j,j < fs.size -> ∃ d,(∀ f,fs[j]? = some f -> Rep P w (fun b => b < w.heap.size) n f.type ((cs.drop f.offset).take (P.cellsOf f.type)) d /\ Fits P n f.type d /\ ReachD P n f.type d):=fun j hj => by
       have h1:=hf j fs[j] (Array.getElem?_eq_getElem hj)
       rw [List.getElem?_eq_getElem (by omega)] at h1
       obtain ⟨d,hd,hd2,hd3⟩:=zCB h1 fun m hm => hz2 m (DataW.weights_mem_each (j:=j) (t:=(fs[j]'hj).type) (d:=(xs[j]'(by omega)).1) (by simp [hj]) (by simp [show j < xs.length by omega]) m hm)
       refine ⟨d,fun f hf => ?_⟩
       rw [Array.getElem?_eq_getElem hj] at hf
       cases hf; exact ⟨hd,hd2,hd3⟩
      obtain ⟨l,hll,hl⟩:=zB4 hx2
      refine ⟨.obj l,.mk_struct hu hcs fun j f hjf => ((hl j (Array.getElem?_eq_some_iff.1 hjf).1) f hjf).1,by unfold Fits; rw [hu]; exact ⟨l,rfl,hll,fun j f hjf => ((hl j (Array.getElem?_eq_some_iff.1 hjf).1) f hjf).2.1⟩,?_⟩
      unfold ReachD
      rw [hu]
      exact fun j f hjf => ((hl j (Array.getElem?_eq_some_iff.1 hjf).1) f hjf).2.2
     all_goals exact ⟨default,by unfold Rep; rw [hu]; trivial,by unfold Fits; rw [hu]; trivial,by unfold ReachD; rw [hu]; trivial⟩
end Go.Proofs.YtdlnnlglmifceaaGreatDoor
namespace Go.Proofs.YtdlnnlglmifceaaGreatDoor
open Go.ChangeShapes Go.WideShapes Go.ChangeAt Go.RowKit
attribute [local irreducible] wpList Calls Code.wp
theorem ReachD.fld {P : Program} {k : Nat} {t : TypeId} {d : D} {fs : Array Field} {f : Field} (j : Nat) (hu : P.underlying t = some (.struct fs)) (hf : fs[j]? = some f) (h : ReachD P (k + 1) t d) : ReachD P k f.type (d.f j):=by
 unfold ReachD at h
 rw [hu] at h
 exact h j f hf
theorem ReachD.lst {P : Program} {k : Nat} {t e : TypeId} {d : D} (hu : P.underlying t = some (.slice e)) (h : ReachD P (k + 1) t d) : d.l.length * P.bytesOf e <= reachBytes /\ ∀ i,i < d.l.length -> ReachD P k e (gD d.l i):=by
 unfold ReachD at h
 rw [hu] at h
 exact h
theorem Fits.fld {P : Program} {k : Nat} {t : TypeId} {d : D} {fs : Array Field} {f : Field} (j : Nat) (hu : P.underlying t = some (.struct fs)) (hf : fs[j]? = some f) (h : Fits P (k + 1) t d) : Fits P k f.type (d.f j):=by
 unfold Fits at h
 rw [hu] at h
 obtain ⟨l,rfl,-,h⟩:=h
 exact h j f hf
theorem Fits.lst {P : Program} {k : Nat} {t e : TypeId} {d : D} (hu : P.underlying t = some (.slice e)) (h : Fits P (k + 1) t d) : ∀ i,i < d.l.length -> Fits P k e (gD d.l i):=by
 unfold Fits at h
 rw [hu] at h
 obtain ⟨l,rfl,h⟩:=h
 exact h
theorem zGo : reachBytes = 140737488351232:=rfl
theorem bytes_val : Tryz.prog.bytesOf 62 = 80:=by kernel_rfl
theorem bytes_str : Tryz.prog.bytesOf 9 = 16:=by kernel_rfl
theorem bytes_arg : Tryz.prog.bytesOf 68 = 96:=by kernel_rfl
theorem zGV : ∀ (m k : Nat) (d : D),k <= m -> Fits Tryz.prog k 62 d -> ReachD Tryz.prog k 62 d -> CpV m d
 | 0,k,d,hk,h,_ => by
   obtain rfl : k = 0:=by omega
   exact h.elim
 | m + 1,0,d,_,h,_ => h.elim
 | m + 1,1,d,_,h,_ => (Fits.fld 3 (fs:=Tryz.prog.fieldsOf 62) (f:=(Tryz.prog.fieldsOf 62)[3]!) (by kernel_rfl) (by kernel_rfl) h).elim
 | m + 1,k + 2,d,hk,h,hr => by
   have f3:=Fits.fld 3 (fs:=Tryz.prog.fieldsOf 62) (f:=(Tryz.prog.fieldsOf 62)[3]!) (by kernel_rfl) (by kernel_rfl) h
   have r3:=ReachD.fld 3 (fs:=Tryz.prog.fieldsOf 62) (f:=(Tryz.prog.fieldsOf 62)[3]!) (by kernel_rfl) (by kernel_rfl) hr
   have r4:=ReachD.fld 4 (fs:=Tryz.prog.fieldsOf 62) (f:=(Tryz.prog.fieldsOf 62)[4]!) (by kernel_rfl) (by kernel_rfl) hr
   have g3:=Fits.lst (t:=60) (e:=62) (by kernel_rfl) f3
   obtain ⟨s3,e3⟩:=ReachD.lst (t:=60) (e:=62) (by kernel_rfl) r3
   obtain ⟨s4,-⟩:=ReachD.lst (t:=28) (e:=9) (by kernel_rfl) r4
   rw [bytes_val,zGo] at s3
   rw [bytes_str,zGo] at s4
   exact ⟨by omega,by omega,fun i hi => zGV m k _ (by omega) (g3 i hi) (e3 i hi)⟩
theorem cpA_reach {k : Nat} {d : D} (h : Fits Tryz.prog (k + 1) 54 d) (hr : ReachD Tryz.prog (k + 1) 54 d) : CpA d.l:=by
 have g:=Fits.lst (t:=54) (e:=68) (by kernel_rfl) h
 obtain ⟨s,e⟩:=ReachD.lst (t:=54) (e:=68) (by kernel_rfl) hr
 rw [bytes_arg,zGo] at s
 refine ⟨by omega,fun i hi => ?_⟩
 have h1:=g i hi
 have h2:=e i hi
 cases k with
 | zero => exact h1.elim
 | succ k =>
   exact ⟨k,zGV k k _ (Nat.le_refl _) (Fits.fld 1 (fs:=Tryz.prog.fieldsOf 68) (f:=(Tryz.prog.fieldsOf 68)[1]!) (by kernel_rfl) (by kernel_rfl) h1) (ReachD.fld 1 (fs:=Tryz.prog.fieldsOf 68) (f:=(Tryz.prog.fieldsOf 68)[1]!) (by kernel_rfl) (by kernel_rfl) h2)⟩
theorem zGW : ∀ (n k : Nat) (d : D),(d.l = [] \/ largeB n d.l = false) -> Fits Tryz.prog k 37 d -> ReachD Tryz.prog k 37 d -> CpP n d.l
 | 0,k,d,h,_,_ => by
   rcases h with h | h
   . exact h
   . cases h
 | n + 1,0,d,_,h,_ => h.elim
 | n + 1,k + 1,d,hb,h,hr => by
   rcases hb with e | hb
   . rw [e]
     exact ⟨by simp,fun i hi => absurd hi (Nat.not_lt_zero i)⟩
   obtain ⟨h1,h2⟩:=zEp hb
   have g:=Fits.lst (t:=37) (e:=82) (by kernel_rfl) h
   obtain ⟨-,e⟩:=ReachD.lst (t:=37) (e:=82) (by kernel_rfl) hr
   refine ⟨h1,fun i hi => ?_⟩
   have q1:=g i hi
   have q2:=e i hi
   cases k with
   | zero => exact q1.elim
   | succ k =>
     have a1:=Fits.fld 3 (fs:=Tryz.prog.fieldsOf 82) (f:=(Tryz.prog.fieldsOf 82)[3]!) (by kernel_rfl) (by kernel_rfl) q1
     have a2:=ReachD.fld 3 (fs:=Tryz.prog.fieldsOf 82) (f:=(Tryz.prog.fieldsOf 82)[3]!) (by kernel_rfl) (by kernel_rfl) q2
     have b1:=Fits.fld 7 (fs:=Tryz.prog.fieldsOf 82) (f:=(Tryz.prog.fieldsOf 82)[7]!) (by kernel_rfl) (by kernel_rfl) q1
     have b2:=ReachD.fld 7 (fs:=Tryz.prog.fieldsOf 82) (f:=(Tryz.prog.fieldsOf 82)[7]!) (by kernel_rfl) (by kernel_rfl) q2
     refine ⟨?_,zGW n k _ (h2 i hi) b1 b2⟩
     cases k with
     | zero => exact (show False from a1).elim
     | succ k => exact cpA_reach a1 a2
theorem fetch_cp {k : Nat} {f : D} (h : Fits Tryz.prog k 40 f) (hr : ReachD Tryz.prog k 40 f) (hb : largeB 8 (f.f 6).l = false) : CpP 8 (f.f 6).l:=by
 cases k with
 | zero => exact h.elim
 | succ k => exact zGW 8 k _ (.inr hb) (Fits.fld 6 (fs:=Tryz.prog.fieldsOf 40) (f:=(Tryz.prog.fieldsOf 40)[6]!) (by kernel_rfl) (by kernel_rfl) h) (ReachD.fld 6 (fs:=Tryz.prog.fieldsOf 40) (f:=(Tryz.prog.fieldsOf 40)[6]!) (by kernel_rfl) (by kernel_rfl) hr)
theorem arg_in3 {H : Type} {enc : TypeId × Value -> H} {W : World} {v : Value} {base : Nat} {dw : DataW H} {ps : List MemPlace} {t : TypeId} {fs : Array Field} (ht : Tryz.prog.underlying t = some (.struct fs)) (hv : Value.okWide Tryz.prog W .any base t v)
 (hd : DataW.Trod enc Tryz.prog W 0 (fun _ => true) true t v dw ps) (hz : ∀ n ∈ dw.weights Tryz.prog t,n <= reachBytes) :
 ∃ (k : Nat) (cs : Array Value) (d : D),v = .agg cs /\ Rep Tryz.prog W (fun b => b < W.heap.size) k t cs.toList d /\ Fits Tryz.prog k t d /\ ReachD Tryz.prog k t d:=by
 obtain ⟨cs,rfl,_⟩:=okWide_struct ht hv
 obtain ⟨k,hk⟩:=hd
 obtain ⟨d,h1,h2,h3⟩:=zCB hk hz
 exact ⟨k,cs,d,rfl,by simpa [Value.cells] using h1,h2,h3⟩
theorem reach_snd {H : Type} {P : Program} {t0 t1 : TypeId} {ts : List TypeId} {d0 d1 : DataW H} {ds : List (DataW H)} (h : (DataW.weightsEach P (t0 :: t1 :: ts) (d0 :: d1 :: ds)).all (· <= reachBytes) = true) : ∀ n ∈ d1.weights P t1,n <= reachBytes:=fun n hn => by
 have:=List.all_eq_true.1 h n (DataW.weights_mem_each (j:=1) rfl rfl n hn)
 simpa using this
theorem rowQueries {H : Type} {enc : TypeId × Value -> H} {W : World} {v0 v1 : Value} (n2 : Int) (hn2 : -9223372036854775808 <= n2 /\ n2 <= 9223372036854775807) {base : Nat} {dw0 dw1 : DataW H} {ps0 ps1 : List MemPlace} (hv0 : Value.okWide Tryz.prog W .any base 35 v0) (hd0 : DataW.Trod enc Tryz.prog W 0 (fun _ => true) true 35 v0 dw0 ps0)
 (hv1 : Value.okWide Tryz.prog W .any base 40 v1) (hd1 : DataW.Trod enc Tryz.prog W 0 (fun _ => true) true 40 v1 dw1 ps1) (hz : ∀ n ∈ dw1.weights Tryz.prog 40,n <= reachBytes) (he : EnvT W) :
 Calls Tryz.prog 4 #[v0,v1,.int .i64 n2] W fun e W' => e = .returned (.bool true) /\ Below W.heap.size W W':=by
 obtain ⟨k,cs,d,rfl,hr,hf,hbk⟩:=arg_in Tryz.underlying35 hv0 hd0
 obtain ⟨k2,cs2,f,rfl,hr2,hf2,hq2⟩:=arg_in3 Tryz.underlying40 hv1 hd1 hz
 refine zHD (queries_ac d f n2 fun hb => fetch_cp hf2 hq2 hb) ?_ he
 have r1:=cells0 Tryz.underlying35 (by kernel_rfl) hr
 have r2:=cells0 Tryz.underlying40 (by kernel_rfl) hr2
 have r3 : rel Tryz.prog (sg0 W) W (.c (.int .i64 n2)) (.int .i64 n2):=by
  rw [rel]
  refine ⟨rfl,?_⟩
  show (Lit.int .i64 n2).wf = true
  rw [zCh]
  simp [IntKind.min,IntKind.max,IntKind.signed,IntKind.bits]
  omega
 show relL Tryz.prog (sg0 W) W _ [_,_,_]
 rw [relL,relL,relL]
 exact ⟨r1,r2,r3,by simp [relL]⟩
theorem zBv (H : Type) (enc : TypeId × Value -> H) (W : World) (base : Nat) (args : Array Value) (ds gs : List (DataW H)) (before : List MemPlace)
 (hval : ∀ (j : Nat) t v,Tryz.f4.params[j]? = some t -> args[j]? = some v -> Value.okWide Tryz.prog W .any base t v)
 (hW : DataW.Whole enc Tryz.prog Tryz.f4.params.toList Rows.fetchtextQueriesSpec.vars false W args.toList ds gs before) (hL : laidMetH Tryz.prog Rows.fetchtextQueriesRow.laid W)
 (hR : (DataW.weightsEach Tryz.prog (Tryz.f4.params.toList ++ (OpenSpec.ofChange Rows.fetchtextQueriesSpec).bare.plain.varTypes Tryz.prog) (ds ++ gs)).all (· <= reachBytes) = true) :
 Calls Tryz.prog 4 args W fun e W' => ∃ v,e = .returned v /\ Rows.fetchtextQueriesSpec.post enc Tryz.prog Tryz.f4 false true false false W args v W':=by
 have hW':=hW
 obtain ⟨p,q,hA0,hV,rfl,hfz,hnd⟩:=hW
 have hA : DataW.TrodAll enc Tryz.prog W 0 (fun _ => true) true Tryz.f4.params.toList args.toList ds p:=hA0
 rw [Tryz.params4] at hA hval hR
 obtain ⟨v0,vs0,d0,ds0,p0,q0,hargs,rfl,rfl,h0,r0⟩:=trodAll_cons hA
 obtain ⟨v1,vs1,d1,ds1,p1,q1,e1,rfl,rfl,h1,r1⟩:=trodAll_cons r0
 subst e1
 obtain ⟨v2,vs2,d2,ds2,p2,q2,e2,rfl,rfl,h2,r2⟩:=trodAll_cons r1
 subst e2
 obtain ⟨rfl,rfl,rfl⟩:=trodAll_nil r2
 obtain rfl : args = #[v0,v1,v2]:=by cases args; simp_all
 obtain ⟨n2,rfl,hn2⟩:=int_arg Tryz.underlying3 (hval 2 3 v2 rfl rfl) h2
 refine (rowQueries n2 hn2 (hval 0 35 v0 rfl rfl) h0 (hval 1 40 v1 rfl rfl) h1 (reach_snd hR) (zGU hL)).mono fun e W' ⟨he,hbel⟩ => ?_
 subst he
 exact ⟨_,rfl,post_true laidOut' (types_ok _ (by kernel_rfl)) Tryz.underlying4 rfl rfl hW' hbel (fun gs h => by subst h; rfl)⟩
theorem laid_metFetchtextQueries (os : Os) : laidMet Tryz.prog Rows.fetchtextQueriesRow.laid ((laidWorld os).forCall (fun _ _ => 0) ⟨#[],#[.agg #[.slice none 0 0,.slice none 0 0,.slice none 0 0,.slice none 0 0],.agg #[.int .i64 0,.int .i64 0,.slice none 0 0,.string ⟨#[]⟩,.slice none 0 0,.int .i64 0,.slice none 0 0,.slice none 0 0],.int .i64 0],[]⟩).memory:=
 laidMet_of_run' 8 (by kernel_rfl) (by kernel_rfl)
theorem zCD (os : Os) {H : Type} (enc : TypeId × Value -> H) : ∃ places,DataW.whole enc Tryz.prog ((laidWorld os).forCall (fun _ _ => 0) ⟨#[],#[.agg #[.slice none 0 0,.slice none 0 0,.slice none 0 0,.slice none 0 0],.agg #[.int .i64 0,.int .i64 0,.slice none 0 0,.string ⟨#[]⟩,.slice none 0 0,.int .i64 0,.slice none 0 0,.slice none 0 0],.int .i64 0],[]⟩).memory Tryz.f4.params.toList Rows.fetchtextQueriesSpec.vars false (#[.agg #[.slice none 0 0,.slice none 0 0,.slice none 0 0,.slice none 0 0],.agg #[.int .i64 0,.int .i64 0,.slice none 0 0,.string ⟨#[]⟩,.slice none 0 0,.int .i64 0,.slice none 0 0,.slice none 0 0],.int .i64 0] : Array Value).toList 8 = some ([.agg [.nil,.agg [.nil],.nil,.nil],.agg [.lit (.int .i64 0),.lit (.int .i64 0),.nil,.lit (.string []),.nil,.lit (.int .i64 0),.nil,.nil],.lit (.int .i64 0)],[],places):=
 ⟨[],by kernel_rfl⟩
theorem zB5 (os : Os) (started : os.Started) (H : Type) (enc : TypeId × Value -> H) (F : Stop.Interp) :
 ReturnsInHanded {} Tryz.checked os 4 .any ((OpenSpec.ofChange Rows.fetchtextQueriesSpec).preRow enc Tryz.prog Tryz.f4 Rows.fetchtextQueriesRow.domain false Rows.fetchtextQueriesRow.laid) (((OpenSpec.ofChange Rows.fetchtextQueriesSpec).at F).post enc Tryz.prog Tryz.f4 false true false false):=by
 obtain ⟨places,hx⟩:=zCD os enc
 refine returnsInHanded_of_row (C:=Tryz.checked) (s:=OpenSpec.ofChange Rows.fetchtextQueriesSpec) own started (by kernel_rfl) Tryz.func4
  (witness_row_at (enc:=enc) (C:=Tryz.checked) false (laidWorld os) #[.agg #[.slice none 0 0,.slice none 0 0,.slice none 0 0,.slice none 0 0],.agg #[.int .i64 0,.int .i64 0,.slice none 0 0,.string ⟨#[]⟩,.slice none 0 0,.int .i64 0,.slice none 0 0,.slice none 0 0],.int .i64 0] rfl (by kernel_rfl) (by kernel_rfl) (by kernel_rfl)
    (OpenSpec.preRow_of_cond 8 hx (by kernel_rfl) (fun k hk => by cases hk) (by kernel_rfl) (laid_metFetchtextQueries os))) ?_
 intro W base args ds gs before hval hW _ _ hR hL _ _
 exact zBv H enc W base args ds gs before hval hW hL hR
theorem zCP {a b : Bool} (h1 : a = true) (h2 : b = true) : (a && b) = true:=by rw [h1,h2]; rfl
theorem zB6 : joinedFacts Tryz.prog 4 Tryz.f4 (OpenSpec.ofChange Rows.fetchtextQueriesSpec).bare Rows.fetchtextQueriesRow = true:=by
 unfold joinedFacts
 repeat' (with_reducible apply zCP)
 all_goals as_aux_lemma => kernel_rfl
theorem zCf : Rows.FetchtextQueriesSaid:=
 OpenClaim.holds_of_cond 4 Tryz.f4 rfl rfl rfl rfl rfl rfl rfl ⟨rfl,rfl,rfl,rfl,rfl⟩ rfl rfl rfl rfl rfl (by kernel_rfl) Tryz.func4 zB6
  (of_decide_eq_true (by kernel_rfl)) (by unfold Func.isWrapper; first | (rw [if_pos (by decide +kernel)]; kernel_rfl) | (rw [if_neg (by decide +kernel)]; exact ⟨rfl,rfl⟩))
  (fun os started H enc _ F => by rw [OpenClaim.pre_eq_preRow]; exact zB5 os started H enc F)
theorem zCE (f : FuncId) (fn : Func) (hf : Tryz.pinned.checked.prog.funcNamed "supergraph/supergraphlaw31.FetchtextQueries" = some f) (hfn : Tryz.pinned.checked.prog.funcs[f]? = some fn) :
 true = Tryz.pinned.checked.prog.looks [] /\ ∀ (j : Nat) t,fn.params[j]? = some t -> Tryz.pinned.checked.prog.wantsStandIn t = false:=by
 obtain rfl : f = 4 := Option.some.inj ((show Tryz.prog.funcNamed "supergraph/supergraphlaw31.FetchtextQueries" = some 4 by kernel_rfl).symm.trans hf) |>.symm
 obtain rfl : fn = Tryz.f4:=(Option.some.inj (Tryz.func4.symm.trans hfn)).symm
 refine ⟨by kernel_rfl,fun j t ht => ?_⟩
 rw [Tryz.params4] at ht
 have hm:=Array.mem_of_getElem? ht
 simp only [List.mem_toArray,List.mem_cons,List.not_mem_nil,or_false] at hm
 rcases hm with rfl | rfl | rfl
 . exact (show Tryz.prog.wantsStandIn 35 = false by kernel_rfl)
 . exact (show Tryz.prog.wantsStandIn 40 = false by kernel_rfl)
 . exact (show Tryz.prog.wantsStandIn 3 = false by kernel_rfl)
end Go.Proofs.YtdlnnlglmifceaaGreatDoor
