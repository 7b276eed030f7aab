import Derived.Test.YtdlnnlglmifceaaDoorRows
import Derived.Test.YtdlnnlglmifceaaDoorQ24
set_option linter.unusedVariables false
set_option linter.unusedSimpArgs false
namespace Go.Proofs.YtdlnnlglmifceaaDoor
open Go.RowKit
attribute [local irreducible] wpList Calls Code.wp
mutual
def bulkD : D -> Nat
 | .int _ => 1
 | .bool _ => 1
 | .str s => s.size + 1
 | .list l => bulkL l + 1
 | .obj l => bulkL l + 1
def bulkL : List D -> Nat
 | [] => 0
 | d :: r => bulkD d + bulkL r
 end
def Fits (P : Program) : Nat -> TypeId -> D -> Prop
 | 0,_,_ => False
 | k + 1,t,d =>
   match P.underlying t with
   | some .bool => ∃ b,d = .bool b
   | some (.int _) => ∃ n,d = .int n
   | some .string => ∃ s,d = .str s
   | some (.slice e) => ∃ l,d = .list l /\ ∀ i,i < l.length -> Fits P k e (gD l i)
   | some (.struct fs) => ∃ l,d = .obj l /\ l.length = fs.size /\ ∀ j f,fs[j]? = some f -> Fits P k f.type (gD l j)
   | _ => True
theorem Fits.up {P : Program} : ∀ {k : Nat} {t : TypeId} {d : D},Fits P k t d -> Fits P (k + 1) t d
 | 0,_,_,h => h.elim
 | k + 1,t,d,h => by
   unfold Fits at h |-
   split at h
   . exact h
   . exact h
   . exact h
   . obtain ⟨l,h1,h2⟩:=h
     exact ⟨l,h1,fun i hi => Fits.up (h2 i hi)⟩
   . obtain ⟨l,h1,h2,h3⟩:=h
     exact ⟨l,h1,h2,fun j f hf => Fits.up (h3 j f hf)⟩
   . trivial
theorem bulk_pos {H : Type} (d : DataW H) : 1 <= Rows.uptoBulk d:=by
 cases d with
 | lit x => cases x <;> simp [Rows.uptoBulk]
 | _ => simp [Rows.uptoBulk]
theorem zDe {H : Type} : ∀ (l : List D) (xs : List (DataW H × List MemPlace)),l.length = xs.length -> (∀ i (h : i < xs.length),bulkD (gD l i) <= Rows.uptoBulk (xs[i]'h).1) -> bulkL l <= Rows.uptoBulkAll (xs.map (·.1))
 | [],_,_,_ => by simp [bulkL]
 | d :: r,[],h,_ => by simp at h
 | d :: r,x :: xs,h,hb => by
   have h0:=hb 0 (by simp)
   have h1:=zDe r xs (by simpa using h) fun i hi => by
    have:=hb (i + 1) (by simpa using hi)
    simpa [gD] using this
   simp only [List.map_cons,Rows.uptoBulkAll,bulkL]
   have e : gD (d :: r) 0 = d:=rfl
   rw [e] at h0
   have e2 : (((x :: xs)[0]'(by simp)).1) = x.1:=rfl
   rw [e2] at h0
   omega
theorem zCU {P : Program} {w : World} {H : Type} {enc : TypeId × Value -> H} {held : Bool} {sp : Nat -> Bool} : ∀ {k : Nat} {t : TypeId} {cs : List Value} {x : DataW H × List MemPlace},
 DataW.trod enc P w 0 sp held k t cs = some x -> ∃ d,Rep P w (fun b => b < w.heap.size) k t cs d /\ Fits P k t d /\ bulkD d <= Rows.uptoBulk x.1
 | 0,t,cs,x,h => by simp [DataW.trod] at h
 | k + 1,t,cs,x,h => by
   have hpos:=bulk_pos x.1
   cases hu : P.underlying t with
   | none => exact ⟨default,by unfold Rep; rw [hu]; trivial,by unfold Fits; rw [hu]; trivial,by show bulkD (.obj []) <= _; simpa [bulkD,bulkL] using hpos⟩
   | some ty =>
     cases ty
     case bool =>
      obtain ⟨b,rfl,_⟩:=DataW.trod_bool hu h
      exact ⟨.bool b,.mk_bool hu,by unfold Fits; rw [hu]; exact ⟨b,rfl⟩,by simpa [bulkD] using hpos⟩
     case int q =>
      obtain ⟨n,rfl,_,hw⟩:=DataW.trod_int hu h
      exact ⟨.int n,.mk_int hu hw,by unfold Fits; rw [hu]; exact ⟨n,rfl⟩,by simpa [bulkD] using hpos⟩
     case string =>
      obtain ⟨s,rfl,hx,hs⟩:=DataW.trod_string hu h
      refine ⟨.str s,.mk_str hu hs,by unfold Fits; rw [hu]; exact ⟨s,rfl⟩,?_⟩
      rw [hx]
      simp [bulkD,Rows.uptoBulk]
     case slice e =>
      rcases DataW.trod_slice hu h with ⟨rfl,_⟩ | ⟨a,len,cap,elems,rest,n,hk,rfl,hx,_,hle,hcm,hlen,hel,_⟩
      . exact ⟨.list [],.mk_slice hu rfl (by simp) (by simp [maxLen]) (fun _ => rfl) (Sl.nil _ _ _),by unfold Fits; rw [hu]; exact ⟨[],rfl,fun i hi => by simp at hi⟩,by simpa [bulkD,bulkL] using hpos⟩
      . obtain rfl : n = k:=by omega
        have hx2 : ∀ i,i < len -> ∃ d,(∃ ys,w.cells? 0 (a.add (i * P.cellsOf e)) (P.cellsOf e) = some ys /\ Rep P w (fun b => b < w.heap.size) n e ys d) /\ Fits P n e d /\ ∀ h : i < elems.length,bulkD d <= Rows.uptoBulk (elems[i]'h).1:=fun i hi => by
         have h1:=hel i hi
         rw [List.getElem?_eq_getElem (by omega)] at h1
         obtain ⟨ys,y1,y2⟩:=Option.bind_eq_some_iff.1 h1
         obtain ⟨d,hd,hd2,hd3⟩:=zCU y2
         exact ⟨d,⟨ys,y1,hd⟩,hd2,fun _ => hd3⟩
        obtain ⟨l,hll,hl⟩:=zEj hx2
        refine ⟨.list l,.mk_slice hu hll.symm (by omega) hcm (fun h => by cases h) ?_,by unfold Fits; rw [hu]; exact ⟨l,rfl,fun i hi => (hl i (by omega)).2.1⟩,?_⟩
        . intro h0 hc
          obtain ⟨b,off,spot⟩:=a
          obtain ⟨⟨ys,y1,_⟩,_⟩:=hl 0 (by omega)
          obtain ⟨_,y3,y4⟩:=World.cells?_some y1
          have y5:=y4 0 hc
          rw [List.getElem?_eq_getElem (by omega)] at y5
          have hspot : spot = none:=by simpa [Addr.add] using World.cell?_spot y5
          subst hspot
          have hbl : b < w.heap.size:=by simpa [Addr.add] using block_lt_of_cell y5
          refine ⟨b,off,rfl,hbl,fun i hi => ?_⟩
          obtain ⟨⟨ys,y1,y2⟩,_⟩:=hl i (by omega)
          obtain ⟨_,y3,y4⟩:=World.cells?_some y1
          refine ⟨ys,y3,fun j u hu => ?_,y2⟩
          have hj : j < P.cellsOf e:=by have:=(List.getElem?_eq_some_iff.1 hu).1; omega
          have:=y4 j hj
          rw [Go.WideShapes.add_plain,Go.WideShapes.add_plain,hu] at this
          exact this
        . have:=zDe l elems (by omega) fun i hi => (hl i (by omega)).2.2 hi
          rw [hx]
          simp only [bulkD,Rows.uptoBulk]
          omega
     case struct fs =>
      obtain ⟨xs,n,hk,hx,hcs,hxs,hf⟩:=DataW.trod_struct hu h
      obtain rfl : n = k:=by omega
      have hx2 : ∀ j,j < fs.size -> ∃ d,(∀ f,fs[j]? = some f -> Rep P w (fun b => b < w.heap.size) n f.type ((cs.drop f.offset).take (P.cellsOf f.type)) d /\ Fits P n f.type d) /\ ∀ h : j < xs.length,bulkD d <= Rows.uptoBulk (xs[j]'h).1:=fun j hj => by
       have h1:=hf j fs[j] (Array.getElem?_eq_getElem hj)
       rw [List.getElem?_eq_getElem (by omega)] at h1
       obtain ⟨d,hd,hd2,hd3⟩:=zCU h1
       refine ⟨d,fun f hf => ?_,fun _ => hd3⟩
       rw [Array.getElem?_eq_getElem hj] at hf
       cases hf; exact ⟨hd,hd2⟩
      obtain ⟨l,hll,hl⟩:=zEj hx2
      refine ⟨.obj l,.mk_struct hu hcs fun j f hjf => ((hl j (Array.getElem?_eq_some_iff.1 hjf).1).1 f hjf).1,by unfold Fits; rw [hu]; exact ⟨l,rfl,hll,fun j f hjf => ((hl j (Array.getElem?_eq_some_iff.1 hjf).1).1 f hjf).2⟩,?_⟩
      have:=zDe l xs (by omega) fun i hi => (hl i (by omega)).2 hi
      rw [hx]
      simp only [bulkD,Rows.uptoBulk]
      omega
     all_goals exact ⟨default,by unfold Rep; rw [hu]; trivial,by unfold Fits; rw [hu]; trivial,by show bulkD (.obj []) <= _; simpa [bulkD,bulkL] using hpos⟩
end Go.Proofs.YtdlnnlglmifceaaDoor
namespace Go.Proofs.YtdlnnlglmifceaaDoor
def commaT : List UInt8:=[44,32]
def i64D (n : Int) : Prop:=-9223372036854775808 <= n /\ n <= 9223372036854775807
def Dp : Nat -> D -> Prop
 | 0,_ => False
 | k + 1,d => ∀ i,i < (d.f 3).l.length -> Dp k (gD (d.f 3).l i)
mutual
def wideD : D -> Prop
 | .int n => i64D n
 | .bool _ => True
 | .str _ => True
 | .list l => wideL l
 | .obj l => wideL l
def wideL : List D -> Prop
 | [] => True
 | d :: r => wideD d /\ wideL r
end
theorem zD7 : ∀ {l : List D},wideL l -> ∀ i,wideD (gD l i)
 | [],_,i => by show wideD (.obj []); simp [wideD,wideL]
 | d :: r,h,i => by
   rw [wideL] at h
   cases i with
   | zero => exact h.1
   | succ i => exact zD7 h.2 i
theorem wideD.f {d : D} (h : wideD d) (i : Nat) : wideD (d.f i):=by
 cases d with
 | obj l => rw [wideD] at h; exact zD7 h i
 | _ => show wideD (.obj []); simp [wideD,wideL]
theorem wideD.l {d : D} (h : wideD d) (i : Nat) : wideD (gD d.l i):=by
 cases d with
 | list l => rw [wideD] at h; exact zD7 h i
 | _ => show wideD (.obj []); simp [wideD,wideL]
theorem wideD.n {d : D} (h : wideD d) : i64D d.n:=by
 cases d with
 | int n => rw [wideD] at h; exact h
 | _ => show i64D 0; unfold i64D; omega
def sumN (f : Nat -> Nat) : Nat -> Nat
 | 0 => 0
 | n + 1 => sumN f n + f n
theorem zCQ {f g : Nat -> Nat} : ∀ {n : Nat},(∀ i,i < n -> f i <= g i) -> sumN f n <= sumN g n
 | 0,_ => Nat.le_refl _
 | n + 1,h => by
   have:=zCQ (n:=n) fun i hi => h i (by omega)
   have:=h n (by omega)
   simp only [sumN]; omega
theorem zBU (c : Nat) (f : Nat -> Nat) : ∀ n,sumN (fun i => c * f i) n = c * sumN f n
 | 0 => by simp [sumN]
 | n + 1 => by simp only [sumN,zBU c f n,Nat.mul_add]
theorem zFi (f g : Nat -> Nat) : ∀ n,sumN (fun i => f i + g i) n = sumN f n + sumN g n
 | 0 => rfl
 | n + 1 => by simp only [sumN,zFi f g n]; omega
theorem zA5 (f : Nat -> Nat) {n m : Nat} (h : n <= m) : sumN f n <= sumN f m:=by
 induction m with
 | zero => have : n = 0:=by omega
           subst this; exact Nat.le_refl _
 | succ m ih =>
   rcases Nat.lt_or_ge n (m + 1) with h' | h'
   . have:=ih (by omega); simp only [sumN]; omega
   . have : n = m + 1:=by omega
     subst this; exact Nat.le_refl _
theorem zGJ (f : Nat -> Nat) : ∀ n,sumN f (n + 1) = f 0 + sumN (fun i => f (i + 1)) n
 | 0 => by simp [sumN]
 | n + 1 => by rw [sumN,zGJ f n,sumN]; omega
def wD (d : D) : Nat:=bulkD d - 1
theorem zA2 (d : D) : 1 <= bulkD d:=by cases d <;> simp [bulkD]
theorem zy (d : D) : bulkD d = wD d + 1:=by unfold wD; have:=zA2 d; omega
theorem zAv (d : D) : d.s.size <= wD d:=by
 cases d with
 | str s => simp [wD,bulkD,D.s]
 | _ => exact Nat.zero_le _
theorem zAE (d : D) : bulkL d.l <= wD d:=by cases d <;> simp [wD,bulkD,D.l,bulkL]
theorem zAy : ∀ (l : List D),bulkL l = sumN (fun i => bulkD (gD l i)) l.length
 | [] => rfl
 | d :: r => by
   rw [bulkL,zAy r,List.length_cons,zGJ]; rfl
theorem bulkL_out (l : List D) : ∀ n,sumN (fun i => wD (gD l i)) n <= bulkL l:=by
 intro n
 have hout : ∀ i,l.length <= i -> wD (gD l i) = 0:=fun i hi => by
  unfold gD
  rw [List.getD_eq_getElem?_getD,List.getElem?_eq_none hi]; rfl
 have hin : ∀ m,m <= l.length -> sumN (fun i => wD (gD l i)) m <= bulkL l:=fun m hm => by
  rw [zAy]
  refine Nat.le_trans (zA5 _ hm) (zCQ fun i hi => ?_)
  have:=zy (gD l i); omega
 rcases Nat.le_total n l.length with h | h
 . exact hin n h
 . obtain ⟨m,rfl⟩:=Nat.exists_eq_add_of_le h
   clear h
   induction m with
   | zero => exact hin _ (Nat.le_refl _)
   | succ m ih =>
     rw [<- Nat.add_assoc,sumN,hout (l.length + m) (by omega)]
     omega
theorem zAd (d : D) (n : Nat) : sumN (fun i => wD (d.f i)) n <= wD d:=by
 cases d with
 | obj l => exact bulkL_out l n
 | _ =>
   refine Nat.le_trans (zCQ (g:=fun _ => 0) fun i _ => ?_) (Nat.le_trans (Nat.le_of_eq ?_) (Nat.zero_le _))
   . show wD (.obj []) <= 0
     simp [wD,bulkD,bulkL]
   . induction n with
     | zero => rfl
     | succ n ih => simp only [sumN,ih]
theorem wD_f (d : D) (i : Nat) : wD (d.f i) <= wD d:=by
 have:=zAd d (i + 1)
 simp only [sumN] at this; omega
theorem zAa {l : List D} {i : Nat} (h : i < l.length) : bulkD (gD l i) <= bulkL l:=by
 rw [zAy]
 have:=zA5 (fun i => bulkD (gD l i)) (show i + 1 <= l.length by omega)
 simp only [sumN] at this; omega
theorem zBq {d : D} {j i : Nat} (h : i < (d.f j).l.length) : bulkD (gD (d.f j).l i) <= wD d:=by
 have h1:=zAa h
 have h2:=zAE (d.f j)
 have h3:=wD_f d j
 omega
theorem zBS : ∀ (k : Nat) (d : D),bulkD d <= k -> Dp k d
 | 0,d,h => by have:=zA2 d; omega
 | k + 1,d,h => fun i hi => zBS k _ (by have:=zBq hi; have:=zy d; omega)
def valT : Nat -> D -> List UInt8
 | 0,_ => []
 | k + 1,d =>
   if (d.f 0).n = 1 then (if (d.f 1).n = 1 then [116,114,117,101] else [102,97,108,115,101])
   else if (d.f 0).n = 2 then Lib.itoa (d.f 1).n
   else if (d.f 0).n = 3 then zBN (tx (d.f 2).s)
   else if (d.f 0).n = 4 then tx (d.f 2).s
   else if (d.f 0).n = 7 then [36] ++ tx (d.f 2).s
   else if (d.f 0).n = 5 then [91] ++ Lib.join ((List.range (d.f 3).l.length).map fun i => valT k (gD (d.f 3).l i)) commaT ++ [93]
   else if (d.f 0).n = 6 then [123] ++ Lib.join ((List.range (min (d.f 4).l.length (d.f 3).l.length)).map fun i => tx (gD (d.f 4).l i).s ++ [58,32] ++ valT k (gD (d.f 3).l i)) commaT ++ [125]
   else [110,117,108,108]
theorem zD9 : ∀ {k m : Nat} {d : D},Dp k d -> k <= m -> valT m d = valT k d
 | 0,_,_,h,_ => h.elim
 | k + 1,0,_,_,hm => by omega
 | k + 1,m + 1,d,h,hm => by
   have hk : ∀ i,i < (d.f 3).l.length -> valT m (gD (d.f 3).l i) = valT k (gD (d.f 3).l i):=fun i hi => zD9 (h i hi) (by omega)
   unfold valT
   have e1 : (List.range (d.f 3).l.length).map (fun i => valT m (gD (d.f 3).l i)) = (List.range (d.f 3).l.length).map (fun i => valT k (gD (d.f 3).l i)):=
    List.map_congr_left fun i hi => hk i (List.mem_range.1 hi)
   have e2 : (List.range (min (d.f 4).l.length (d.f 3).l.length)).map (fun i => tx (gD (d.f 4).l i).s ++ [58,32] ++ valT m (gD (d.f 3).l i)) = (List.range (min (d.f 4).l.length (d.f 3).l.length)).map (fun i => tx (gD (d.f 4).l i).s ++ [58,32] ++ valT k (gD (d.f 3).l i)):=
    List.map_congr_left fun i hi => by rw [hk i (by have:=List.mem_range.1 hi; omega)]
   rw [e1,e2]
theorem join_le (sep : List UInt8) : ∀ (ls : List (List UInt8)),(Lib.join ls sep).length <= (ls.map fun l => l.length + sep.length).sum:=by
 have tail : ∀ (ls : List (List UInt8)),(Lib.joinTail sep ls).length = (ls.map fun l => l.length + sep.length).sum:=fun ls => by
  induction ls with
  | nil => rfl
  | cons l r ih =>
    unfold Lib.joinTail at ih |-
    simp only [List.map_cons,List.flatten_cons,List.length_append,List.sum_cons,ih]
    omega
 intro ls
 cases ls with
 | nil => simp [Lib.join_nil]
 | cons x r =>
   rw [Lib.join_cons,List.length_append,tail]
   simp only [List.map_cons,List.sum_cons]
   omega
theorem zGS (f : Nat -> Nat) : ∀ n,((List.range n).map f).sum = sumN f n
 | 0 => rfl
 | n + 1 => by simp [List.range_succ,zGS f n,sumN]
theorem zBG (n : Nat) (f : Nat -> List UInt8) (sep : List UInt8) (b : Nat -> Nat) (h : ∀ i,i < n -> (f i).length + sep.length <= b i) : (Lib.join ((List.range n).map f) sep).length <= sumN b n:=by
 refine Nat.le_trans (join_le _ _) ?_
 rw [List.map_map,zGS]
 exact zCQ h
theorem quote_len (l : List UInt8) : (zBN l).length <= 6 * l.length + 2:=by
 have:=zCw l
 simp only [zBN,List.length_append,List.length_cons,List.length_nil]; omega
theorem zBT : ∀ (k : Nat) (d : D),wideD d -> (valT k d).length + 2 <= 24 * bulkD d
 | 0,d,_ => by have:=zA2 d; simp [valT]; omega
 | k + 1,d,hw => by
   have h1:=(hw.f 1).n
   have hd:=zy d
   have hf:=zAd d 5
   simp only [sumN] at hf
   have h2:=zAv (d.f 2)
   have h3:=zAE (d.f 3)
   have h4:=zAE (d.f 4)
   have t2:=zBL (d.f 2).s
   unfold valT
   split
   . split <;> simp <;> omega
   split
   . have:=zGf _ h1.1 h1.2; omega
   split
   . have:=quote_len (tx (d.f 2).s); omega
   split
   . omega
   split
   . simp only [List.length_append,List.length_cons,List.length_nil]; omega
   split
   . have:=zBG (d.f 3).l.length (fun i => valT k (gD (d.f 3).l i)) commaT (fun i => 24 * bulkD (gD (d.f 3).l i)) fun i hi => zBT k _ ((hw.f 3).l i)
     rw [zBU,<- zAy] at this
     simp only [List.length_append,List.length_cons,List.length_nil]; omega
   split
   . have:=zBG (min (d.f 4).l.length (d.f 3).l.length) (fun i => tx (gD (d.f 4).l i).s ++ [58,32] ++ valT k (gD (d.f 3).l i)) commaT (fun i => 24 * bulkD (gD (d.f 4).l i) + 24 * bulkD (gD (d.f 3).l i)) fun i hi => by
      have a:=zBT k (gD (d.f 3).l i) ((hw.f 3).l i)
      have b:=zAv (gD (d.f 4).l i)
      have c:=zy (gD (d.f 4).l i)
      have e:=zBL (gD (d.f 4).l i).s
      have e' : commaT.length = 2:=rfl
      simp only [List.length_append,List.length_cons,List.length_nil]
      omega
     rw [zFi,zBU,zBU] at this
     have a1:=zA5 (fun i => bulkD (gD (d.f 4).l i)) (show min (d.f 4).l.length (d.f 3).l.length <= (d.f 4).l.length by omega)
     have a2:=zA5 (fun i => bulkD (gD (d.f 3).l i)) (show min (d.f 4).l.length (d.f 3).l.length <= (d.f 3).l.length by omega)
     rw [<- zAy] at a1 a2
     simp only [List.length_append,List.length_cons,List.length_nil]; omega
   . simp; omega
def argT (k : Nat) (a : D) : List UInt8:=tx (a.f 0).s ++ [58,32] ++ valT k (a.f 1)
def zGz (k : Nat) (l : List D) : List UInt8:=Lib.join (l.map (argT k)) commaT
def parT (k : Nat) (l : List D) : List UInt8:=if l.length = 0 then [] else [40] ++ zGz k l ++ [41]
def dirT (k : Nat) (x : D) : List UInt8:=[64] ++ tx (x.f 0).s ++ parT k (x.f 1).l
def zHY (k : Nat) (l : List D) : List UInt8:=Lib.join (l.map (dirT k)) [32]
def zAr (k : Nat) (l : List D) : List UInt8:=if l.length = 0 then [] else [32] ++ zHY k l
theorem zBQ (l : List D) (f : D -> List UInt8) (sep : List UInt8) (c : Nat) (h : ∀ i,i < l.length -> (f (gD l i)).length + sep.length <= c * bulkD (gD l i)) : (Lib.join (l.map f) sep).length <= c * bulkL l:=by
 have e : l.map f = (List.range l.length).map fun i => f (gD l i):=by
  apply List.ext_getElem (by simp)
  intro i h1 h2
  simp [zBo (l:=l) (i:=i) (by simpa using h1)]
 rw [e,zAy,<- zBU]
 exact zBG _ _ _ _ h
theorem argT_len (k : Nat) (a : D) (h : wideD a) : (argT k a).length + 2 <= 28 * bulkD a:=by
 have h1:=zBT k (a.f 1) (h.f 1)
 have h2:=zy (a.f 1)
 have h3:=zy a
 have h4:=zAv (a.f 0)
 have h5:=zAd a 2
 have h6:=zBL (a.f 0).s
 simp only [sumN] at h5
 simp only [argT,List.length_append,List.length_cons,List.length_nil]
 omega
theorem zGy (k : Nat) (l : List D) (h : ∀ i,wideD (gD l i)) : (zGz k l).length <= 28 * bulkL l:=zBQ l _ _ _ fun i _ => argT_len k _ (h i)
theorem parT_len (k : Nat) (l : List D) (h : ∀ i,wideD (gD l i)) : (parT k l).length <= 28 * bulkL l + 2:=by
 have:=zGy k l h
 unfold parT
 split
 . simp
 . simp only [List.length_append,List.length_cons,List.length_nil]; omega
theorem dirT_len (k : Nat) (x : D) (h : wideD x) : (dirT k x).length + 2 <= 32 * bulkD x:=by
 have h1:=parT_len k (x.f 1).l fun i => (h.f 1).l i
 have h3:=zy x
 have h4:=zAv (x.f 0)
 have h5:=zAd x 2
 have h6:=zAE (x.f 1)
 have h7:=zBL (x.f 0).s
 simp only [sumN] at h5
 simp only [dirT,List.length_append,List.length_cons,List.length_nil]
 omega
theorem zEd (k : Nat) (l : List D) (h : ∀ i,wideD (gD l i)) : (zHY k l).length <= 32 * bulkL l:=zBQ l _ _ _ fun i _ => by have:=dirT_len k _ (h i); simp only [List.length_cons,List.length_nil]; omega
theorem zH7 (ls : List (List UInt8)) (l sep : List UInt8) (h : ls ≠ []) : Lib.join (ls ++ [l]) sep = Lib.join ls sep ++ sep ++ l:=by
 cases ls with
 | nil => exact absurd rfl h
 | cons x r =>
   rw [List.cons_append,Lib.join_cons,Lib.join_cons]
   simp [Lib.joinTail]
end Go.Proofs.YtdlnnlglmifceaaDoor
