import Derived.Test.YtdlnnlglmifceaaGreatDoorRows
import Derived.Test.YtdlnnlglmifceaaGreatDoorV26
set_option maxHeartbeats 8000000
set_option maxRecDepth 100000
set_option linter.unusedVariables false
set_option linter.unusedSimpArgs false
namespace Go.Proofs.YtdlnnlglmifceaaGreatDoor
open Go.RowKit
attribute [local irreducible] wpList Calls Code.wp
mutual
def bulkD : D -> Nat
 | .int _ => 1
 | .bool _ => 1
 | .str s => s.size + 1
 | .list l => bulkL l + 1
 | .obj l => bulkL l + 1
def bulkL : List D -> Nat
 | [] => 0
 | d :: r => bulkD d + bulkL r
 end
def Fits (P : Program) : Nat -> TypeId -> D -> Prop
 | 0,_,_ => False
 | k + 1,t,d =>
   match P.underlying t with
   | some .bool => ∃ b,d = .bool b
   | some (.int _) => ∃ n,d = .int n
   | some .string => ∃ s,d = .str s
   | some (.slice e) => ∃ l,d = .list l /\ ∀ i,i < l.length -> Fits P k e (gD l i)
   | some (.struct fs) => ∃ l,d = .obj l /\ l.length = fs.size /\ ∀ j f,fs[j]? = some f -> Fits P k f.type (gD l j)
   | _ => True
theorem bulk_pos {H : Type} (d : DataW H) : 1 <= Rows.uptoBulk d:=by
 cases d with
 | lit x => cases x <;> simp [Rows.uptoBulk]
 | _ => simp [Rows.uptoBulk]
theorem zDR {H : Type} : ∀ (l : List D) (xs : List (DataW H × List MemPlace)),l.length = xs.length -> (∀ i (h : i < xs.length),bulkD (gD l i) <= Rows.uptoBulk (xs[i]'h).1) -> bulkL l <= Rows.uptoBulkAll (xs.map (·.1))
 | [],_,_,_ => by simp [bulkL]
 | d :: r,[],h,_ => by simp at h
 | d :: r,x :: xs,h,hb => by
   have h0:=hb 0 (by simp)
   have h1:=zDR r xs (by simpa using h) fun i hi => by
    have:=hb (i + 1) (by simpa using hi)
    simpa [gD] using this
   simp only [List.map_cons,Rows.uptoBulkAll,bulkL]
   have e : gD (d :: r) 0 = d:=rfl
   rw [e] at h0
   have e2 : (((x :: xs)[0]'(by simp)).1) = x.1:=rfl
   rw [e2] at h0
   omega
theorem zCC {P : Program} {w : World} {H : Type} {enc : TypeId × Value -> H} {held : Bool} {sp : Nat -> Bool} : ∀ {k : Nat} {t : TypeId} {cs : List Value} {x : DataW H × List MemPlace},
 DataW.trod enc P w 0 sp held k t cs = some x -> ∃ d,Rep P w (fun b => b < w.heap.size) k t cs d /\ Fits P k t d /\ bulkD d <= Rows.uptoBulk x.1
 | 0,t,cs,x,h => by simp [DataW.trod] at h
 | k + 1,t,cs,x,h => by
   have hpos:=bulk_pos x.1
   cases hu : P.underlying t with
   | none => exact ⟨default,by unfold Rep; rw [hu]; trivial,by unfold Fits; rw [hu]; trivial,by show bulkD (.obj []) <= _; simpa [bulkD,bulkL] using hpos⟩
   | some ty =>
     cases ty
     case bool =>
      obtain ⟨b,rfl,_⟩:=DataW.trod_bool hu h
      exact ⟨.bool b,.mk_bool hu,by unfold Fits; rw [hu]; exact ⟨b,rfl⟩,by simpa [bulkD] using hpos⟩
     case int q =>
      obtain ⟨n,rfl,_,hw⟩:=DataW.trod_int hu h
      exact ⟨.int n,.mk_int hu hw,by unfold Fits; rw [hu]; exact ⟨n,rfl⟩,by simpa [bulkD] using hpos⟩
     case string =>
      obtain ⟨s,rfl,hx,hs⟩:=DataW.trod_string hu h
      refine ⟨.str s,.mk_str hu hs,by unfold Fits; rw [hu]; exact ⟨s,rfl⟩,?_⟩
      rw [hx]
      simp [bulkD,Rows.uptoBulk]
     case slice e =>
      rcases DataW.trod_slice hu h with ⟨rfl,_⟩ | ⟨a,len,cap,elems,rest,n,hk,rfl,hx,_,hle,hcm,hlen,hel,_⟩
      . exact ⟨.list [],.mk_slice hu rfl (by simp) (by simp [maxLen]) (fun _ => rfl) (Sl.nil _ _ _),by unfold Fits; rw [hu]; exact ⟨[],rfl,fun i hi => by simp at hi⟩,by simpa [bulkD,bulkL] using hpos⟩
      . obtain rfl : n = k:=by omega
        have hx2 : ∀ i,i < len -> ∃ d,(∃ ys,w.cells? 0 (a.add (i * P.cellsOf e)) (P.cellsOf e) = some ys /\ Rep P w (fun b => b < w.heap.size) n e ys d) /\ Fits P n e d /\ ∀ h : i < elems.length,bulkD d <= Rows.uptoBulk (elems[i]'h).1:=fun i hi => by
         have h1:=hel i hi
         rw [List.getElem?_eq_getElem (by omega)] at h1
         obtain ⟨ys,y1,y2⟩:=Option.bind_eq_some_iff.1 h1
         obtain ⟨d,hd,hd2,hd3⟩:=zCC y2
         exact ⟨d,⟨ys,y1,hd⟩,hd2,fun _ => hd3⟩
        obtain ⟨l,hll,hl⟩:=zB4 hx2
        refine ⟨.list l,.mk_slice hu hll.symm (by omega) hcm (fun h => by cases h) ?_,by unfold Fits; rw [hu]; exact ⟨l,rfl,fun i hi => (hl i (by omega)).2.1⟩,?_⟩
        . intro h0 hc
          obtain ⟨b,off,spot⟩:=a
          obtain ⟨⟨ys,y1,_⟩,_⟩:=hl 0 (by omega)
          obtain ⟨_,y3,y4⟩:=World.cells?_some y1
          have y5:=y4 0 hc
          rw [List.getElem?_eq_getElem (by omega)] at y5
          have hspot : spot = none:=by simpa [Addr.add] using World.cell?_spot y5
          subst hspot
          have hbl : b < w.heap.size:=by simpa [Addr.add] using block_lt_of_cell y5
          refine ⟨b,off,rfl,hbl,fun i hi => ?_⟩
          obtain ⟨⟨ys,y1,y2⟩,_⟩:=hl i (by omega)
          obtain ⟨_,y3,y4⟩:=World.cells?_some y1
          refine ⟨ys,y3,fun j u hu => ?_,y2⟩
          have hj : j < P.cellsOf e:=by have:=(List.getElem?_eq_some_iff.1 hu).1; omega
          have:=y4 j hj
          rw [Go.WideShapes.add_plain,Go.WideShapes.add_plain,hu] at this
          exact this
        . have:=zDR l elems (by omega) fun i hi => (hl i (by omega)).2.2 hi
          rw [hx]
          simp only [bulkD,Rows.uptoBulk]
          omega
     case struct fs =>
      obtain ⟨xs,n,hk,hx,hcs,hxs,hf⟩:=DataW.trod_struct hu h
      obtain rfl : n = k:=by omega
      have hx2 : ∀ j,j < fs.size -> ∃ d,(∀ f,fs[j]? = some f -> Rep P w (fun b => b < w.heap.size) n f.type ((cs.drop f.offset).take (P.cellsOf f.type)) d /\ Fits P n f.type d) /\ ∀ h : j < xs.length,bulkD d <= Rows.uptoBulk (xs[j]'h).1:=fun j hj => by
       have h1:=hf j fs[j] (Array.getElem?_eq_getElem hj)
       rw [List.getElem?_eq_getElem (by omega)] at h1
       obtain ⟨d,hd,hd2,hd3⟩:=zCC h1
       refine ⟨d,fun f hf => ?_,fun _ => hd3⟩
       rw [Array.getElem?_eq_getElem hj] at hf
       cases hf; exact ⟨hd,hd2⟩
      obtain ⟨l,hll,hl⟩:=zB4 hx2
      refine ⟨.obj l,.mk_struct hu hcs fun j f hjf => ((hl j (Array.getElem?_eq_some_iff.1 hjf).1).1 f hjf).1,by unfold Fits; rw [hu]; exact ⟨l,rfl,hll,fun j f hjf => ((hl j (Array.getElem?_eq_some_iff.1 hjf).1).1 f hjf).2⟩,?_⟩
      have:=zDR l xs (by omega) fun i hi => (hl i (by omega)).2 hi
      rw [hx]
      simp only [bulkD,Rows.uptoBulk]
      omega
     all_goals exact ⟨default,by unfold Rep; rw [hu]; trivial,by unfold Fits; rw [hu]; trivial,by show bulkD (.obj []) <= _; simpa [bulkD,bulkL] using hpos⟩
end Go.Proofs.YtdlnnlglmifceaaGreatDoor
namespace Go.Proofs.YtdlnnlglmifceaaGreatDoor
def commaT : List UInt8:=[44,32]
def i64D (n : Int) : Prop:=-9223372036854775808 <= n /\ n <= 9223372036854775807
def Dp : Nat -> D -> Prop
 | 0,_ => False
 | k + 1,d => ∀ i,i < (d.f 3).l.length -> Dp k (gD (d.f 3).l i)
mutual
def wideD : D -> Prop
 | .int n => i64D n
 | .bool _ => True
 | .str _ => True
 | .list l => wideL l
 | .obj l => wideL l
def wideL : List D -> Prop
 | [] => True
 | d :: r => wideD d /\ wideL r
end
theorem zDr : ∀ {l : List D},wideL l -> ∀ i,wideD (gD l i)
 | [],_,i => by show wideD (.obj []); simp [wideD,wideL]
 | d :: r,h,i => by
   rw [wideL] at h
   cases i with
   | zero => exact h.1
   | succ i => exact zDr h.2 i
theorem wideD.f {d : D} (h : wideD d) (i : Nat) : wideD (d.f i):=by
 cases d with
 | obj l => rw [wideD] at h; exact zDr h i
 | _ => show wideD (.obj []); simp [wideD,wideL]
theorem wideD.l {d : D} (h : wideD d) (i : Nat) : wideD (gD d.l i):=by
 cases d with
 | list l => rw [wideD] at h; exact zDr h i
 | _ => show wideD (.obj []); simp [wideD,wideL]
theorem wideD.n {d : D} (h : wideD d) : i64D d.n:=by
 cases d with
 | int n => rw [wideD] at h; exact h
 | _ => show i64D 0; unfold i64D; omega
def sumN (f : Nat -> Nat) : Nat -> Nat
 | 0 => 0
 | n + 1 => sumN f n + f n
theorem zFF {f g : Nat -> Nat} : ∀ {n : Nat},(∀ i,i < n -> f i <= g i) -> sumN f n <= sumN g n
 | 0,_ => Nat.le_refl _
 | n + 1,h => by
   have:=zFF (n:=n) fun i hi => h i (by omega)
   have:=h n (by omega)
   simp only [sumN]; omega
theorem zBj (c : Nat) (f : Nat -> Nat) : ∀ n,sumN (fun i => c * f i) n = c * sumN f n
 | 0 => by simp [sumN]
 | n + 1 => by simp only [sumN,zBj c f n,Nat.mul_add]
theorem zFG (f g : Nat -> Nat) : ∀ n,sumN (fun i => f i + g i) n = sumN f n + sumN g n
 | 0 => rfl
 | n + 1 => by simp only [sumN,zFG f g n]; omega
theorem zBr (f : Nat -> Nat) {n m : Nat} (h : n <= m) : sumN f n <= sumN f m:=by
 induction m with
 | zero => have : n = 0:=by omega
           subst this; exact Nat.le_refl _
 | succ m ih =>
   rcases Nat.lt_or_ge n (m + 1) with h' | h'
   . have:=ih (by omega); simp only [sumN]; omega
   . have : n = m + 1:=by omega
     subst this; exact Nat.le_refl _
theorem zFv (f : Nat -> Nat) : ∀ n,sumN f (n + 1) = f 0 + sumN (fun i => f (i + 1)) n
 | 0 => by simp [sumN]
 | n + 1 => by rw [sumN,zFv f n,sumN]; omega
def wD (d : D) : Nat:=bulkD d - 1
theorem zBB (d : D) : 1 <= bulkD d:=by cases d <;> simp [bulkD]
theorem zv (d : D) : bulkD d = wD d + 1:=by unfold wD; have:=zBB d; omega
theorem zAn (d : D) : d.s.size <= wD d:=by
 cases d with
 | str s => simp [wD,bulkD,D.s]
 | _ => exact Nat.zero_le _
theorem zAP (d : D) : bulkL d.l <= wD d:=by cases d <;> simp [wD,bulkD,D.l,bulkL]
theorem zBM : ∀ (l : List D),bulkL l = sumN (fun i => bulkD (gD l i)) l.length
 | [] => rfl
 | d :: r => by
   rw [bulkL,zBM r,List.length_cons,zFv]; rfl
theorem bulkL_out (l : List D) : ∀ n,sumN (fun i => wD (gD l i)) n <= bulkL l:=by
 intro n
 have hout : ∀ i,l.length <= i -> wD (gD l i) = 0:=fun i hi => by
  unfold gD
  rw [List.getD_eq_getElem?_getD,List.getElem?_eq_none hi]; rfl
 have hin : ∀ m,m <= l.length -> sumN (fun i => wD (gD l i)) m <= bulkL l:=fun m hm => by
  rw [zBM]
  refine Nat.le_trans (zBr _ hm) (zFF fun i hi => ?_)
  have:=zv (gD l i); omega
 rcases Nat.le_total n l.length with h | h
 . exact hin n h
 . obtain ⟨m,rfl⟩:=Nat.exists_eq_add_of_le h
   clear h
   induction m with
   | zero => exact hin _ (Nat.le_refl _)
   | succ m ih =>
     rw [<- Nat.add_assoc,sumN,hout (l.length + m) (by omega)]
     omega
theorem zAv (d : D) (n : Nat) : sumN (fun i => wD (d.f i)) n <= wD d:=by
 cases d with
 | obj l => exact bulkL_out l n
 | _ =>
   refine Nat.le_trans (zFF (g:=fun _ => 0) fun i _ => ?_) (Nat.le_trans (Nat.le_of_eq ?_) (Nat.zero_le _))
   . show wD (.obj []) <= 0
     simp [wD,bulkD,bulkL]
   . induction n with
     | zero => rfl
     | succ n ih => simp only [sumN,ih]
theorem wD_f (d : D) (i : Nat) : wD (d.f i) <= wD d:=by
 have:=zAv d (i + 1)
 simp only [sumN] at this; omega
theorem zAf {l : List D} {i : Nat} (h : i < l.length) : bulkD (gD l i) <= bulkL l:=by
 rw [zBM]
 have:=zBr (fun i => bulkD (gD l i)) (show i + 1 <= l.length by omega)
 simp only [sumN] at this; omega
theorem zDC {d : D} {j i : Nat} (h : i < (d.f j).l.length) : bulkD (gD (d.f j).l i) <= wD d:=by
 have h1:=zAf h
 have h2:=zAP (d.f j)
 have h3:=wD_f d j
 omega
theorem zDP : ∀ (k : Nat) (d : D),bulkD d <= k -> Dp k d
 | 0,d,h => by have:=zBB d; omega
 | k + 1,d,h => fun i hi => zDP k _ (by have:=zDC hi; have:=zv d; omega)
def valT : Nat -> D -> List UInt8
 | 0,_ => []
 | k + 1,d =>
   if (d.f 0).n = 1 then (if (d.f 1).n = 1 then [116,114,117,101] else [102,97,108,115,101])
   else if (d.f 0).n = 2 then Lib.itoa (d.f 1).n
   else if (d.f 0).n = 3 then zD3 (tx (d.f 2).s)
   else if (d.f 0).n = 4 then tx (d.f 2).s
   else if (d.f 0).n = 7 then [36] ++ tx (d.f 2).s
   else if (d.f 0).n = 5 then [91] ++ Lib.join ((List.range (d.f 3).l.length).map fun i => valT k (gD (d.f 3).l i)) commaT ++ [93]
   else if (d.f 0).n = 6 then [123] ++ Lib.join ((List.range (min (d.f 4).l.length (d.f 3).l.length)).map fun i => tx (gD (d.f 4).l i).s ++ [58,32] ++ valT k (gD (d.f 3).l i)) commaT ++ [125]
   else [110,117,108,108]
theorem join_le (sep : List UInt8) : ∀ (ls : List (List UInt8)),(Lib.join ls sep).length <= (ls.map fun l => l.length + sep.length).sum:=by
 have tail : ∀ (ls : List (List UInt8)),(Lib.joinTail sep ls).length = (ls.map fun l => l.length + sep.length).sum:=fun ls => by
  induction ls with
  | nil => rfl
  | cons l r ih =>
    unfold Lib.joinTail at ih |-
    simp only [List.map_cons,List.flatten_cons,List.length_append,List.sum_cons,ih]
    omega
 intro ls
 cases ls with
 | nil => simp [Lib.join_nil]
 | cons x r =>
   rw [Lib.join_cons,List.length_append,tail]
   simp only [List.map_cons,List.sum_cons]
   omega
theorem zF8 (f : Nat -> Nat) : ∀ n,((List.range n).map f).sum = sumN f n
 | 0 => rfl
 | n + 1 => by simp [List.range_succ,zF8 f n,sumN]
theorem zBA (n : Nat) (f : Nat -> List UInt8) (sep : List UInt8) (b : Nat -> Nat) (h : ∀ i,i < n -> (f i).length + sep.length <= b i) : (Lib.join ((List.range n).map f) sep).length <= sumN b n:=by
 refine Nat.le_trans (join_le _ _) ?_
 rw [List.map_map,zF8]
 exact zFF h
theorem quote_len (l : List UInt8) : (zD3 l).length <= 6 * l.length + 2:=by
 have:=zCs l
 simp only [zD3,List.length_append,List.length_cons,List.length_nil]; omega
theorem zBS : ∀ (k : Nat) (d : D),wideD d -> (valT k d).length + 2 <= 24 * bulkD d
 | 0,d,_ => by have:=zBB d; simp [valT]; omega
 | k + 1,d,hw => by
   have h1:=(hw.f 1).n
   have hd:=zv d
   have hf:=zAv d 5
   simp only [sumN] at hf
   have h2:=zAn (d.f 2)
   have h3:=zAP (d.f 3)
   have h4:=zAP (d.f 4)
   have t2:=zAj (d.f 2).s
   unfold valT
   split
   . split <;> simp <;> omega
   split
   . have:=zBu _ h1.1 h1.2; omega
   split
   . have:=quote_len (tx (d.f 2).s); omega
   split
   . omega
   split
   . simp only [List.length_append,List.length_cons,List.length_nil]; omega
   split
   . have:=zBA (d.f 3).l.length (fun i => valT k (gD (d.f 3).l i)) commaT (fun i => 24 * bulkD (gD (d.f 3).l i)) fun i hi => zBS k _ ((hw.f 3).l i)
     rw [zBj,<- zBM] at this
     simp only [List.length_append,List.length_cons,List.length_nil]; omega
   split
   . have:=zBA (min (d.f 4).l.length (d.f 3).l.length) (fun i => tx (gD (d.f 4).l i).s ++ [58,32] ++ valT k (gD (d.f 3).l i)) commaT (fun i => 24 * bulkD (gD (d.f 4).l i) + 24 * bulkD (gD (d.f 3).l i)) fun i hi => by
      have a:=zBS k (gD (d.f 3).l i) ((hw.f 3).l i)
      have b:=zAn (gD (d.f 4).l i)
      have c:=zv (gD (d.f 4).l i)
      have e:=zAj (gD (d.f 4).l i).s
      have e' : commaT.length = 2:=rfl
      simp only [List.length_append,List.length_cons,List.length_nil]
      omega
     rw [zFG,zBj,zBj] at this
     have a1:=zBr (fun i => bulkD (gD (d.f 4).l i)) (show min (d.f 4).l.length (d.f 3).l.length <= (d.f 4).l.length by omega)
     have a2:=zBr (fun i => bulkD (gD (d.f 3).l i)) (show min (d.f 4).l.length (d.f 3).l.length <= (d.f 3).l.length by omega)
     rw [<- zBM] at a1 a2
     simp only [List.length_append,List.length_cons,List.length_nil]; omega
   . simp; omega
def argT (k : Nat) (a : D) : List UInt8:=tx (a.f 0).s ++ [58,32] ++ valT k (a.f 1)
def zHI (k : Nat) (l : List D) : List UInt8:=Lib.join (l.map (argT k)) commaT
def parT (k : Nat) (l : List D) : List UInt8:=if l.length = 0 then [] else [40] ++ zHI k l ++ [41]
def dirT (k : Nat) (x : D) : List UInt8:=[64] ++ tx (x.f 0).s ++ parT k (x.f 1).l
def dirsT (k : Nat) (l : List D) : List UInt8:=Lib.join (l.map (dirT k)) [32]
def zCe (k : Nat) (l : List D) : List UInt8:=if l.length = 0 then [] else [32] ++ dirsT k l
theorem zBI (l : List D) (f : D -> List UInt8) (sep : List UInt8) (c : Nat) (h : ∀ i,i < l.length -> (f (gD l i)).length + sep.length <= c * bulkD (gD l i)) : (Lib.join (l.map f) sep).length <= c * bulkL l:=by
 have e : l.map f = (List.range l.length).map fun i => f (gD l i):=by
  apply List.ext_getElem (by simp)
  intro i h1 h2
  simp [zBd (l:=l) (i:=i) (by simpa using h1)]
 rw [e,zBM,<- zBj]
 exact zBA _ _ _ _ h
theorem argT_len (k : Nat) (a : D) (h : wideD a) : (argT k a).length + 2 <= 28 * bulkD a:=by
 have h1:=zBS k (a.f 1) (h.f 1)
 have h2:=zv (a.f 1)
 have h3:=zv a
 have h4:=zAn (a.f 0)
 have h5:=zAv a 2
 have h6:=zAj (a.f 0).s
 simp only [sumN] at h5
 simp only [argT,List.length_append,List.length_cons,List.length_nil]
 omega
theorem zEO (k : Nat) (l : List D) (h : ∀ i,wideD (gD l i)) : (zHI k l).length <= 28 * bulkL l:=zBI l _ _ _ fun i _ => argT_len k _ (h i)
theorem zFQ (k : Nat) (l : List D) (h : ∀ i,wideD (gD l i)) : (parT k l).length <= 28 * bulkL l + 2:=by
 have:=zEO k l h
 unfold parT
 split
 . simp
 . simp only [List.length_append,List.length_cons,List.length_nil]; omega
theorem dirT_len (k : Nat) (x : D) (h : wideD x) : (dirT k x).length + 2 <= 32 * bulkD x:=by
 have h1:=zFQ k (x.f 1).l fun i => (h.f 1).l i
 have h3:=zv x
 have h4:=zAn (x.f 0)
 have h5:=zAv x 2
 have h6:=zAP (x.f 1)
 have h7:=zAj (x.f 0).s
 simp only [sumN] at h5
 simp only [dirT,List.length_append,List.length_cons,List.length_nil]
 omega
theorem zEG (k : Nat) (l : List D) (h : ∀ i,wideD (gD l i)) : (dirsT k l).length <= 32 * bulkL l:=zBI l _ _ _ fun i _ => by have:=dirT_len k _ (h i); simp only [List.length_cons,List.length_nil]; omega
theorem zFu (k : Nat) (l : List D) (h : ∀ i,wideD (gD l i)) : (zCe k l).length <= 32 * bulkL l + 1:=by
 have:=zEG k l h
 unfold zCe
 split
 . simp
 . simp only [List.length_append,List.length_cons,List.length_nil]; omega
theorem joinSnoc (ls : List (List UInt8)) (l sep : List UInt8) (h : ls ≠ []) : Lib.join (ls ++ [l]) sep = Lib.join ls sep ++ sep ++ l:=by
 cases ls with
 | nil => exact absurd rfl h
 | cons x r =>
   rw [List.cons_append,Lib.join_cons,Lib.join_cons]
   simp [Lib.joinTail]
def maxN (f : Nat -> Nat) : Nat -> Nat
 | 0 => 0
 | n + 1 => max (maxN f n) (f n)
def sizeR : Nat -> D -> Nat
 | 0,_ => 1
 | k + 1,d => 1 + sumN (fun i => sizeR k (gD (d.f 3).l i)) (d.f 3).l.length
def depthR : Nat -> D -> Nat
 | 0,_ => 1
 | k + 1,d => maxN (fun i => depthR k (gD (d.f 3).l i)) (d.f 3).l.length + 1
def strsR (d : D) : List (List UInt8):=(d.f 4).l.map fun x => x.s.data.toList
def enumR (s : ByteArray) : Bool:=nameB s && !(s.data.toList == [116,114,117,101]) && !(s.data.toList == [102,97,108,115,101]) && !(s.data.toList == [110,117,108,108])
def nodeK (n i : Int) (t : Bool) (a b : Nat) (x v ks y : Bool) : Bool:=
 (n == 1 || n == 2 || i == 0) && (n == 3 || n == 4 || n == 7 || t) && (n == 6 || a == 0) && (n == 6 || n == 5 || b == 0) && decide (0 <= n /\ n <= 7) && (!(n == 1) || i == 0 || i == 1) && (!(n == 4) || x) && (!(n == 7) || v) && (!(n == 6) || (ks && a == b && y))
def zGs (d : D) : Bool:=
 nodeK (d.f 0).n (d.f 1).n ((d.f 2).s.data.toList == []) (d.f 4).l.length (d.f 3).l.length (enumR (d.f 2).s) (nameB (d.f 2).s) (!((d.f 4).l.any fun x => !nameB x.s)) (decide (strsR d).Nodup)
def everyL : Nat -> D -> Bool
 | 0,_ => false
 | k + 1,d => zGs d && !((d.f 3).l.any fun x => !everyL k x)
def litR (d : D) : Bool:=decide (sizeR (bulkD d) d <= 4096) && decide (depthR (bulkD d) d <= 24) && everyL (bulkD d) d
def bareR : Nat -> D -> Bool
 | 0,_ => false
 | k + 1,d => !((d.f 0).n == 7) && !((d.f 3).l.any fun x => !bareR k x)
def argR (d : D) : Bool:=nameB (d.f 0).s && litR (d.f 1)
def zHJ (l : List D) : Bool:=decide (l.length <= 16) && !(l.any fun x => !argR x)
def dirR (d : D) : Bool:=nameB (d.f 0).s && zHJ (d.f 1).l
def dirsR (l : List D) : Bool:=decide (l.length <= 16) && !(l.any fun x => !dirR x)
def titleR (s : ByteArray) : Bool:=nameB s && !(s.data.toList == [111,110])
def noneS (s : ByteArray) : Bool:=s.data.toList == []
def selsR (sel : D -> Bool) (l : List D) (least lv : Nat) : Bool:=decide (least <= l.length) && decide (l.length <= 64) && (decide (l.length = 0) || decide (lv <= 24)) && !(l.any fun x => !sel x)
def selR : Nat -> Nat -> D -> Bool
 | 0,_,_ => false
 | k + 1,lv,d => zHJ (d.f 4).l && dirsR (d.f 5).l &&
   (if (d.f 0).n = 1 then noneS (d.f 3).s && nameB (d.f 2).s && (noneS (d.f 1).s || nameB (d.f 1).s) && selsR (selR k (lv + 1)) (d.f 6).l 0 (lv + 1)
   else if (d.f 0).n = 2 then noneS (d.f 3).s && noneS (d.f 1).s && decide ((d.f 4).l.length = 0) && decide ((d.f 6).l.length = 0) && titleR (d.f 2).s
   else if (d.f 0).n = 3 then noneS (d.f 1).s && noneS (d.f 2).s && decide ((d.f 4).l.length = 0) && (noneS (d.f 3).s || nameB (d.f 3).s) && selsR (selR k (lv + 1)) (d.f 6).l 1 (lv + 1)
   else false)
def setR (l : List D) : Bool:=selsR (selR (bulkL l) 1) l 1 1
def zDU : List Int -> Bool
 | [] => true
 | [w] => w == 1 || w == 2
 | w :: v :: r => (w == 1 || w == 2) && !(w == 1 && v == 1) && zDU (v :: r)
def refR (d : D) : Bool:=nameB (d.f 0).s && decide ((d.f 1).l.length <= 24) && zDU ((d.f 1).l.map D.n)
def varR (d : D) : Bool:=nameB (d.f 0).s && refR (d.f 1) &&
 (if (d.f 2).b = true then litR (d.f 3) && bareR (bulkD (d.f 3)) (d.f 3)
 else (((d.f 3).f 0).n == 0 && ((d.f 3).f 1).n == 0 && noneS ((d.f 3).f 2).s && decide (((d.f 3).f 3).l.length = 0)) && decide (((d.f 3).f 4).l.length = 0))
def opR (d : D) : Bool:=decide (1 <= (d.f 0).n /\ (d.f 0).n <= 3) && (noneS (d.f 1).s || nameB (d.f 1).s) && decide ((d.f 2).l.length <= 16) && !((d.f 2).l.any fun x => !varR x) && setR (d.f 3).l
def fragR (d : D) : Bool:=titleR (d.f 0).s && nameB (d.f 1).s && setR (d.f 2).l
def queR (d : D) : Bool:=decide (1 <= (d.f 0).l.length + (d.f 1).l.length /\ (d.f 0).l.length + (d.f 1).l.length <= 64) && (d.f 0).l.all opR && !((d.f 1).l.any fun x => !fragR x)
end Go.Proofs.YtdlnnlglmifceaaGreatDoor
namespace Go.Proofs.YtdlnnlglmifceaaGreatDoor
open Go.RowKit
set_option linter.unusedSectionVars false
section
variable {X : Cx} {nn : Nat} {st : Vst nn} {o : Oper} {ops : Array Oper} {l : List Oper} {dst : Option Tmp} {KK : Vst nn -> Prop}
theorem s_max {k : IntKind} {a b : Int} {x y : Operand} {ts : Array TypeId} (hg : o.guard = none) (ho : o.op = .call { callee:=.builtin .max,args:=#[x,y],argTypes:=ts }) (hd : o.dst = dst) (hx : ev st x = .c (.int k a)) (hy : ev st y = .c (.int k b)) (hK : AWo X ops l (st.put dst (.c (.int k (if a < b then b else a)))) KK) : AWo X ops (o :: l) st KK:=by
 refine zAs hg ?_
 intro s w a' hI N Q hP hN
 have r1:=hI.ev x
 have r2:=hI.ev y
 rw [hx,rel] at r1
 rw [hy,rel] at r2
 have h1 : (execOp a'.eval o).run X.P w = .ok (.value (.int k (if a < b then b else a))) w:=by
  simp [execOp,ho,resolve,invoke,builtin,Builtin.max_,Builtin.max2,r1.1,r2.1]
 unfold Oper.wp
 rw [h1,Oper.upon_value]
 refine hN _ _ _ _ (hI.put o.dst ?_) (by rw [hd]; exact hK)
 rw [rel]
 refine ⟨rfl,?_⟩
 split
 . exact r2.2
 . exact r1.2
end
attribute [local irreducible] wpList Calls Code.wp AW AWo OpOk seqK zAi zAp loopK endK AC zAC Yld Sub
attribute [local irreducible] ACB ACX absLexG YldG
structure BkIn (d : D) (B : Nat) : Prop where
 text : (d.f 2).s.size <= B
 keys : (d.f 4).l.length <= B
 items : (d.f 3).l.length <= B
 at_ : ∀ i,i < (d.f 3).l.length -> bulkD (gD (d.f 3).l i) < bulkD d
 key : ∀ i,i < (d.f 4).l.length -> (gD (d.f 4).l i).s.size <= B
theorem zEN : ∀ l : List D,l.length <= bulkL l
 | [] => Nat.le_refl _
 | x :: r => by
   have:=zEN r
   have:=zBB x
   simp only [bulkL,List.length_cons]; omega
end Go.Proofs.YtdlnnlglmifceaaGreatDoor
namespace Go.Proofs.YtdlnnlglmifceaaGreatDoor
open Go.RowKit
set_option linter.unusedSectionVars false
attribute [local irreducible] wpList Calls Code.wp AW AWo OpOk seqK zAi zAp loopK endK AC zAC Yld Sub
attribute [local irreducible] ACB ACX absLexG YldG absLexH
theorem zBQ {i n : Nat} (h : i < n) : 0 <= (i : Int) /\ (i : Int) < (n : Int):=⟨Int.natCast_nonneg i,Int.ofNat_lt.2 h⟩
theorem zGI : ∀ l : List UInt8,Op.bytesLess l l = false
 | [] => rfl
 | c :: r => by
   have:=zGI r
   unfold Op.bytesLess
   simp [this]
def keyK (d : D) (i : Nat) : ByteArray:=if i < (d.f 4).l.length then (gD (d.f 4).l i).s else { data:=#[] }
end Go.Proofs.YtdlnnlglmifceaaGreatDoor
namespace Go.Proofs.YtdlnnlglmifceaaGreatDoor
open Go.RowKit
attribute [local irreducible] wpList Calls Code.wp
def LenT (P : Program) : Nat -> TypeId -> D -> Prop
 | 0,_,_ => True
 | n + 1,t,d =>
   match P.underlying t with
   | some .string => d.s.size <= maxLen
   | some (.slice e) => d.l.length <= maxLen /\ (0 < P.cellsOf e -> ∀ i,i < d.l.length -> LenT P n e (gD d.l i))
   | some (.struct fs) => ∀ j f,fs[j]? = some f -> LenT P n f.type (d.f j)
   | _ => True
section
variable {P : Program} {s : Sg} {w : World}
theorem RepF.len {F : Nat -> Nat -> Prop} : ∀ (n : Nat) {k : Nat} {t : TypeId} {cs : List Value} {d : D},RepF P w F k t cs d -> LenT P n t d
 | 0,_,_,_,_,_ => trivial
 | n + 1,0,_,_,_,h => h.elim
 | n + 1,k + 1,t,cs,d,h => by
   unfold RepF at h
   unfold LenT
   split <;> rename_i hu <;> try simp only [hu] at h
   . exact h.2
   . obtain ⟨A,c,h1,h2,h3,h4,h5⟩:=h
     refine ⟨Nat.le_trans h2 h3,fun hc i hi => ?_⟩
     obtain ⟨b,off,hA,hat⟩:=h5 (by omega) hc
     obtain ⟨ys,y1,y2,y3⟩:=hat i hi
     exact RepF.len n y3
   . exact fun j f hf => RepF.len n (h.2 j f hf)
   . trivial
theorem SlV.len {F : Nat -> Nat -> Prop} (n : Nat) {e : TypeId} {l : List D} {u : Value} (h : SlV P w F e l u) : l.length <= maxLen /\ (0 < P.cellsOf e -> ∀ i,i < l.length -> LenT P n e (gD l i)):=by
 obtain ⟨k,A,c,h1,h2,h3,h4,h5⟩:=h
 refine ⟨Nat.le_trans h2 h3,fun hc i hi => ?_⟩
 obtain ⟨b,off,hA,hat⟩:=h5 (by omega) hc
 obtain ⟨ys,y1,y2,y3⟩:=hat i hi
 exact y3.len n
mutual
theorem zEM : ∀ (m n : Nat) (t : TypeId) (d : D) (cs : List Value),layB P m t = true -> relL P s w (cellsV P m t d) cs -> LenT P n t d
 | 0,_,_,_,_,hb,_ => by simp [layB] at hb
 | m + 1,0,_,_,_,_,_ => trivial
 | m + 1,n + 1,t,d,cs,hb,h => by
   unfold LenT
   unfold layB at hb
   unfold cellsV at h
   split <;> rename_i hu <;> try simp only [hu] at h hb
   . cases cs with
     | nil => simp [relL] at h
     | cons c cs => rw [relL,rel] at h; exact h.1.2
   . cases cs with
     | nil => simp [relL] at h
     | cons c cs => rw [relL,rel] at h; exact h.1.len n
   . rename_i fs
     simp only [Bool.and_eq_true,beq_iff_eq] at hb
     intro j f hf
     have:=zEu m n fs.toList 0 d cs hb.2 h j f (by simpa using hf)
     simpa using this
   . trivial
theorem zEu : ∀ (m n : Nat) (fs : List Field) (j : Nat) (d : D) (cs : List Value),(fs.all fun f => layB P m f.type) = true -> relL P s w (zBO (cellsV P m) fs j d) cs -> ∀ i f,fs[i]? = some f -> LenT P n f.type (d.f (j + i))
 | m,n,[],j,d,cs,_,_,i,f,hf => by simp at hf
 | m,n,g :: fs,j,d,cs,hb,h,i,f,hf => by
   rw [zBO] at h
   simp only [List.all_cons,Bool.and_eq_true] at hb
   obtain ⟨h1,h2⟩:=relL.split h
   cases i with
   | zero =>
     simp at hf
     subst hf
     exact zEM m n g.type (d.f j) _ hb.1 h1
   | succ i =>
     have:=zEu m n fs (j + 1) d _ hb.2 h2 i f (by simpa using hf)
     rwa [show j + 1 + i = j + (i + 1) by omega] at this
end
end
theorem zIK {e : Ge} {P : Program} {f : FuncId} {args : List V} {r : V} {p : Prop} (hp : ∀ s w us,relL P s w args us -> p) (h : p -> AC e P f args r) : AC e P f args r:=fun s w us hr hx he => h (hp s w us.toList hr) s w us hr hx he
theorem zEZ {e : Ge} {P : Program} {f : FuncId} {t : TypeId} {l : List D} {args : List V} {r : V} (n : Nat) (h : l.length <= maxLen /\ (0 < P.cellsOf t -> ∀ i,i < l.length -> LenT P n t (gD l i)) -> AC e P f (.sl t l :: args) r) : AC e P f (.sl t l :: args) r:=
 zIK (fun s w us hr => by
  cases us with
  | nil => simp [relL] at hr
  | cons u us => rw [relL,rel] at hr; exact hr.1.len n) h
theorem zEP {e : Ge} {P : Program} {f : FuncId} {t : TypeId} {d : D} {args : List V} {r : V} (n : Nat) (hb : layB P 12 t = true) (h : LenT P n t d -> AC e P f (.agg (cellsV P 12 t d) :: args) r) : AC e P f (.agg (cellsV P 12 t d) :: args) r:=
 zIK (fun s w us hr => by
  cases us with
  | nil => simp [relL] at hr
  | cons u us =>
    rw [relL,rel] at hr
    obtain ⟨⟨cs,-,h1⟩,-⟩:=hr
    exact zEM 12 n t d cs.toList hb h1) h
end Go.Proofs.YtdlnnlglmifceaaGreatDoor
namespace Go.Proofs.YtdlnnlglmifceaaGreatDoor
open Go.RowKit
set_option linter.unusedSectionVars false
theorem LenT.fld {P : Program} {n : Nat} {t : TypeId} {d : D} {fs : Array Field} {f : Field} (j : Nat) (hu : P.underlying t = some (.struct fs)) (hf : fs[j]? = some f) (h : LenT P (n + 1) t d) : LenT P n f.type (d.f j):=by
 unfold LenT at h
 rw [hu] at h
 exact h j f hf
theorem LenT.lst {P : Program} {n : Nat} {t e : TypeId} {d : D} (hu : P.underlying t = some (.slice e)) (h : LenT P (n + 1) t d) : d.l.length <= maxLen /\ (0 < P.cellsOf e -> ∀ i,i < d.l.length -> LenT P n e (gD d.l i)):=by
 unfold LenT at h
 rw [hu] at h
 exact h
theorem len_ref {n : Nat} {d : D} (h : LenT Tryz.prog (n + 2) 59 d) : (d.f 1).l.length <= maxLen:=(LenT.lst (t:=38) (e:=3) (by kernel_rfl) (LenT.fld 1 (fs:=Tryz.prog.fieldsOf 59) (f:=(Tryz.prog.fieldsOf 59)[1]!) (by kernel_rfl) (by kernel_rfl) h)).1
theorem zDL {n : Nat} {d : D} (h : LenT Tryz.prog (n + 2) 62 d) : (d.f 3).l.length <= maxLen /\ (d.f 4).l.length <= maxLen:=
 ⟨(LenT.lst (t:=60) (e:=62) (by kernel_rfl) (LenT.fld 3 (fs:=Tryz.prog.fieldsOf 62) (f:=(Tryz.prog.fieldsOf 62)[3]!) (by kernel_rfl) (by kernel_rfl) h)).1,
  (LenT.lst (t:=28) (e:=9) (by kernel_rfl) (LenT.fld 4 (fs:=Tryz.prog.fieldsOf 62) (f:=(Tryz.prog.fieldsOf 62)[4]!) (by kernel_rfl) (by kernel_rfl) h)).1⟩
attribute [local irreducible] wpList Calls Code.wp AW AWo OpOk seqK zAi zAp loopK endK AC zAC Yld Sub
attribute [local irreducible] ACB ACX absLexG YldG absLexH
end Go.Proofs.YtdlnnlglmifceaaGreatDoor
namespace Go.Proofs.YtdlnnlglmifceaaGreatDoor
open Go.RowKit
set_option linter.unusedSectionVars false
def wrapsI (l : List D) : Nat -> Nat -> Bool
 | 0,_ => true
 | j + 1,i => ((gD l i).n == 1 || (gD l i).n == 2) && !((gD l i).n == 1 && decide (0 < i) && (gD l (i - 1)).n == (gD l i).n) && wrapsI l j (i + 1)
theorem zDq (x : D) (l : List D) : ∀ (j i : Nat),wrapsI (x :: l) j (i + 2) = wrapsI l j (i + 1)
 | 0,_ => rfl
 | j + 1,i => by
   unfold wrapsI
   rw [zDq x l j (i + 1)]
   have e1 : gD (x :: l) (i + 2) = gD l (i + 1):=rfl
   have e2 : gD (x :: l) (i + 2 - 1) = gD l (i + 1 - 1):=rfl
   have e3 : decide (0 < i + 2) = decide (0 < i + 1):=by simp
   rw [e1,e2,e3]
theorem zHR : ∀ l : List D,wrapsI l l.length 0 = zDU (l.map D.n)
 | [] => rfl
 | [x] => by
   show (((x.n == 1 || x.n == 2) && !(x.n == 1 && decide (0 < 0) && _)) && true) = (x.n == 1 || x.n == 2)
   simp
 | x :: y :: r => by
   have ih:=zHR (y :: r)
   show (((x.n == 1 || x.n == 2) && !(x.n == 1 && decide (0 < 0) && _)) && wrapsI (x :: y :: r) (r.length + 1) 1) = ((x.n == 1 || x.n == 2) && !(x.n == 1 && y.n == 1) && zDU (y.n :: r.map D.n))
   have e : wrapsI (x :: y :: r) (r.length + 1) 1 = (((y.n == 1 || y.n == 2) && !(y.n == 1 && true && (x.n == y.n))) && wrapsI (y :: r) r.length 1):=by
    show (((y.n == 1 || y.n == 2) && !(y.n == 1 && true && (x.n == y.n))) && wrapsI (x :: y :: r) r.length 2) = _
    rw [zDq]
   have e2 : wrapsI (y :: r) (y :: r).length 0 = (((y.n == 1 || y.n == 2) && !(y.n == 1 && decide (0 < 0) && false)) && wrapsI (y :: r) r.length 1):=by
    show (((y.n == 1 || y.n == 2) && !(y.n == 1 && decide (0 < 0) && _)) && wrapsI (y :: r) r.length 1) = _
    simp
   rw [e]
   rw [e2] at ih
   have ih2 : zDU (y.n :: r.map D.n) = (((y.n == 1 || y.n == 2) && !(y.n == 1 && decide (0 < 0) && false)) && wrapsI (y :: r) r.length 1):=ih.symm
   rw [ih2]
   generalize wrapsI (y :: r) r.length 1 = q
   cases hy : (y.n == 1)
   . generalize (x.n == 1) = a1
     generalize (x.n == 2) = a2
     generalize (y.n == 2) = a3
     generalize (x.n == y.n) = a4
     cases a1 <;> cases a2 <;> cases a3 <;> cases a4 <;> cases q <;> rfl
   . have hy' : y.n = 1:=by simpa using hy
     rw [hy']
     generalize (x.n == 1) = a1
     generalize (x.n == 2) = a2
     cases a1 <;> cases a2 <;> cases q <;> rfl
theorem zEa (a b : Int) : IntKind.i64.wrap (IntKind.i64.wrap a + b) = IntKind.i64.wrap (a + b):=by
 simp [IntKind.wrap,IntKind.min,IntKind.max,IntKind.bits,IntKind.signed]
 repeat' split
 all_goals omega
theorem wrap_add_r (a b : Int) : IntKind.i64.wrap (a + IntKind.i64.wrap b) = IntKind.i64.wrap (a + b):=by
 rw [Int.add_comm,zEa,Int.add_comm]
theorem zFI (s : ByteArray) (l : List UInt8) : (s.toList == (⟨l.toArray⟩ : ByteArray).toList) = (s.data.toList == l):=by
 rw [Lib.toList_data,Lib.toList_data]
def sizeW (k : Nat) (d : D) : Int:=IntKind.i64.wrap (sizeR k d : Int)
def maxW (f : Nat -> Int) : Nat -> Int
 | 0 => 0
 | n + 1 => if maxW f n < f n then f n else maxW f n
def zDd : Nat -> D -> Int
 | 0,_ => 1
 | k + 1,d => IntKind.i64.wrap (maxW (fun i => zDd k (gD (d.f 3).l i)) (d.f 3).l.length + 1)
def litW (d : D) : Bool:=decide (sizeW (bulkD d) d <= 4096) && decide (zDd (bulkD d) d <= 24) && everyL (bulkD d) d
attribute [local irreducible] wpList Calls Code.wp AW AWo OpOk seqK zAi zAp loopK endK AC zAC Yld Sub
attribute [local irreducible] ACB ACX absLexG YldG
end Go.Proofs.YtdlnnlglmifceaaGreatDoor
namespace Go.Proofs.YtdlnnlglmifceaaGreatDoor
open Go.RowKit
set_option linter.unusedSectionVars false
attribute [local irreducible] wpList Calls Code.wp AW AWo OpOk seqK zAi zAp loopK endK AC zAC Yld Sub
attribute [local irreducible] ACB ACX absLexG YldG absLexH
theorem zAl (s : ByteArray) : AC EN Tryz.prog 26 [.c (.string s)] (.c (.bool (nameB s))):=by
 refine zHO (r:=.bool (nameB s)) fun σ w us hus _ => ?_
 obtain ⟨rfl,hs⟩:=str_arg hus
 refine ⟨trivial,(nameR s w hs).mono ?_⟩
 rintro e w' ⟨rfl,rfl⟩
 exact ⟨rfl,Below.refl _ _⟩
noncomputable def HSfW (d : D) (n : Int) (i : Nat) : Vst 21:=stS 21 [(1,.bx 1 0),(3,.c (.int .i64 n)),(4,.c (.int .i64 (i : Int)))] [(1,.box 62 (cellsV Tryz.prog 12 62 d))]
theorem zFy : ∀ (k : Nat) (d : D),Dp k d -> AC EN Tryz.prog 39 [.agg (cellsV Tryz.prog 12 62 d)] (.c (.int .i64 (sizeW k d)))
 | 0,_,h => h.elim
 | k + 1,d,h => by
   refine zEP 2 (by kernel_rfl) fun hL => ?_
   have hl : (d.f 3).l.length <= 9223372036854775807:=(zDL hL).1
   clear hL
   have ih:=fun i (hi : i < (d.f 3).l.length) => zFy k (gD (d.f 3).l i) (h i hi)
   have hs : sizeW (k + 1) d = IntKind.i64.wrap ((1 + sumN (fun i => sizeR k (gD (d.f 3).l i)) (d.f 3).l.length : Nat) : Int):=rfl
   refine zh 21 Tryz.func39 rfl rfl rfl rfl ?_
   intro s w he
   repeat' (first
|refine zB ?_
|refine zM ?_
|refine zk ?_
|refine zV ?_
|refine zd ?_
|apply aw_1
 conv => whnf
 refine ⟨?_,trivial⟩
|apply s_1
 conv => whnf; arg 1; arg 4; arg 3; whnf
 refine ⟨?_,?_⟩
|apply z7 rfl
 . conv => lhs; whnf
 . conv => lhs; whnf; arg 2; whnf
|apply zl rfl
 . conv => lhs; whnf
 . conv => lhs; whnf
 . first | fail
|apply zAV rfl rfl rfl rfl
 . conv => lhs; whnf; arg 1; whnf
 . rfl
|apply zN
 . conv => lhs; whnf; arg 1; arg 1; whnf
|apply zO
 . conv => lhs; whnf; arg 1; arg 1; whnf
|refine zW (by conv => lhs; whnf) ?_ ?_ <;> intro hb
|refine zn ?_
|refine zb ?_
|refine zH ?_
|refine zL ?_
|refine zG ?_
|refine zD rfl ?_
|refine zF rfl ?_
|refine zE ?_
|refine zJ ?_
|refine zC ?_
|refine zK ?_
|refine z8 ?_
|refine zI ?_
|refine ⟨_,by conv => lhs; whnf; arg 2; whnf,?_⟩; conv => rhs; whnf
|exact trivial
|intro hg)
   refine zAG (fun j st => ∃ i,i + j = (d.f 3).l.length /\ Sub (cx EN Tryz.prog s w he) st (HSfW d (IntKind.i64.wrap ((1 + sumN (fun i => sizeR k (gD (d.f 3).l i)) i : Nat) : Int)) i)) (d.f 3).l.length ⟨0,by omega,Sub.live ⟨rfl,rfl,rfl,trivial⟩ ⟨rfl,trivial⟩⟩ ?_
   rintro j st ⟨i,hij,hs2⟩
   refine zAF hs2 ?_
   clear hs2
   by_cases hi : i < (d.f 3).l.length
   . have f0 : decide ((i : Int) < ((d.f 3).l.length : Nat)) = true:=decide_eq_true (by omega)
     have ih2:=ih i hi
     have hss : sumN (fun i => sizeR k (gD (d.f 3).l i)) (i + 1) = sumN (fun i => sizeR k (gD (d.f 3).l i)) i + sizeR k (gD (d.f 3).l i):=rfl
     repeat' (first
|apply s_addW (y:=.tmp _) rfl rfl rfl
 . conv => lhs; whnf
 . conv => lhs; whnf
|apply zT
 . conv => lhs; whnf
 . assumption
|apply zQ
 . conv => lhs; whnf
 . assumption
|refine zj ?_
|refine za ?_
|refine zAb ?_
|refine zB ?_
|refine zM ?_
|refine zk ?_
|refine zV ?_
|refine zd ?_
|apply aw_1
 conv => whnf
 refine ⟨?_,trivial⟩
|apply s_1
 conv => whnf; arg 1; arg 4; arg 3; whnf
 refine ⟨?_,?_⟩
|apply z7 rfl
 . conv => lhs; whnf
 . conv => lhs; whnf; arg 2; whnf
|apply zl rfl
 . conv => lhs; whnf
 . conv => lhs; whnf
 . first | exact ih2
|apply zAV rfl rfl rfl rfl
 . conv => lhs; whnf; arg 1; whnf
 . rfl
|apply zN
 . conv => lhs; whnf; arg 1; arg 1; whnf
|apply zO
 . conv => lhs; whnf; arg 1; arg 1; whnf
|refine zW (by conv => lhs; whnf) ?_ ?_ <;> intro hb
|refine zn ?_
|refine zb ?_
|refine zH ?_
|refine zL ?_
|refine zG ?_
|refine zD rfl ?_
|refine zF rfl ?_
|refine zE ?_
|refine zJ ?_
|refine zC ?_
|refine zK ?_
|refine z8 ?_
|refine zI ?_
|refine ⟨_,by conv => lhs; whnf; arg 2; whnf,?_⟩; conv => rhs; whnf
|exact trivial
|intro hg)
     all_goals first
      | exact zAN (by omega)
      | exact zBQ hi
      | (refine zY (j':=j - 1) (by omega) ⟨i + 1,by omega,Sub.live ⟨rfl,?_,rfl,trivial⟩ ⟨rfl,trivial⟩⟩
         refine congrArg (fun n => V.c (.int .i64 n)) (?_ : IntKind.i64.wrap (IntKind.i64.wrap ((1 + sumN (fun i => sizeR k (gD (d.f 3).l i)) i : Nat) : Int) + sizeW k (gD (d.f 3).l i)) = IntKind.i64.wrap ((1 + sumN (fun i => sizeR k (gD (d.f 3).l i)) (i + 1) : Nat) : Int))
         rw [zEa,hss]
         unfold sizeW
         rw [wrap_add_r]
         congr 1
         omega)
   . have f0 : decide ((i : Int) < ((d.f 3).l.length : Nat)) = false:=decide_eq_false (by omega)
     repeat' (first
|apply zT
 . conv => lhs; whnf
 . assumption
|apply zQ
 . conv => lhs; whnf
 . assumption
|refine zj ?_
|refine za ?_
|refine zAb ?_
|refine zB ?_
|refine zM ?_
|refine zk ?_
|refine zV ?_
|refine zd ?_
|apply aw_1
 conv => whnf
 refine ⟨?_,trivial⟩
|apply s_1
 conv => whnf; arg 1; arg 4; arg 3; whnf
 refine ⟨?_,?_⟩
|apply z7 rfl
 . conv => lhs; whnf
 . conv => lhs; whnf; arg 2; whnf
|apply zl rfl
 . conv => lhs; whnf
 . conv => lhs; whnf
 . first | fail
|apply zAV rfl rfl rfl rfl
 . conv => lhs; whnf; arg 1; whnf
 . rfl
|apply zN
 . conv => lhs; whnf; arg 1; arg 1; whnf
|apply zO
 . conv => lhs; whnf; arg 1; arg 1; whnf
|refine zW (by conv => lhs; whnf) ?_ ?_ <;> intro hb
|refine zn ?_
|refine zb ?_
|refine zH ?_
|refine zL ?_
|refine zG ?_
|refine zD rfl ?_
|refine zF rfl ?_
|refine zE ?_
|refine zJ ?_
|refine zC ?_
|refine zK ?_
|refine z8 ?_
|refine zI ?_
|refine ⟨_,by conv => lhs; whnf; arg 2; whnf,?_⟩; conv => rhs; whnf
|exact trivial
|intro hg)
     rw [hs,show i = (d.f 3).l.length by omega]
noncomputable def HDfW (d : D) (n : Int) (i : Nat) : Vst 22:=stS 22 [(1,.bx 1 0),(3,.c (.int .i64 n)),(4,.c (.int .i64 (i : Int)))] [(1,.box 62 (cellsV Tryz.prog 12 62 d))]
theorem zEy : ∀ (k : Nat) (d : D),Dp k d -> AC EN Tryz.prog 92 [.agg (cellsV Tryz.prog 12 62 d)] (.c (.int .i64 (zDd k d)))
 | 0,_,h => h.elim
 | k + 1,d,h => by
   refine zEP 2 (by kernel_rfl) fun hL => ?_
   have hl : (d.f 3).l.length <= 9223372036854775807:=(zDL hL).1
   clear hL
   have ih:=fun i (hi : i < (d.f 3).l.length) => zEy k (gD (d.f 3).l i) (h i hi)
   have hs : zDd (k + 1) d = IntKind.i64.wrap (maxW (fun i => zDd k (gD (d.f 3).l i)) (d.f 3).l.length + 1):=rfl
   refine zh 22 Tryz.func92 rfl rfl rfl rfl ?_
   intro s w he
   repeat' (first
|refine zB ?_
|refine zM ?_
|refine zk ?_
|refine zV ?_
|refine zd ?_
|apply aw_1
 conv => whnf
 refine ⟨?_,trivial⟩
|apply s_1
 conv => whnf; arg 1; arg 4; arg 3; whnf
 refine ⟨?_,?_⟩
|apply z7 rfl
 . conv => lhs; whnf
 . conv => lhs; whnf; arg 2; whnf
|apply zl rfl
 . conv => lhs; whnf
 . conv => lhs; whnf
 . first | fail
|apply zAV rfl rfl rfl rfl
 . conv => lhs; whnf; arg 1; whnf
 . rfl
|apply zN
 . conv => lhs; whnf; arg 1; arg 1; whnf
|apply zO
 . conv => lhs; whnf; arg 1; arg 1; whnf
|refine zW (by conv => lhs; whnf) ?_ ?_ <;> intro hb
|refine zn ?_
|refine zb ?_
|refine zH ?_
|refine zL ?_
|refine zG ?_
|refine zD rfl ?_
|refine zF rfl ?_
|refine zE ?_
|refine zJ ?_
|refine zC ?_
|refine zK ?_
|refine z8 ?_
|refine zI ?_
|refine ⟨_,by conv => lhs; whnf; arg 2; whnf,?_⟩; conv => rhs; whnf
|exact trivial
|intro hg)
   refine zAG (fun j st => ∃ i,i + j = (d.f 3).l.length /\ Sub (cx EN Tryz.prog s w he) st (HDfW d (maxW (fun i => zDd k (gD (d.f 3).l i)) i) i)) (d.f 3).l.length ⟨0,by omega,Sub.live ⟨rfl,rfl,rfl,trivial⟩ ⟨rfl,trivial⟩⟩ ?_
   rintro j st ⟨i,hij,hs2⟩
   refine zAF hs2 ?_
   clear hs2
   by_cases hi : i < (d.f 3).l.length
   . have f0 : decide ((i : Int) < ((d.f 3).l.length : Nat)) = true:=decide_eq_true (by omega)
     have ih2:=ih i hi
     repeat' (first
|apply s_max rfl rfl rfl
 . conv => lhs; whnf; arg 1; whnf
 . conv => lhs; whnf; arg 1; whnf
|apply zT
 . conv => lhs; whnf
 . assumption
|apply zQ
 . conv => lhs; whnf
 . assumption
|refine zj ?_
|refine za ?_
|refine zAb ?_
|refine zB ?_
|refine zM ?_
|refine zk ?_
|refine zV ?_
|refine zd ?_
|apply aw_1
 conv => whnf
 refine ⟨?_,trivial⟩
|apply s_1
 conv => whnf; arg 1; arg 4; arg 3; whnf
 refine ⟨?_,?_⟩
|apply z7 rfl
 . conv => lhs; whnf
 . conv => lhs; whnf; arg 2; whnf
|apply zl rfl
 . conv => lhs; whnf
 . conv => lhs; whnf
 . first | exact ih2
|apply zAV rfl rfl rfl rfl
 . conv => lhs; whnf; arg 1; whnf
 . rfl
|apply zN
 . conv => lhs; whnf; arg 1; arg 1; whnf
|apply zO
 . conv => lhs; whnf; arg 1; arg 1; whnf
|refine zW (by conv => lhs; whnf) ?_ ?_ <;> intro hb
|refine zn ?_
|refine zb ?_
|refine zH ?_
|refine zL ?_
|refine zG ?_
|refine zD rfl ?_
|refine zF rfl ?_
|refine zE ?_
|refine zJ ?_
|refine zC ?_
|refine zK ?_
|refine z8 ?_
|refine zI ?_
|refine ⟨_,by conv => lhs; whnf; arg 2; whnf,?_⟩; conv => rhs; whnf
|exact trivial
|intro hg)
     all_goals first
      | exact zAN (by omega)
      | exact zBQ hi
      | exact zY (j':=j - 1) (by omega) ⟨i + 1,by omega,Sub.live ⟨rfl,rfl,rfl,trivial⟩ ⟨rfl,trivial⟩⟩
   . have f0 : decide ((i : Int) < ((d.f 3).l.length : Nat)) = false:=decide_eq_false (by omega)
     have e : i = (d.f 3).l.length:=by omega
     subst e
     repeat' (first
|apply s_addW rfl rfl rfl
 . conv => lhs; whnf
 . conv => lhs; whnf
|apply zT
 . conv => lhs; whnf
 . assumption
|apply zQ
 . conv => lhs; whnf
 . assumption
|refine zj ?_
|refine za ?_
|refine zAb ?_
|refine zB ?_
|refine zM ?_
|refine zk ?_
|refine zV ?_
|refine zd ?_
|apply aw_1
 conv => whnf
 refine ⟨?_,trivial⟩
|apply s_1
 conv => whnf; arg 1; arg 4; arg 3; whnf
 refine ⟨?_,?_⟩
|apply z7 rfl
 . conv => lhs; whnf
 . conv => lhs; whnf; arg 2; whnf
|apply zl rfl
 . conv => lhs; whnf
 . conv => lhs; whnf
 . first | fail
|apply zAV rfl rfl rfl rfl
 . conv => lhs; whnf; arg 1; whnf
 . rfl
|apply zN
 . conv => lhs; whnf; arg 1; arg 1; whnf
|apply zO
 . conv => lhs; whnf; arg 1; arg 1; whnf
|refine zW (by conv => lhs; whnf) ?_ ?_ <;> intro hb
|refine zn ?_
|refine zb ?_
|refine zH ?_
|refine zL ?_
|refine zG ?_
|refine zD rfl ?_
|refine zF rfl ?_
|refine zE ?_
|refine zJ ?_
|refine zC ?_
|refine zK ?_
|refine z8 ?_
|refine zI ?_
|refine ⟨_,by conv => lhs; whnf; arg 2; whnf,?_⟩; conv => rhs; whnf
|exact trivial
|intro hg)
     rfl
def eqStU (l : List D) (i k : Nat) : Bool:=(gD l i).s.toList == (gD l k).s.toList
def zFU (l : List D) (i : Nat) : Nat -> Nat -> Bool
 | 0,_ => false
 | j + 1,k => eqStU l i k || zFU l i j (k + 1)
def zEW (l : List D) : Nat -> Nat -> Bool
 | 0,_ => false
 | j + 1,i => zFU l i i 0 || zEW l j (i + 1)
theorem zGL (l : List D) (i : Nat) : ∀ (j k : Nat),zFU l i j k = true ↔ ∃ m,k <= m /\ m < k + j /\ eqStU l i m = true
 | 0,k => by simp only [zFU,Bool.false_eq_true,false_iff]; rintro ⟨m,h1,h2,-⟩; omega
 | j + 1,k => by
   rw [zFU,Bool.or_eq_true,zGL l i j (k + 1)]
   constructor
   . rintro (h | ⟨m,h1,h2,h3⟩)
     . exact ⟨k,Nat.le_refl _,by omega,h⟩
     . exact ⟨m,by omega,by omega,h3⟩
   . rintro ⟨m,h1,h2,h3⟩
     by_cases e : m = k
     . subst e; exact .inl h3
     . exact .inr ⟨m,by omega,by omega,h3⟩
theorem zGA (l : List D) : ∀ (j i : Nat),zEW l j i = true ↔ ∃ m,i <= m /\ m < i + j /\ ∃ k,k < m /\ eqStU l m k = true
 | 0,i => by simp only [zEW,Bool.false_eq_true,false_iff]; rintro ⟨m,h1,h2,-⟩; omega
 | j + 1,i => by
   rw [zEW,Bool.or_eq_true,zGA l j (i + 1),zGL]
   constructor
   . rintro (⟨k,h1,h2,h3⟩ | ⟨m,h1,h2,h3⟩)
     . exact ⟨i,Nat.le_refl _,by omega,k,by omega,h3⟩
     . exact ⟨m,by omega,by omega,h3⟩
   . rintro ⟨m,h1,h2,k,h3,h4⟩
     by_cases e : m = i
     . subst e; exact .inl ⟨k,by omega,by omega,h4⟩
     . exact .inr ⟨m,by omega,by omega,k,h3,h4⟩
theorem outT_RU (d : D) : zEW (d.f 4).l (d.f 4).l.length 0 = !decide (strsR d).Nodup:=by
 rw [Bool.eq_iff_iff,zGA,Bool.not_eq_true',decide_eq_false_iff_not]
 have hlen : (strsR d).length = (d.f 4).l.length:=by simp [strsR]
 have hg : ∀ i (h : i < (d.f 4).l.length),(strsR d)[i]'(by rw [hlen]; exact h) = (gD (d.f 4).l i).s.data.toList:=fun i h => by
  simp only [strsR,List.getElem_map]
  rw [gD,List.getD_eq_getElem?_getD,List.getElem?_eq_getElem h]; rfl
 have he : ∀ i k,eqStU (d.f 4).l i k = true ↔ (gD (d.f 4).l i).s.data.toList = (gD (d.f 4).l k).s.data.toList:=fun i k => by
  unfold eqStU; rw [Lib.toList_data,Lib.toList_data,beq_iff_eq]
 constructor
 . rintro ⟨m,-,h2,k,h3,h4⟩ hn
   have h5:=List.pairwise_iff_getElem.1 hn k m (by omega) (by omega) h3
   rw [hg k (by omega),hg m (by omega)] at h5
   exact h5 ((he m k).1 h4).symm
 . intro hn
   refine Classical.byContradiction fun hc => hn (List.pairwise_iff_getElem.2 fun k m hk hm hkm hq => hc ⟨m,Nat.zero_le _,by omega,k,hkm,?_⟩)
   rw [hg k (by omega),hg m (by omega)] at hq
   exact (he m k).2 hq.symm
noncomputable def HToU (l : List D) (i : Nat) : Vst 25:=stS 25 [(0,.sl 9 l),(3,.c (.int .i64 (i : Int)))] []
noncomputable def HTiU (l : List D) (i k : Nat) : Vst 25:=stS 25 [(0,.sl 9 l),(3,.c (.int .i64 (i : Int))),(4,.c (.int .i64 (k : Int)))] []
theorem twiceFU_ac (d : D) : AC EN Tryz.prog 163 [.sl 9 (d.f 4).l] (.c (.bool (!decide (strsR d).Nodup))):=by
 refine zEZ 1 fun hL2 => ?_
 have hl : (d.f 4).l.length <= 9223372036854775807:=hL2.1
 clear hL2
 have hR:=outT_RU d
 generalize (!decide (strsR d).Nodup) = R at hR |-
 generalize (d.f 4).l = l at hR hl |-
 refine zh 25 Tryz.func163 rfl rfl rfl rfl ?_
 intro s w he
 repeat' (first
|refine zB ?_
|refine zM ?_
|refine zk ?_
|refine zV ?_
|refine zd ?_
|apply aw_1
 conv => whnf
 refine ⟨?_,trivial⟩
|apply s_1
 conv => whnf; arg 1; arg 4; arg 3; whnf
 refine ⟨?_,?_⟩
|apply z7 rfl
 . conv => lhs; whnf
 . conv => lhs; whnf; arg 2; whnf
|apply zw (by kernel_rfl) (by kernel_rfl)
|apply zAd
|apply zAc rfl
 . conv => lhs; whnf
 . conv => lhs; whnf; arg 2; whnf
|exact zX
|exact ze
|exact all_nil
|show List.all _ _ = true; rfl
|show zAB _ _ = true; rfl
|exact ([] : List Nat)
|exact (1000000 : Nat)
|apply zN
 . conv => lhs; whnf; arg 1; arg 1; whnf
|apply zO
 . conv => lhs; whnf; arg 1; arg 1; whnf
|refine zW (by conv => lhs; whnf) ?_ ?_ <;> intro hb
|refine zn ?_
|refine zb ?_
|refine zH ?_
|refine zL ?_
|refine zG ?_
|refine zD rfl ?_
|refine zF rfl ?_
|refine zE ?_
|refine zJ ?_
|refine zC ?_
|refine zK ?_
|refine z8 ?_
|refine zI ?_
|refine ⟨_,by conv => lhs; whnf; arg 2; whnf,?_⟩; conv => rhs; whnf
|exact trivial
|intro hg)
 refine zAG (fun j st => ∃ i,i + j = l.length /\ zEW l j i = R /\ Sub (cx EN Tryz.prog s w he) st (HToU l i)) l.length ⟨0,by omega,hR,Sub.live ⟨rfl,rfl,trivial⟩ trivial⟩ ?_
 clear hR
 rintro j st ⟨i,hij,hR,hs2⟩
 refine zAF hs2 ?_
 clear hs2
 by_cases hi : i < l.length
 . obtain ⟨j,rfl⟩ : ∃ q,j = q + 1:=⟨j - 1,by omega⟩
   have f1 : decide ((i : Int) < (l.length : Nat)) = true:=decide_eq_true (by omega)
   have hR' : (zFU l i i 0 || zEW l j (i + 1)) = R:=hR
   clear hR
   repeat' (first
|apply zT
 . conv => lhs; whnf
 . assumption
|apply zQ
 . conv => lhs; whnf
 . assumption
|refine zj ?_
|refine za ?_
|refine zAb ?_
|refine zB ?_
|refine zM ?_
|refine zk ?_
|refine zV ?_
|refine zd ?_
|apply aw_1
 conv => whnf
 refine ⟨?_,trivial⟩
|apply s_1
 conv => whnf; arg 1; arg 4; arg 3; whnf
 refine ⟨?_,?_⟩
|apply z7 rfl
 . conv => lhs; whnf
 . conv => lhs; whnf; arg 2; whnf
|apply zw (by kernel_rfl) (by kernel_rfl)
|apply zAd
|apply zAc rfl
 . conv => lhs; whnf
 . conv => lhs; whnf; arg 2; whnf
|exact zX
|exact ze
|exact all_nil
|show List.all _ _ = true; rfl
|show zAB _ _ = true; rfl
|exact ([] : List Nat)
|exact (1000000 : Nat)
|apply zN
 . conv => lhs; whnf; arg 1; arg 1; whnf
|apply zO
 . conv => lhs; whnf; arg 1; arg 1; whnf
|refine zW (by conv => lhs; whnf) ?_ ?_ <;> intro hb
|refine zn ?_
|refine zb ?_
|refine zH ?_
|refine zL ?_
|refine zG ?_
|refine zD rfl ?_
|refine zF rfl ?_
|refine zE ?_
|refine zJ ?_
|refine zC ?_
|refine zK ?_
|refine z8 ?_
|refine zI ?_
|refine ⟨_,by conv => lhs; whnf; arg 2; whnf,?_⟩; conv => rhs; whnf
|exact trivial
|intro hg)
   refine zAG (fun jj st => ∃ k,k + jj = i /\ (zFU l i jj k || zEW l j (i + 1)) = R /\ Sub (cx EN Tryz.prog s w he) st (HTiU l i k)) i ⟨0,by omega,hR',Sub.live ⟨rfl,rfl,rfl,trivial⟩ trivial⟩ ?_
   clear hR'
   rintro jj st ⟨k,hk,hR,hs2⟩
   refine zAF hs2 ?_
   clear hs2
   by_cases hki : k < i
   . obtain ⟨jj,rfl⟩ : ∃ q,jj = q + 1:=⟨jj - 1,by omega⟩
     have f2 : decide ((k : Int) < (i : Int)) = true:=decide_eq_true (by omega)
     have hR' : (eqStU l i k || zFU l i jj (k + 1) || zEW l j (i + 1)) = R:=hR
     have hkl : k < l.length:=by omega
     repeat' (first
|apply zT
 . conv => lhs; whnf
 . assumption
|apply zQ
 . conv => lhs; whnf
 . assumption
|refine zj ?_
|refine za ?_
|refine zAb ?_
|refine zB ?_
|refine zM ?_
|refine zk ?_
|refine zV ?_
|refine zd ?_
|apply aw_1
 conv => whnf
 refine ⟨?_,trivial⟩
|apply s_1
 conv => whnf; arg 1; arg 4; arg 3; whnf
 refine ⟨?_,?_⟩
|apply z7 rfl
 . conv => lhs; whnf
 . conv => lhs; whnf; arg 2; whnf
|apply zw (by kernel_rfl) (by kernel_rfl)
|apply zAd
|apply zAc rfl
 . conv => lhs; whnf
 . conv => lhs; whnf; arg 2; whnf
|exact zX
|exact ze
|exact all_nil
|show List.all _ _ = true; rfl
|show zAB _ _ = true; rfl
|exact ([] : List Nat)
|exact (1000000 : Nat)
|apply zN
 . conv => lhs; whnf; arg 1; arg 1; whnf
|apply zO
 . conv => lhs; whnf; arg 1; arg 1; whnf
|refine zW (by conv => lhs; whnf) ?_ ?_ <;> intro hb
|refine zn ?_
|refine zb ?_
|refine zH ?_
|refine zL ?_
|refine zG ?_
|refine zD rfl ?_
|refine zF rfl ?_
|refine zE ?_
|refine zJ ?_
|refine zC ?_
|refine zK ?_
|refine z8 ?_
|refine zI ?_
|refine ⟨_,by conv => lhs; whnf; arg 2; whnf,?_⟩; conv => rhs; whnf
|exact trivial
|intro hg)
     all_goals first
      | exact zAN (by omega)
      | exact zBQ hi
      | exact zBQ hkl
      | skip
     . have e : eqStU l i k = true:=by assumption
       rw [<- hR',e]; rfl
     . have e : eqStU l i k = false:=by assumption
       exact zY (j':=jj) (by omega) ⟨k + 1,by omega,by rw [<- hR',e,Bool.false_or],Sub.live ⟨rfl,rfl,rfl,trivial⟩ trivial⟩
   . obtain rfl : jj = 0:=by omega
     have f2 : decide ((k : Int) < (i : Int)) = false:=decide_eq_false (by omega)
     have hR' : zEW l j (i + 1) = R:=by rw [<- hR,zFU,Bool.false_or]
     repeat' (first
|apply zT
 . conv => lhs; whnf
 . assumption
|apply zQ
 . conv => lhs; whnf
 . assumption
|refine zj ?_
|refine za ?_
|refine zAb ?_
|refine zB ?_
|refine zM ?_
|refine zk ?_
|refine zV ?_
|refine zd ?_
|apply aw_1
 conv => whnf
 refine ⟨?_,trivial⟩
|apply s_1
 conv => whnf; arg 1; arg 4; arg 3; whnf
 refine ⟨?_,?_⟩
|apply z7 rfl
 . conv => lhs; whnf
 . conv => lhs; whnf; arg 2; whnf
|apply zw (by kernel_rfl) (by kernel_rfl)
|apply zAd
|apply zAc rfl
 . conv => lhs; whnf
 . conv => lhs; whnf; arg 2; whnf
|exact zX
|exact ze
|exact all_nil
|show List.all _ _ = true; rfl
|show zAB _ _ = true; rfl
|exact ([] : List Nat)
|exact (1000000 : Nat)
|apply zN
 . conv => lhs; whnf; arg 1; arg 1; whnf
|apply zO
 . conv => lhs; whnf; arg 1; arg 1; whnf
|refine zW (by conv => lhs; whnf) ?_ ?_ <;> intro hb
|refine zn ?_
|refine zb ?_
|refine zH ?_
|refine zL ?_
|refine zG ?_
|refine zD rfl ?_
|refine zF rfl ?_
|refine zE ?_
|refine zJ ?_
|refine zC ?_
|refine zK ?_
|refine z8 ?_
|refine zI ?_
|refine ⟨_,by conv => lhs; whnf; arg 2; whnf,?_⟩; conv => rhs; whnf
|exact trivial
|intro hg)
     all_goals first
      | exact zAN (by omega)
      | exact zY (j':=j) (by omega) ⟨i + 1,by omega,hR',Sub.live ⟨rfl,rfl,trivial⟩ trivial⟩
      | skip
 . obtain rfl : j = 0:=by omega
   have f1 : decide ((i : Int) < (l.length : Nat)) = false:=decide_eq_false (by omega)
   repeat' (first
|apply zT
 . conv => lhs; whnf
 . assumption
|apply zQ
 . conv => lhs; whnf
 . assumption
|refine zj ?_
|refine za ?_
|refine zAb ?_
|refine zB ?_
|refine zM ?_
|refine zk ?_
|refine zV ?_
|refine zd ?_
|apply aw_1
 conv => whnf
 refine ⟨?_,trivial⟩
|apply s_1
 conv => whnf; arg 1; arg 4; arg 3; whnf
 refine ⟨?_,?_⟩
|apply z7 rfl
 . conv => lhs; whnf
 . conv => lhs; whnf; arg 2; whnf
|apply zw (by kernel_rfl) (by kernel_rfl)
|apply zAd
|apply zAc rfl
 . conv => lhs; whnf
 . conv => lhs; whnf; arg 2; whnf
|exact zX
|exact ze
|exact all_nil
|show List.all _ _ = true; rfl
|show zAB _ _ = true; rfl
|exact ([] : List Nat)
|exact (1000000 : Nat)
|apply zN
 . conv => lhs; whnf; arg 1; arg 1; whnf
|apply zO
 . conv => lhs; whnf; arg 1; arg 1; whnf
|refine zW (by conv => lhs; whnf) ?_ ?_ <;> intro hb
|refine zn ?_
|refine zb ?_
|refine zH ?_
|refine zL ?_
|refine zG ?_
|refine zD rfl ?_
|refine zF rfl ?_
|refine zE ?_
|refine zJ ?_
|refine zC ?_
|refine zK ?_
|refine z8 ?_
|refine zI ?_
|refine ⟨_,by conv => lhs; whnf; arg 2; whnf,?_⟩; conv => rhs; whnf
|exact trivial
|intro hg)
   rw [<- hR]; rfl
def zHg (n i : Int) (t : Bool) (a b : Nat) (x v y : Bool) : Bool:=
 if n = 0 then i == 0 && t && b == 0 && a == 0
 else if n = 1 then (i == 0 || i == 1) && t && b == 0 && a == 0
 else if n = 2 then t && b == 0 && a == 0
 else if n = 3 then i == 0 && b == 0 && a == 0
 else if n = 4 then i == 0 && b == 0 && a == 0 && x
 else if n = 5 then i == 0 && t && a == 0
 else if n = 6 then i == 0 && t && a == b && y
 else if n = 7 then i == 0 && b == 0 && a == 0 && v
 else false
theorem nodeF_KU (n i : Int) (t : Bool) (a b : Nat) (x v ks y : Bool) (hks : a = 0 -> ks = true) : (zHg n i t a b x v y && ks) = nodeK n i t a b x v ks y:=by
 have h0 : (a == 0) = true -> ks = true:=fun h => hks (by simpa using h)
 unfold zHg nodeK
 by_cases n0 : n = 0
 . subst n0; cases ks <;> simp_all
   try ac_rfl
 by_cases n1 : n = 1
 . subst n1; cases ks <;> simp_all
   try ac_rfl
 by_cases n2 : n = 2
 . subst n2; cases ks <;> simp_all
   try ac_rfl
 by_cases n3 : n = 3
 . subst n3; cases ks <;> simp_all
   try ac_rfl
 by_cases n4 : n = 4
 . subst n4; cases ks <;> simp_all
   try ac_rfl
 by_cases n5 : n = 5
 . subst n5; cases ks <;> simp_all
   try ac_rfl
 by_cases n6 : n = 6
 . subst n6; cases ks <;> simp_all
   try ac_rfl
 by_cases n7 : n = 7
 . subst n7; cases ks <;> simp_all
   try ac_rfl
 have hd : decide (0 <= n /\ n <= 7) = false:=decide_eq_false (by omega)
 rw [hd]
 simp [n0,n1,n2,n3,n4,n5,n6,n7]
def zDZ (d : D) : Bool:=zHg (d.f 0).n (d.f 1).n ((d.f 2).s.data.toList == []) (d.f 4).l.length (d.f 3).l.length (enumR (d.f 2).s) (nameB (d.f 2).s) (decide (strsR d).Nodup)
theorem nodeD_LU (d : D) : (zDZ d && !((d.f 4).l.any fun x => !nameB x.s)) = zGs d:=
 nodeF_KU _ _ _ _ _ _ _ _ _ fun h => by rw [List.eq_nil_of_length_eq_zero h]; rfl
theorem nodeFU_ac (d : D) : AC EN Tryz.prog 131 [.agg (cellsV Tryz.prog 12 62 d),.c (.bool true)] (.c (.bool (zDZ d))):=by
 have h1:=zAl (d.f 2).s
 have h2:=twiceFU_ac d
 have e : cellsV Tryz.prog 12 62 d = [.c (.int .i64 (d.f 0).n),.c (.int .i64 (d.f 1).n),.c (.string (d.f 2).s),.sl 62 (d.f 3).l,.sl 9 (d.f 4).l]:=rfl
 have hT : ((d.f 2).s.toList == ({ data:=#[] } : ByteArray).toList) = ((d.f 2).s.data.toList == []):=zFI _ []
 have hT1 : ((d.f 2).s.toList == ({ data:=#[116,114,117,101] } : ByteArray).toList) = ((d.f 2).s.data.toList == [116,114,117,101]):=zFI _ _
 have hT2 : ((d.f 2).s.toList == ({ data:=#[102,97,108,115,101] } : ByteArray).toList) = ((d.f 2).s.data.toList == [102,97,108,115,101]):=zFI _ _
 have hT3 : ((d.f 2).s.toList == ({ data:=#[110,117,108,108] } : ByteArray).toList) = ((d.f 2).s.data.toList == [110,117,108,108]):=zFI _ _
 have z3 : (((d.f 3).l.length : Int) == 0) = ((d.f 3).l.length == 0):=by rw [Bool.eq_iff_iff]; simp only [beq_iff_eq]; omega
 have z4 : (((d.f 4).l.length : Int) == 0) = ((d.f 4).l.length == 0):=by rw [Bool.eq_iff_iff]; simp only [beq_iff_eq]; omega
 have z5 : (((d.f 4).l.length : Int) == ((d.f 3).l.length : Int)) = ((d.f 4).l.length == (d.f 3).l.length):=by rw [Bool.eq_iff_iff]; simp only [beq_iff_eq]; omega
 unfold zDZ zHg enumR
 rw [e]
 by_cases h8 : 0 <= (d.f 0).n /\ (d.f 0).n <= 7
 . have h9 : (d.f 0).n = 0 \/ (d.f 0).n = 1 \/ (d.f 0).n = 2 \/ (d.f 0).n = 3 \/ (d.f 0).n = 4 \/ (d.f 0).n = 5 \/ (d.f 0).n = 6 \/ (d.f 0).n = 7:=by omega
   rcases h9 with hn | hn | hn | hn | hn | hn | hn | hn
   all_goals
    rw [hn]
    simp only [if_pos,if_neg,reduceIte,Int.reduceEq]
    refine zh 193 Tryz.func131 rfl rfl rfl rfl ?_
    intro s w he
    repeat' (first
|apply s_wanted_pick_t rfl rfl rfl
 . conv => lhs; whnf
 . first | rfl | assumption
 . conv => lhs; whnf
 . first | exact bT1 ‹_› | exact bT2 ‹_› | rfl
|apply zAL rfl rfl rfl
 . conv => lhs; whnf
 . first | rfl | assumption
 . conv => lhs; whnf
 . first | exact bT1 ‹_› | exact bT2 ‹_› | rfl
|apply s_wanted_pick_f rfl rfl rfl
 . conv => lhs; whnf
 . first | rfl | assumption
 . conv => lhs; whnf
 . first | exact bF1 ‹_› | exact bF2 ‹_› | rfl
|apply zAM rfl rfl rfl
 . conv => lhs; whnf
 . first | rfl | assumption
 . conv => lhs; whnf
 . first | exact bF1 ‹_› | exact bF2 ‹_› | rfl
|refine zB ?_
|refine zM ?_
|refine zk ?_
|refine zV ?_
|refine zd ?_
|apply aw_1
 conv => whnf
 refine ⟨?_,trivial⟩
|apply zp rfl rfl
 . conv => lhs; whnf
 . conv => lhs; whnf
 . first | exact bT1 ‹_› | exact bT2 ‹_›
|apply zo rfl rfl
 . conv => lhs; whnf
 . conv => lhs; whnf
 . first | exact bF1 ‹_› | exact bF2 ‹_›
|apply s_1
 conv => whnf; arg 1; arg 4; arg 3; whnf
 refine ⟨?_,?_⟩
|apply z7 rfl
 . conv => lhs; whnf
 . conv => lhs; whnf; arg 2; whnf
|apply zl rfl
 . conv => lhs; whnf
 . conv => lhs; whnf
 . first | exact h1 | exact h2
|apply zAV rfl rfl rfl rfl
 . conv => lhs; whnf; arg 1; whnf
 . rfl
|apply zS rfl
 . conv => lhs; whnf
 . conv => lhs; whnf
 . first | rfl | assumption
 . conv => lhs; whnf; arg 2; whnf
|apply zR rfl
 . conv => lhs; whnf
 . conv => lhs; whnf
 . first | rfl | assumption
 . conv => lhs; whnf
 . first | exact h1 | exact h2
|apply zAI rfl
 . conv => lhs; whnf
 . conv => lhs; whnf
 . first | rfl | assumption
|apply zAy rfl
 . conv => lhs; whnf
 . rfl
 . rfl
|apply zf rfl
 . conv => lhs; whnf
 . conv => lhs; whnf
 . conv => lhs; whnf; arg 2; whnf
|apply zu rfl
 . conv => lhs; whnf
 . conv => lhs; whnf
 . conv => lhs; whnf
 . first | exact h1 | exact h2
|apply zm rfl
 . conv => lhs; whnf
 . conv => lhs; whnf
 . conv => lhs; whnf; arg 2; whnf
|apply zi rfl
 . conv => lhs; whnf
 . conv => lhs; whnf
 . conv => lhs; whnf
 . first | exact h1 | exact h2
|apply zN
 . conv => lhs; whnf; arg 1; arg 1; whnf
|apply zO
 . conv => lhs; whnf; arg 1; arg 1; whnf
|refine zW (by conv => lhs; whnf) ?_ ?_ <;> intro hb
|refine zn ?_
|refine zb ?_
|refine zH ?_
|refine zL ?_
|refine zG ?_
|refine zD rfl ?_
|refine zF rfl ?_
|refine zE ?_
|refine zJ ?_
|refine zC ?_
|refine zK ?_
|refine z8 ?_
|refine zI ?_
|refine ⟨_,by conv => lhs; whnf; arg 2; whnf,?_⟩; conv => rhs; whnf
|exact trivial
|intro hg)
    all_goals
     refine congrArg (fun b => V.c (.bool b)) ?_
     clear h1 h2 he e
     simp only [hT,hT1,hT2,hT3,z3,z4,z5] at *
     clear hT hT1 hT2 hT3 z3 z4 z5
     generalize ((d.f 2).s.data.toList == []) = t at *
     generalize ((d.f 2).s.data.toList == [116,114,117,101]) = t1 at *
     generalize ((d.f 2).s.data.toList == [102,97,108,115,101]) = t2 at *
     generalize ((d.f 2).s.data.toList == [110,117,108,108]) = t3 at *
     generalize nameB (d.f 2).s = v at *
     generalize decide (strsR d).Nodup = y at *
     generalize ((d.f 3).l.length == 0) = b0 at *
     generalize ((d.f 4).l.length == 0) = a0 at *
     generalize ((d.f 4).l.length == (d.f 3).l.length) = ab at *
     generalize (d.f 1).n = i at *
     simp_all
 have n0 : (d.f 0).n ≠ 0:=by omega
 have n1 : (d.f 0).n ≠ 1:=by omega
 have n2 : (d.f 0).n ≠ 2:=by omega
 have n3 : (d.f 0).n ≠ 3:=by omega
 have n4 : (d.f 0).n ≠ 4:=by omega
 have n5 : (d.f 0).n ≠ 5:=by omega
 have n6 : (d.f 0).n ≠ 6:=by omega
 have n7 : (d.f 0).n ≠ 7:=by omega
 rw [if_neg n0,if_neg n1,if_neg n2,if_neg n3,if_neg n4,if_neg n5,if_neg n6,if_neg n7]
 . have f0 : ((d.f 0).n == 0) = false:=by simpa using n0
   have f1 : ((d.f 0).n == 1) = false:=by simpa using n1
   have f2 : ((d.f 0).n == 2) = false:=by simpa using n2
   have f3 : ((d.f 0).n == 3) = false:=by simpa using n3
   have f4 : ((d.f 0).n == 4) = false:=by simpa using n4
   have f5 : ((d.f 0).n == 5) = false:=by simpa using n5
   have f6 : ((d.f 0).n == 6) = false:=by simpa using n6
   have f7 : ((d.f 0).n == 7) = false:=by simpa using n7
   refine zh 193 Tryz.func131 rfl rfl rfl rfl ?_
   intro s w he
   repeat' (first
|apply zT
 . conv => lhs; whnf
 . assumption
|apply zQ
 . conv => lhs; whnf
 . assumption
|refine zj ?_
|refine za ?_
|refine zAb ?_
|refine zB ?_
|refine zM ?_
|refine zk ?_
|refine zV ?_
|refine zd ?_
|apply aw_1
 conv => whnf
 refine ⟨?_,trivial⟩
|apply zp rfl rfl
 . conv => lhs; whnf
 . conv => lhs; whnf
 . first | exact bT1 ‹_› | exact bT2 ‹_›
|apply zo rfl rfl
 . conv => lhs; whnf
 . conv => lhs; whnf
 . first | exact bF1 ‹_› | exact bF2 ‹_›
|apply s_1
 conv => whnf; arg 1; arg 4; arg 3; whnf
 refine ⟨?_,?_⟩
|apply z7 rfl
 . conv => lhs; whnf
 . conv => lhs; whnf; arg 2; whnf
|apply zl rfl
 . conv => lhs; whnf
 . conv => lhs; whnf
 . first | exact h1 | exact h2
|apply zAV rfl rfl rfl rfl
 . conv => lhs; whnf; arg 1; whnf
 . rfl
|apply zS rfl
 . conv => lhs; whnf
 . conv => lhs; whnf
 . first | rfl | assumption
 . conv => lhs; whnf; arg 2; whnf
|apply zR rfl
 . conv => lhs; whnf
 . conv => lhs; whnf
 . first | rfl | assumption
 . conv => lhs; whnf
 . first | exact h1 | exact h2
|apply zA6 rfl
 . conv => lhs; whnf
 . conv => lhs; whnf
 . first | rfl | assumption
|apply zm rfl
 . conv => lhs; whnf
 . conv => lhs; whnf
 . conv => lhs; whnf; arg 2; whnf
|apply zi rfl
 . conv => lhs; whnf
 . conv => lhs; whnf
 . conv => lhs; whnf
 . first | exact h1 | exact h2
|apply zN
 . conv => lhs; whnf; arg 1; arg 1; whnf
|apply zO
 . conv => lhs; whnf; arg 1; arg 1; whnf
|refine zW (by conv => lhs; whnf) ?_ ?_ <;> intro hb
|refine zn ?_
|refine zb ?_
|refine zH ?_
|refine zL ?_
|refine zG ?_
|refine zD rfl ?_
|refine zF rfl ?_
|refine zE ?_
|refine zJ ?_
|refine zC ?_
|refine zK ?_
|refine z8 ?_
|refine zI ?_
|refine ⟨_,by conv => lhs; whnf; arg 2; whnf,?_⟩; conv => rhs; whnf
|exact trivial
|intro hg)
def allIU (p : D -> Bool) (l : List D) : Nat -> Nat -> Bool
 | 0,_ => true
 | j + 1,i => p (gD l i) && allIU p l j (i + 1)
theorem zE4 (p : D -> Bool) (x : D) (l : List D) : ∀ (j i : Nat),allIU p (x :: l) j (i + 1) = allIU p l j i
 | 0,_ => rfl
 | j + 1,i => by
   unfold allIU
   rw [zE4 p x l j (i + 1)]
   rfl
theorem zDE (p : D -> Bool) : ∀ l : List D,allIU p l l.length 0 = l.all p
 | [] => rfl
 | x :: r => by
   show (p x && allIU p (x :: r) r.length 1) = (p x && r.all p)
   rw [zE4,zDE p r]
theorem all_anyU (p : D -> Bool) (l : List D) : l.all p = !(l.any fun x => !p x):=by
 induction l with
 | nil => rfl
 | cons x r ih => simp only [List.all_cons,List.any_cons,ih,Bool.not_or,Bool.not_not]
theorem zBg (p : D -> Bool) (l : List D) : allIU p l l.length 0 = !(l.any fun x => !p x):=by rw [zDE,all_anyU]
noncomputable def HWkU (d : D) (i : Nat) : Vst 43:=stS 43 [(1,.c (.bool true)),(2,.bx 2 0),(5,.c (.int .i64 (i : Int)))] [(2,.box 62 (cellsV Tryz.prog 12 62 d))]
noncomputable def HWiU (d : D) (i : Nat) : Vst 43:=stS 43 [(1,.c (.bool true)),(2,.bx 2 0),(6,.c (.int .i64 (i : Int)))] [(2,.box 62 (cellsV Tryz.prog 12 62 d))]
theorem zEc : ∀ (k : Nat) (d : D),Dp k d -> AC EN Tryz.prog 93 [.agg (cellsV Tryz.prog 12 62 d),.c (.bool true)] (.c (.bool (everyL k d)))
 | 0,_,h => h.elim
 | k + 1,d,h => by
   refine zEP 2 (by kernel_rfl) fun hL => ?_
   have hl : (d.f 3).l.length <= 9223372036854775807:=(zDL hL).1
   have hlk : (d.f 4).l.length <= 9223372036854775807:=(zDL hL).2
   clear hL
   have ih:=fun i (hi : i < (d.f 3).l.length) => zEc k (gD (d.f 3).l i) (h i hi)
   have hn:=nodeFU_ac d
   have hname:=fun i (_ : i < (d.f 4).l.length) => zAl (gD (d.f 4).l i).s
   have hR : everyL (k + 1) d = (zDZ d && allIU (fun x => nameB x.s) (d.f 4).l (d.f 4).l.length 0 && allIU (everyL k) (d.f 3).l (d.f 3).l.length 0):=by
    rw [zBg,zBg,nodeD_LU]; rfl
   generalize everyL (k + 1) d = R at hR |-
   refine zh 43 Tryz.func93 rfl rfl rfl rfl ?_
   intro s w he
   repeat' (first
|refine zB ?_
|refine zM ?_
|refine zk ?_
|refine zV ?_
|refine zd ?_
|apply aw_1
 conv => whnf
 refine ⟨?_,trivial⟩
|apply zp rfl rfl
 . conv => lhs; whnf
 . conv => lhs; whnf
 . first | exact bT1 ‹_› | exact bT2 ‹_›
|apply zo rfl rfl
 . conv => lhs; whnf
 . conv => lhs; whnf
 . first | exact bF1 ‹_› | exact bF2 ‹_›
|apply s_1
 conv => whnf; arg 1; arg 4; arg 3; whnf
 refine ⟨?_,?_⟩
|apply z7 rfl
 . conv => lhs; whnf
 . conv => lhs; whnf; arg 2; whnf
|apply zl rfl
 . conv => lhs; whnf
 . conv => lhs; whnf
 . first | exact hn
|apply zAV rfl rfl rfl rfl
 . conv => lhs; whnf; arg 1; whnf
 . rfl
|apply zS rfl
 . conv => lhs; whnf
 . conv => lhs; whnf
 . first | rfl | assumption
 . conv => lhs; whnf; arg 2; whnf
|apply zR rfl
 . conv => lhs; whnf
 . conv => lhs; whnf
 . first | rfl | assumption
 . conv => lhs; whnf
 . first | exact hn
|apply zA6 rfl
 . conv => lhs; whnf
 . conv => lhs; whnf
 . first | rfl | assumption
|apply zm rfl
 . conv => lhs; whnf
 . conv => lhs; whnf
 . conv => lhs; whnf; arg 2; whnf
|apply zi rfl
 . conv => lhs; whnf
 . conv => lhs; whnf
 . conv => lhs; whnf
 . first | exact hn
|apply zN
 . conv => lhs; whnf; arg 1; arg 1; whnf
|apply zO
 . conv => lhs; whnf; arg 1; arg 1; whnf
|refine zW (by conv => lhs; whnf) ?_ ?_ <;> intro hb
|refine zn ?_
|refine zb ?_
|refine zH ?_
|refine zL ?_
|refine zG ?_
|refine zD rfl ?_
|refine zF rfl ?_
|refine zE ?_
|refine zJ ?_
|refine zC ?_
|refine zK ?_
|refine z8 ?_
|refine zI ?_
|refine ⟨_,by conv => lhs; whnf; arg 2; whnf,?_⟩; conv => rhs; whnf
|exact trivial
|intro hg)
   . have hb : zDZ d = false:=by simpa using (by assumption : (!zDZ d) = true)
     rw [hR,hb]; rfl
   have hb : zDZ d = true:=by simpa using (by assumption : (!zDZ d) = false)
   rw [hb,Bool.true_and] at hR
   clear hb hn
   refine zAG (fun j st => ∃ i,i + j = (d.f 4).l.length /\ R = (allIU (fun x => nameB x.s) (d.f 4).l j i && allIU (everyL k) (d.f 3).l (d.f 3).l.length 0) /\ Sub (cx EN Tryz.prog s w he) st (HWkU d i)) (d.f 4).l.length ⟨0,by omega,hR,Sub.live ⟨rfl,rfl,rfl,trivial⟩ ⟨rfl,trivial⟩⟩ ?_
   clear hR
   rintro j st ⟨i,hij,hR,hs2⟩
   refine zAF hs2 ?_
   clear hs2
   by_cases hi : i < (d.f 4).l.length
   . obtain ⟨j,rfl⟩ : ∃ q,j = q + 1:=⟨j - 1,by omega⟩
     have f1 : decide ((i : Int) < ((d.f 4).l.length : Nat)) = true:=decide_eq_true (by omega)
     have hR' : R = (nameB (gD (d.f 4).l i).s && allIU (fun x => nameB x.s) (d.f 4).l j (i + 1) && allIU (everyL k) (d.f 3).l (d.f 3).l.length 0):=hR
     clear hR
     have hn1:=hname i hi
     repeat' (first
|apply s_wanted_pick_t rfl rfl rfl
 . conv => lhs; whnf
 . first | rfl | assumption
 . conv => lhs; whnf
 . first | exact bT1 ‹_› | exact bT2 ‹_› | rfl
|apply zAL rfl rfl rfl
 . conv => lhs; whnf
 . first | rfl | assumption
 . conv => lhs; whnf
 . first | exact bT1 ‹_› | exact bT2 ‹_› | rfl
|apply s_wanted_pick_f rfl rfl rfl
 . conv => lhs; whnf
 . first | rfl | assumption
 . conv => lhs; whnf
 . first | exact bF1 ‹_› | exact bF2 ‹_› | rfl
|apply zAM rfl rfl rfl
 . conv => lhs; whnf
 . first | rfl | assumption
 . conv => lhs; whnf
 . first | exact bF1 ‹_› | exact bF2 ‹_› | rfl
|apply zT
 . conv => lhs; whnf
 . assumption
|apply zQ
 . conv => lhs; whnf
 . assumption
|refine zj ?_
|refine za ?_
|refine zAb ?_
|refine zB ?_
|refine zM ?_
|refine zk ?_
|refine zV ?_
|refine zd ?_
|apply aw_1
 conv => whnf
 refine ⟨?_,trivial⟩
|apply zp rfl rfl
 . conv => lhs; whnf
 . conv => lhs; whnf
 . first | exact bT1 ‹_› | exact bT2 ‹_›
|apply zo rfl rfl
 . conv => lhs; whnf
 . conv => lhs; whnf
 . first | exact bF1 ‹_› | exact bF2 ‹_›
|apply s_1
 conv => whnf; arg 1; arg 4; arg 3; whnf
 refine ⟨?_,?_⟩
|apply z7 rfl
 . conv => lhs; whnf
 . conv => lhs; whnf; arg 2; whnf
|apply zl rfl
 . conv => lhs; whnf
 . conv => lhs; whnf
 . first | exact hn1
|apply zAV rfl rfl rfl rfl
 . conv => lhs; whnf; arg 1; whnf
 . rfl
|apply zS rfl
 . conv => lhs; whnf
 . conv => lhs; whnf
 . first | rfl | assumption
 . conv => lhs; whnf; arg 2; whnf
|apply zR rfl
 . conv => lhs; whnf
 . conv => lhs; whnf
 . first | rfl | assumption
 . conv => lhs; whnf
 . first | exact hn1
|apply zAI rfl
 . conv => lhs; whnf
 . conv => lhs; whnf
 . first | rfl | assumption
|apply zAy rfl
 . conv => lhs; whnf
 . rfl
 . rfl
|apply zf rfl
 . conv => lhs; whnf
 . conv => lhs; whnf
 . conv => lhs; whnf; arg 2; whnf
|apply zu rfl
 . conv => lhs; whnf
 . conv => lhs; whnf
 . conv => lhs; whnf
 . first | exact hn1
|apply zm rfl
 . conv => lhs; whnf
 . conv => lhs; whnf
 . conv => lhs; whnf; arg 2; whnf
|apply zi rfl
 . conv => lhs; whnf
 . conv => lhs; whnf
 . conv => lhs; whnf
 . first | exact hn1
|apply zN
 . conv => lhs; whnf; arg 1; arg 1; whnf
|apply zO
 . conv => lhs; whnf; arg 1; arg 1; whnf
|refine zW (by conv => lhs; whnf) ?_ ?_ <;> intro hb
|refine zn ?_
|refine zb ?_
|refine zH ?_
|refine zL ?_
|refine zG ?_
|refine zD rfl ?_
|refine zF rfl ?_
|refine zE ?_
|refine zJ ?_
|refine zC ?_
|refine zK ?_
|refine z8 ?_
|refine zI ?_
|refine ⟨_,by conv => lhs; whnf; arg 2; whnf,?_⟩; conv => rhs; whnf
|exact trivial
|intro hg)
     all_goals first
      | exact zAN (by omega)
      | exact zBQ hi
      | (have e : nameB (gD (d.f 4).l i).s = false:=by simpa using (by assumption : (!nameB (gD (d.f 4).l i).s) = true)
         rw [hR',e]; rfl)
      | (have e : nameB (gD (d.f 4).l i).s = true:=by simpa using (by assumption : (!nameB (gD (d.f 4).l i).s) = false)
         exact zY (j':=j) (by omega) ⟨i + 1,by omega,by rw [hR',e,Bool.true_and],Sub.live ⟨rfl,rfl,rfl,trivial⟩ ⟨rfl,trivial⟩⟩)
      | skip
   . obtain rfl : j = 0:=by omega
     have f1 : decide ((i : Int) < ((d.f 4).l.length : Nat)) = false:=decide_eq_false (by omega)
     have hR2 : R = allIU (everyL k) (d.f 3).l (d.f 3).l.length 0:=by rw [hR,allIU,Bool.true_and]
     clear hR
     repeat' (first
|apply zT
 . conv => lhs; whnf
 . assumption
|apply zQ
 . conv => lhs; whnf
 . assumption
|refine zj ?_
|refine za ?_
|refine zAb ?_
|refine zB ?_
|refine zM ?_
|refine zk ?_
|refine zV ?_
|refine zd ?_
|apply aw_1
 conv => whnf
 refine ⟨?_,trivial⟩
|apply zp rfl rfl
 . conv => lhs; whnf
 . conv => lhs; whnf
 . first | exact bT1 ‹_› | exact bT2 ‹_›
|apply zo rfl rfl
 . conv => lhs; whnf
 . conv => lhs; whnf
 . first | exact bF1 ‹_› | exact bF2 ‹_›
|apply s_1
 conv => whnf; arg 1; arg 4; arg 3; whnf
 refine ⟨?_,?_⟩
|apply z7 rfl
 . conv => lhs; whnf
 . conv => lhs; whnf; arg 2; whnf
|apply zl rfl
 . conv => lhs; whnf
 . conv => lhs; whnf
 . first | fail
|apply zAV rfl rfl rfl rfl
 . conv => lhs; whnf; arg 1; whnf
 . rfl
|apply zS rfl
 . conv => lhs; whnf
 . conv => lhs; whnf
 . first | rfl | assumption
 . conv => lhs; whnf; arg 2; whnf
|apply zR rfl
 . conv => lhs; whnf
 . conv => lhs; whnf
 . first | rfl | assumption
 . conv => lhs; whnf
 . first | fail
|apply zA6 rfl
 . conv => lhs; whnf
 . conv => lhs; whnf
 . first | rfl | assumption
|apply zm rfl
 . conv => lhs; whnf
 . conv => lhs; whnf
 . conv => lhs; whnf; arg 2; whnf
|apply zi rfl
 . conv => lhs; whnf
 . conv => lhs; whnf
 . conv => lhs; whnf
 . first | fail
|apply zN
 . conv => lhs; whnf; arg 1; arg 1; whnf
|apply zO
 . conv => lhs; whnf; arg 1; arg 1; whnf
|refine zW (by conv => lhs; whnf) ?_ ?_ <;> intro hb
|refine zn ?_
|refine zb ?_
|refine zH ?_
|refine zL ?_
|refine zG ?_
|refine zD rfl ?_
|refine zF rfl ?_
|refine zE ?_
|refine zJ ?_
|refine zC ?_
|refine zK ?_
|refine z8 ?_
|refine zI ?_
|refine ⟨_,by conv => lhs; whnf; arg 2; whnf,?_⟩; conv => rhs; whnf
|exact trivial
|intro hg)
     refine zAG (fun j st => ∃ i,i + j = (d.f 3).l.length /\ R = allIU (everyL k) (d.f 3).l j i /\ Sub (cx EN Tryz.prog s w he) st (HWiU d i)) (d.f 3).l.length ⟨0,by omega,hR2,Sub.live ⟨rfl,rfl,rfl,trivial⟩ ⟨rfl,trivial⟩⟩ ?_
     clear hR2
     rintro j2 st2 ⟨i2,hij2,hR,hs2⟩
     refine zAF hs2 ?_
     clear hs2
     by_cases hi2 : i2 < (d.f 3).l.length
     . obtain ⟨j2,rfl⟩ : ∃ q,j2 = q + 1:=⟨j2 - 1,by omega⟩
       have f2 : decide ((i2 : Int) < ((d.f 3).l.length : Nat)) = true:=decide_eq_true (by omega)
       have hR' : R = (everyL k (gD (d.f 3).l i2) && allIU (everyL k) (d.f 3).l j2 (i2 + 1)):=hR
       have ih2:=ih i2 hi2
       repeat' (first
|apply s_wanted_pick_t rfl rfl rfl
 . conv => lhs; whnf
 . first | rfl | assumption
 . conv => lhs; whnf
 . first | exact bT1 ‹_› | exact bT2 ‹_› | rfl
|apply zAL rfl rfl rfl
 . conv => lhs; whnf
 . first | rfl | assumption
 . conv => lhs; whnf
 . first | exact bT1 ‹_› | exact bT2 ‹_› | rfl
|apply s_wanted_pick_f rfl rfl rfl
 . conv => lhs; whnf
 . first | rfl | assumption
 . conv => lhs; whnf
 . first | exact bF1 ‹_› | exact bF2 ‹_› | rfl
|apply zAM rfl rfl rfl
 . conv => lhs; whnf
 . first | rfl | assumption
 . conv => lhs; whnf
 . first | exact bF1 ‹_› | exact bF2 ‹_› | rfl
|apply zT
 . conv => lhs; whnf
 . assumption
|apply zQ
 . conv => lhs; whnf
 . assumption
|refine zj ?_
|refine za ?_
|refine zAb ?_
|refine zB ?_
|refine zM ?_
|refine zk ?_
|refine zV ?_
|refine zd ?_
|apply aw_1
 conv => whnf
 refine ⟨?_,trivial⟩
|apply zp rfl rfl
 . conv => lhs; whnf
 . conv => lhs; whnf
 . first | exact bT1 ‹_› | exact bT2 ‹_›
|apply zo rfl rfl
 . conv => lhs; whnf
 . conv => lhs; whnf
 . first | exact bF1 ‹_› | exact bF2 ‹_›
|apply s_1
 conv => whnf; arg 1; arg 4; arg 3; whnf
 refine ⟨?_,?_⟩
|apply z7 rfl
 . conv => lhs; whnf
 . conv => lhs; whnf; arg 2; whnf
|apply zl rfl
 . conv => lhs; whnf
 . conv => lhs; whnf
 . first | exact ih2
|apply zAV rfl rfl rfl rfl
 . conv => lhs; whnf; arg 1; whnf
 . rfl
|apply zS rfl
 . conv => lhs; whnf
 . conv => lhs; whnf
 . first | rfl | assumption
 . conv => lhs; whnf; arg 2; whnf
|apply zR rfl
 . conv => lhs; whnf
 . conv => lhs; whnf
 . first | rfl | assumption
 . conv => lhs; whnf
 . first | exact ih2
|apply zAI rfl
 . conv => lhs; whnf
 . conv => lhs; whnf
 . first | rfl | assumption
|apply zAy rfl
 . conv => lhs; whnf
 . rfl
 . rfl
|apply zf rfl
 . conv => lhs; whnf
 . conv => lhs; whnf
 . conv => lhs; whnf; arg 2; whnf
|apply zu rfl
 . conv => lhs; whnf
 . conv => lhs; whnf
 . conv => lhs; whnf
 . first | exact ih2
|apply zm rfl
 . conv => lhs; whnf
 . conv => lhs; whnf
 . conv => lhs; whnf; arg 2; whnf
|apply zi rfl
 . conv => lhs; whnf
 . conv => lhs; whnf
 . conv => lhs; whnf
 . first | exact ih2
|apply zN
 . conv => lhs; whnf; arg 1; arg 1; whnf
|apply zO
 . conv => lhs; whnf; arg 1; arg 1; whnf
|refine zW (by conv => lhs; whnf) ?_ ?_ <;> intro hb
|refine zn ?_
|refine zb ?_
|refine zH ?_
|refine zL ?_
|refine zG ?_
|refine zD rfl ?_
|refine zF rfl ?_
|refine zE ?_
|refine zJ ?_
|refine zC ?_
|refine zK ?_
|refine z8 ?_
|refine zI ?_
|refine ⟨_,by conv => lhs; whnf; arg 2; whnf,?_⟩; conv => rhs; whnf
|exact trivial
|intro hg)
       all_goals first
        | exact zAN (by omega)
        | exact zBQ hi2
        | (have e : everyL k (gD (d.f 3).l i2) = false:=by simpa using (by assumption : (!everyL k (gD (d.f 3).l i2)) = true)
           rw [hR',e]; rfl)
        | (have e : everyL k (gD (d.f 3).l i2) = true:=by simpa using (by assumption : (!everyL k (gD (d.f 3).l i2)) = false)
           exact zY (j':=j2) (by omega) ⟨i2 + 1,by omega,by rw [hR',e,Bool.true_and],Sub.live ⟨rfl,rfl,rfl,trivial⟩ ⟨rfl,trivial⟩⟩)
        | skip
     . obtain rfl : j2 = 0:=by omega
       have f2 : decide ((i2 : Int) < ((d.f 3).l.length : Nat)) = false:=decide_eq_false (by omega)
       repeat' (first
|apply zT
 . conv => lhs; whnf
 . assumption
|apply zQ
 . conv => lhs; whnf
 . assumption
|refine zj ?_
|refine za ?_
|refine zAb ?_
|refine zB ?_
|refine zM ?_
|refine zk ?_
|refine zV ?_
|refine zd ?_
|apply aw_1
 conv => whnf
 refine ⟨?_,trivial⟩
|apply zp rfl rfl
 . conv => lhs; whnf
 . conv => lhs; whnf
 . first | exact bT1 ‹_› | exact bT2 ‹_›
|apply zo rfl rfl
 . conv => lhs; whnf
 . conv => lhs; whnf
 . first | exact bF1 ‹_› | exact bF2 ‹_›
|apply s_1
 conv => whnf; arg 1; arg 4; arg 3; whnf
 refine ⟨?_,?_⟩
|apply z7 rfl
 . conv => lhs; whnf
 . conv => lhs; whnf; arg 2; whnf
|apply zl rfl
 . conv => lhs; whnf
 . conv => lhs; whnf
 . first | fail
|apply zAV rfl rfl rfl rfl
 . conv => lhs; whnf; arg 1; whnf
 . rfl
|apply zS rfl
 . conv => lhs; whnf
 . conv => lhs; whnf
 . first | rfl | assumption
 . conv => lhs; whnf; arg 2; whnf
|apply zR rfl
 . conv => lhs; whnf
 . conv => lhs; whnf
 . first | rfl | assumption
 . conv => lhs; whnf
 . first | fail
|apply zA6 rfl
 . conv => lhs; whnf
 . conv => lhs; whnf
 . first | rfl | assumption
|apply zm rfl
 . conv => lhs; whnf
 . conv => lhs; whnf
 . conv => lhs; whnf; arg 2; whnf
|apply zi rfl
 . conv => lhs; whnf
 . conv => lhs; whnf
 . conv => lhs; whnf
 . first | fail
|apply zN
 . conv => lhs; whnf; arg 1; arg 1; whnf
|apply zO
 . conv => lhs; whnf; arg 1; arg 1; whnf
|refine zW (by conv => lhs; whnf) ?_ ?_ <;> intro hb
|refine zn ?_
|refine zb ?_
|refine zH ?_
|refine zL ?_
|refine zG ?_
|refine zD rfl ?_
|refine zF rfl ?_
|refine zE ?_
|refine zJ ?_
|refine zC ?_
|refine zK ?_
|refine z8 ?_
|refine zI ?_
|refine ⟨_,by conv => lhs; whnf; arg 2; whnf,?_⟩; conv => rhs; whnf
|exact trivial
|intro hg)
       rw [hR]; rfl
theorem zHk (d : D) : AC EN Tryz.prog 56 [.agg (cellsV Tryz.prog 12 62 d)] (.c (.bool (litW d))):=by
 have h:=zDP (bulkD d) d (Nat.le_refl _)
 have h1:=zFy _ d h
 have h2:=zEy _ d h
 have h3:=zEc _ d h
 unfold litW
 refine zh 15 Tryz.func56 rfl rfl rfl rfl ?_
 intro s w he
 repeat' (first
|apply s_wanted_pick_t rfl rfl rfl
 . conv => lhs; whnf
 . first | rfl | assumption
 . conv => lhs; whnf
 . first | exact bT1 ‹_› | exact bT2 ‹_› | rfl
|apply zAL rfl rfl rfl
 . conv => lhs; whnf
 . first | rfl | assumption
 . conv => lhs; whnf
 . first | exact bT1 ‹_› | exact bT2 ‹_› | rfl
|apply s_wanted_pick_f rfl rfl rfl
 . conv => lhs; whnf
 . first | rfl | assumption
 . conv => lhs; whnf
 . first | exact bF1 ‹_› | exact bF2 ‹_› | rfl
|apply zAM rfl rfl rfl
 . conv => lhs; whnf
 . first | rfl | assumption
 . conv => lhs; whnf
 . first | exact bF1 ‹_› | exact bF2 ‹_› | rfl
|refine zB ?_
|refine zM ?_
|refine zk ?_
|refine zV ?_
|refine zd ?_
|apply aw_1
 conv => whnf
 refine ⟨?_,trivial⟩
|apply zp rfl rfl
 . conv => lhs; whnf
 . conv => lhs; whnf
 . first | exact bT1 ‹_› | exact bT2 ‹_›
|apply zo rfl rfl
 . conv => lhs; whnf
 . conv => lhs; whnf
 . first | exact bF1 ‹_› | exact bF2 ‹_›
|apply s_1
 conv => whnf; arg 1; arg 4; arg 3; whnf
 refine ⟨?_,?_⟩
|apply z7 rfl
 . conv => lhs; whnf
 . conv => lhs; whnf; arg 2; whnf
|apply zl rfl
 . conv => lhs; whnf
 . conv => lhs; whnf
 . first | exact h1 | exact h2 | exact h3
|apply zAV rfl rfl rfl rfl
 . conv => lhs; whnf; arg 1; whnf
 . rfl
|apply zS rfl
 . conv => lhs; whnf
 . conv => lhs; whnf
 . first | rfl | assumption
 . conv => lhs; whnf; arg 2; whnf
|apply zR rfl
 . conv => lhs; whnf
 . conv => lhs; whnf
 . first | rfl | assumption
 . conv => lhs; whnf
 . first | exact h1 | exact h2 | exact h3
|apply zAI rfl
 . conv => lhs; whnf
 . conv => lhs; whnf
 . first | rfl | assumption
|apply zAy rfl
 . conv => lhs; whnf
 . rfl
 . rfl
|apply zf rfl
 . conv => lhs; whnf
 . conv => lhs; whnf
 . conv => lhs; whnf; arg 2; whnf
|apply zu rfl
 . conv => lhs; whnf
 . conv => lhs; whnf
 . conv => lhs; whnf
 . first | exact h1 | exact h2 | exact h3
|apply zm rfl
 . conv => lhs; whnf
 . conv => lhs; whnf
 . conv => lhs; whnf; arg 2; whnf
|apply zi rfl
 . conv => lhs; whnf
 . conv => lhs; whnf
 . conv => lhs; whnf
 . first | exact h1 | exact h2 | exact h3
|apply zN
 . conv => lhs; whnf; arg 1; arg 1; whnf
|apply zO
 . conv => lhs; whnf; arg 1; arg 1; whnf
|refine zW (by conv => lhs; whnf) ?_ ?_ <;> intro hb
|refine zn ?_
|refine zb ?_
|refine zH ?_
|refine zL ?_
|refine zG ?_
|refine zD rfl ?_
|refine zF rfl ?_
|refine zE ?_
|refine zJ ?_
|refine zC ?_
|refine zK ?_
|refine z8 ?_
|refine zI ?_
|refine ⟨_,by conv => lhs; whnf; arg 2; whnf,?_⟩; conv => rhs; whnf
|exact trivial
|intro hg)
 all_goals
  clear h1 h2 h3 he
  refine congrArg (fun b => V.c (.bool b)) ?_
  simp_all
  try (intros; omega)
end Go.Proofs.YtdlnnlglmifceaaGreatDoor
namespace Go.Proofs.YtdlnnlglmifceaaGreatDoor
open Go.RowKit
set_option linter.unusedSectionVars false
attribute [local irreducible] wpList Calls Code.wp AW AWo OpOk seqK zAi zAp loopK endK AC zAC Yld Sub
attribute [local irreducible] ACB ACX absLexG YldG
theorem str_is (s : ByteArray) (l : List UInt8) : (s.toList == (⟨l.toArray⟩ : ByteArray).toList) = (s.data.toList == l):=by
 rw [Lib.toList_data,Lib.toList_data]
structure SelB (d : D) (B : Nat) : Prop where
 s1 : (d.f 1).s.size <= B
 s2 : (d.f 2).s.size <= B
 s3 : (d.f 3).s.size <= B
 l4 : bulkL (d.f 4).l <= B
 l5 : bulkL (d.f 5).l <= B
 l6 : bulkL (d.f 6).l < bulkD d
 l6B : bulkL (d.f 6).l <= B
theorem sel_b {d : D} {B : Nat} (h : bulkD d <= B) : SelB d B:=by
 have h0:=zv d
 have q:=fun i => wD_f d i
 have q1:=q 1; have q2:=q 2; have q3:=q 3; have q4:=q 4; have q5:=q 5; have q6:=q 6
 have s1:=zAn (d.f 1); have s2:=zAn (d.f 2); have s3:=zAn (d.f 3)
 have l4:=zAP (d.f 4); have l5:=zAP (d.f 5); have l6:=zAP (d.f 6)
 exact ⟨by omega,by omega,by omega,by omega,by omega,by omega,by omega⟩
theorem zDn (s : ByteArray) : (s.toList == ({ data:=#[] } : ByteArray).toList) = noneS s:=str_is s []
end Go.Proofs.YtdlnnlglmifceaaGreatDoor
