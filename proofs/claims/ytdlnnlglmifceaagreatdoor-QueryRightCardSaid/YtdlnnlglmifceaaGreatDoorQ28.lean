import Derived.Test.YtdlnnlglmifceaaGreatDoorRows
import Derived.Test.YtdlnnlglmifceaaGreatDoorQ27
set_option maxHeartbeats 8000000
set_option maxRecDepth 100000
set_option linter.unusedVariables false
set_option linter.unusedSimpArgs false
namespace Go.Proofs.YtdlnnlglmifceaaGreatDoor
open Go.RowKit
attribute [local irreducible] wpList Calls Code.wp
mutual
def bulkD : D -> Nat
 | .int _ => 1
 | .bool _ => 1
 | .str s => s.size + 1
 | .list l => bulkL l + 1
 | .obj l => bulkL l + 1
def bulkL : List D -> Nat
 | [] => 0
 | d :: r => bulkD d + bulkL r
 end
def Fits (P : Program) : Nat -> TypeId -> D -> Prop
 | 0,_,_ => False
 | k + 1,t,d =>
   match P.underlying t with
   | some .bool => ∃ b,d = .bool b
   | some (.int _) => ∃ n,d = .int n
   | some .string => ∃ s,d = .str s
   | some (.slice e) => ∃ l,d = .list l /\ ∀ i,i < l.length -> Fits P k e (gD l i)
   | some (.struct fs) => ∃ l,d = .obj l /\ l.length = fs.size /\ ∀ j f,fs[j]? = some f -> Fits P k f.type (gD l j)
   | _ => True
theorem Fits.up {P : Program} : ∀ {k : Nat} {t : TypeId} {d : D},Fits P k t d -> Fits P (k + 1) t d
 | 0,_,_,h => h.elim
 | k + 1,t,d,h => by
   unfold Fits at h |-
   split at h
   . exact h
   . exact h
   . exact h
   . obtain ⟨l,h1,h2⟩:=h
     exact ⟨l,h1,fun i hi => Fits.up (h2 i hi)⟩
   . obtain ⟨l,h1,h2,h3⟩:=h
     exact ⟨l,h1,h2,fun j f hf => Fits.up (h3 j f hf)⟩
   . trivial
theorem bulk_pos {H : Type} (d : DataW H) : 1 <= Rows.uptoBulk d:=by
 cases d with
 | lit x => cases x <;> simp [Rows.uptoBulk]
 | _ => simp [Rows.uptoBulk]
theorem zDW {H : Type} : ∀ (l : List D) (xs : List (DataW H × List MemPlace)),l.length = xs.length -> (∀ i (h : i < xs.length),bulkD (gD l i) <= Rows.uptoBulk (xs[i]'h).1) -> bulkL l <= Rows.uptoBulkAll (xs.map (·.1))
 | [],_,_,_ => by simp [bulkL]
 | d :: r,[],h,_ => by simp at h
 | d :: r,x :: xs,h,hb => by
   have h0:=hb 0 (by simp)
   have h1:=zDW r xs (by simpa using h) fun i hi => by
    have:=hb (i + 1) (by simpa using hi)
    simpa [gD] using this
   simp only [List.map_cons,Rows.uptoBulkAll,bulkL]
   have e : gD (d :: r) 0 = d:=rfl
   rw [e] at h0
   have e2 : (((x :: xs)[0]'(by simp)).1) = x.1:=rfl
   rw [e2] at h0
   omega
theorem zCF {P : Program} {w : World} {H : Type} {enc : TypeId × Value -> H} {held : Bool} {sp : Nat -> Bool} : ∀ {k : Nat} {t : TypeId} {cs : List Value} {x : DataW H × List MemPlace},
 DataW.trod enc P w 0 sp held k t cs = some x -> ∃ d,Rep P w (fun b => b < w.heap.size) k t cs d /\ Fits P k t d /\ bulkD d <= Rows.uptoBulk x.1
 | 0,t,cs,x,h => by simp [DataW.trod] at h
 | k + 1,t,cs,x,h => by
   have hpos:=bulk_pos x.1
   cases hu : P.underlying t with
   | none => exact ⟨default,by unfold Rep; rw [hu]; trivial,by unfold Fits; rw [hu]; trivial,by show bulkD (.obj []) <= _; simpa [bulkD,bulkL] using hpos⟩
   | some ty =>
     cases ty
     case bool =>
      obtain ⟨b,rfl,_⟩:=DataW.trod_bool hu h
      exact ⟨.bool b,.mk_bool hu,by unfold Fits; rw [hu]; exact ⟨b,rfl⟩,by simpa [bulkD] using hpos⟩
     case int q =>
      obtain ⟨n,rfl,_,hw⟩:=DataW.trod_int hu h
      exact ⟨.int n,.mk_int hu hw,by unfold Fits; rw [hu]; exact ⟨n,rfl⟩,by simpa [bulkD] using hpos⟩
     case string =>
      obtain ⟨s,rfl,hx,hs⟩:=DataW.trod_string hu h
      refine ⟨.str s,.mk_str hu hs,by unfold Fits; rw [hu]; exact ⟨s,rfl⟩,?_⟩
      rw [hx]
      simp [bulkD,Rows.uptoBulk]
     case slice e =>
      rcases DataW.trod_slice hu h with ⟨rfl,_⟩ | ⟨a,len,cap,elems,rest,n,hk,rfl,hx,_,hle,hcm,hlen,hel,_⟩
      . exact ⟨.list [],.mk_slice hu rfl (by simp) (by simp [maxLen]) (fun _ => rfl) (Sl.nil _ _ _),by unfold Fits; rw [hu]; exact ⟨[],rfl,fun i hi => by simp at hi⟩,by simpa [bulkD,bulkL] using hpos⟩
      . obtain rfl : n = k:=by omega
        have hx2 : ∀ i,i < len -> ∃ d,(∃ ys,w.cells? 0 (a.add (i * P.cellsOf e)) (P.cellsOf e) = some ys /\ Rep P w (fun b => b < w.heap.size) n e ys d) /\ Fits P n e d /\ ∀ h : i < elems.length,bulkD d <= Rows.uptoBulk (elems[i]'h).1:=fun i hi => by
         have h1:=hel i hi
         rw [List.getElem?_eq_getElem (by omega)] at h1
         obtain ⟨ys,y1,y2⟩:=Option.bind_eq_some_iff.1 h1
         obtain ⟨d,hd,hd2,hd3⟩:=zCF y2
         exact ⟨d,⟨ys,y1,hd⟩,hd2,fun _ => hd3⟩
        obtain ⟨l,hll,hl⟩:=zET hx2
        refine ⟨.list l,.mk_slice hu hll.symm (by omega) hcm (fun h => by cases h) ?_,by unfold Fits; rw [hu]; exact ⟨l,rfl,fun i hi => (hl i (by omega)).2.1⟩,?_⟩
        . intro h0 hc
          obtain ⟨b,off,spot⟩:=a
          obtain ⟨⟨ys,y1,_⟩,_⟩:=hl 0 (by omega)
          obtain ⟨_,y3,y4⟩:=World.cells?_some y1
          have y5:=y4 0 hc
          rw [List.getElem?_eq_getElem (by omega)] at y5
          have hspot : spot = none:=by simpa [Addr.add] using World.cell?_spot y5
          subst hspot
          have hbl : b < w.heap.size:=by simpa [Addr.add] using block_lt_of_cell y5
          refine ⟨b,off,rfl,hbl,fun i hi => ?_⟩
          obtain ⟨⟨ys,y1,y2⟩,_⟩:=hl i (by omega)
          obtain ⟨_,y3,y4⟩:=World.cells?_some y1
          refine ⟨ys,y3,fun j u hu => ?_,y2⟩
          have hj : j < P.cellsOf e:=by have:=(List.getElem?_eq_some_iff.1 hu).1; omega
          have:=y4 j hj
          rw [Go.WideShapes.add_plain,Go.WideShapes.add_plain,hu] at this
          exact this
        . have:=zDW l elems (by omega) fun i hi => (hl i (by omega)).2.2 hi
          rw [hx]
          simp only [bulkD,Rows.uptoBulk]
          omega
     case struct fs =>
      obtain ⟨xs,n,hk,hx,hcs,hxs,hf⟩:=DataW.trod_struct hu h
      obtain rfl : n = k:=by omega
      have hx2 : ∀ j,j < fs.size -> ∃ d,(∀ f,fs[j]? = some f -> Rep P w (fun b => b < w.heap.size) n f.type ((cs.drop f.offset).take (P.cellsOf f.type)) d /\ Fits P n f.type d) /\ ∀ h : j < xs.length,bulkD d <= Rows.uptoBulk (xs[j]'h).1:=fun j hj => by
       have h1:=hf j fs[j] (Array.getElem?_eq_getElem hj)
       rw [List.getElem?_eq_getElem (by omega)] at h1
       obtain ⟨d,hd,hd2,hd3⟩:=zCF h1
       refine ⟨d,fun f hf => ?_,fun _ => hd3⟩
       rw [Array.getElem?_eq_getElem hj] at hf
       cases hf; exact ⟨hd,hd2⟩
      obtain ⟨l,hll,hl⟩:=zET hx2
      refine ⟨.obj l,.mk_struct hu hcs fun j f hjf => ((hl j (Array.getElem?_eq_some_iff.1 hjf).1).1 f hjf).1,by unfold Fits; rw [hu]; exact ⟨l,rfl,hll,fun j f hjf => ((hl j (Array.getElem?_eq_some_iff.1 hjf).1).1 f hjf).2⟩,?_⟩
      have:=zDW l xs (by omega) fun i hi => (hl i (by omega)).2 hi
      rw [hx]
      simp only [bulkD,Rows.uptoBulk]
      omega
     all_goals exact ⟨default,by unfold Rep; rw [hu]; trivial,by unfold Fits; rw [hu]; trivial,by show bulkD (.obj []) <= _; simpa [bulkD,bulkL] using hpos⟩
end Go.Proofs.YtdlnnlglmifceaaGreatDoor
namespace Go.Proofs.YtdlnnlglmifceaaGreatDoor
def commaT : List UInt8:=[44,32]
def i64D (n : Int) : Prop:=-9223372036854775808 <= n /\ n <= 9223372036854775807
def Dp : Nat -> D -> Prop
 | 0,_ => False
 | k + 1,d => ∀ i,i < (d.f 3).l.length -> Dp k (gD (d.f 3).l i)
mutual
def wideD : D -> Prop
 | .int n => i64D n
 | .bool _ => True
 | .str _ => True
 | .list l => zFu l
 | .obj l => zFu l
def zFu : List D -> Prop
 | [] => True
 | d :: r => wideD d /\ zFu r
end
theorem zDv : ∀ {l : List D},zFu l -> ∀ i,wideD (gD l i)
 | [],_,i => by show wideD (.obj []); simp [wideD,zFu]
 | d :: r,h,i => by
   rw [zFu] at h
   cases i with
   | zero => exact h.1
   | succ i => exact zDv h.2 i
theorem wideD.f {d : D} (h : wideD d) (i : Nat) : wideD (d.f i):=by
 cases d with
 | obj l => rw [wideD] at h; exact zDv h i
 | _ => show wideD (.obj []); simp [wideD,zFu]
theorem wideD.l {d : D} (h : wideD d) (i : Nat) : wideD (gD d.l i):=by
 cases d with
 | list l => rw [wideD] at h; exact zDv h i
 | _ => show wideD (.obj []); simp [wideD,zFu]
theorem wideD.n {d : D} (h : wideD d) : i64D d.n:=by
 cases d with
 | int n => rw [wideD] at h; exact h
 | _ => show i64D 0; unfold i64D; omega
def sumN (f : Nat -> Nat) : Nat -> Nat
 | 0 => 0
 | n + 1 => sumN f n + f n
theorem zFQ {f g : Nat -> Nat} : ∀ {n : Nat},(∀ i,i < n -> f i <= g i) -> sumN f n <= sumN g n
 | 0,_ => Nat.le_refl _
 | n + 1,h => by
   have:=zFQ (n:=n) fun i hi => h i (by omega)
   have:=h n (by omega)
   simp only [sumN]; omega
theorem zDl (c : Nat) (f : Nat -> Nat) : ∀ n,sumN (fun i => c * f i) n = c * sumN f n
 | 0 => by simp [sumN]
 | n + 1 => by simp only [sumN,zDl c f n,Nat.mul_add]
theorem zHZ (f g : Nat -> Nat) : ∀ n,sumN (fun i => f i + g i) n = sumN f n + sumN g n
 | 0 => rfl
 | n + 1 => by simp only [sumN,zHZ f g n]; omega
theorem zCt (f : Nat -> Nat) {n m : Nat} (h : n <= m) : sumN f n <= sumN f m:=by
 induction m with
 | zero => have : n = 0:=by omega
           subst this; exact Nat.le_refl _
 | succ m ih =>
   rcases Nat.lt_or_ge n (m + 1) with h' | h'
   . have:=ih (by omega); simp only [sumN]; omega
   . have : n = m + 1:=by omega
     subst this; exact Nat.le_refl _
theorem zFz (f : Nat -> Nat) : ∀ n,sumN f (n + 1) = f 0 + sumN (fun i => f (i + 1)) n
 | 0 => by simp [sumN]
 | n + 1 => by rw [sumN,zFz f n,sumN]; omega
def wD (d : D) : Nat:=bulkD d - 1
theorem zBc (d : D) : 1 <= bulkD d:=by cases d <;> simp [bulkD]
theorem zBQ (d : D) : bulkD d = wD d + 1:=by unfold wD; have:=zBc d; omega
theorem zDx (d : D) : d.s.size <= wD d:=by
 cases d with
 | str s => simp [wD,bulkD,D.s]
 | _ => exact Nat.zero_le _
theorem zDE (d : D) : bulkL d.l <= wD d:=by cases d <;> simp [wD,bulkD,D.l,bulkL]
theorem zCN : ∀ (l : List D),bulkL l = sumN (fun i => bulkD (gD l i)) l.length
 | [] => rfl
 | d :: r => by
   rw [bulkL,zCN r,List.length_cons,zFz]; rfl
theorem bulkL_out (l : List D) : ∀ n,sumN (fun i => wD (gD l i)) n <= bulkL l:=by
 intro n
 have hout : ∀ i,l.length <= i -> wD (gD l i) = 0:=fun i hi => by
  unfold gD
  rw [List.getD_eq_getElem?_getD,List.getElem?_eq_none hi]; rfl
 have hin : ∀ m,m <= l.length -> sumN (fun i => wD (gD l i)) m <= bulkL l:=fun m hm => by
  rw [zCN]
  refine Nat.le_trans (zCt _ hm) (zFQ fun i hi => ?_)
  have:=zBQ (gD l i); omega
 rcases Nat.le_total n l.length with h | h
 . exact hin n h
 . obtain ⟨m,rfl⟩:=Nat.exists_eq_add_of_le h
   clear h
   induction m with
   | zero => exact hin _ (Nat.le_refl _)
   | succ m ih =>
     rw [<- Nat.add_assoc,sumN,hout (l.length + m) (by omega)]
     omega
theorem zFw (d : D) (n : Nat) : sumN (fun i => wD (d.f i)) n <= wD d:=by
 cases d with
 | obj l => exact bulkL_out l n
 | _ =>
   refine Nat.le_trans (zFQ (g:=fun _ => 0) fun i _ => ?_) (Nat.le_trans (Nat.le_of_eq ?_) (Nat.zero_le _))
   . show wD (.obj []) <= 0
     simp [wD,bulkD,bulkL]
   . induction n with
     | zero => rfl
     | succ n ih => simp only [sumN,ih]
theorem wD_f (d : D) (i : Nat) : wD (d.f i) <= wD d:=by
 have:=zFw d (i + 1)
 simp only [sumN] at this; omega
theorem zA9 {l : List D} {i : Nat} (h : i < l.length) : bulkD (gD l i) <= bulkL l:=by
 rw [zCN]
 have:=zCt (fun i => bulkD (gD l i)) (show i + 1 <= l.length by omega)
 simp only [sumN] at this; omega
theorem bulk_item {d : D} {j i : Nat} (h : i < (d.f j).l.length) : bulkD (gD (d.f j).l i) <= wD d:=by
 have h1:=zA9 h
 have h2:=zDE (d.f j)
 have h3:=wD_f d j
 omega
theorem zDS : ∀ (k : Nat) (d : D),bulkD d <= k -> Dp k d
 | 0,d,h => by have:=zBc d; omega
 | k + 1,d,h => fun i hi => zDS k _ (by have:=bulk_item hi; have:=zBQ d; omega)
def valT : Nat -> D -> List UInt8
 | 0,_ => []
 | k + 1,d =>
   if (d.f 0).n = 1 then (if (d.f 1).n = 1 then [116,114,117,101] else [102,97,108,115,101])
   else if (d.f 0).n = 2 then Lib.itoa (d.f 1).n
   else if (d.f 0).n = 3 then quoteU (tx (d.f 2).s)
   else if (d.f 0).n = 4 then tx (d.f 2).s
   else if (d.f 0).n = 7 then [36] ++ tx (d.f 2).s
   else if (d.f 0).n = 5 then [91] ++ Lib.join ((List.range (d.f 3).l.length).map fun i => valT k (gD (d.f 3).l i)) commaT ++ [93]
   else if (d.f 0).n = 6 then [123] ++ Lib.join ((List.range (min (d.f 4).l.length (d.f 3).l.length)).map fun i => tx (gD (d.f 4).l i).s ++ [58,32] ++ valT k (gD (d.f 3).l i)) commaT ++ [125]
   else [110,117,108,108]
theorem join_le (sep : List UInt8) : ∀ (ls : List (List UInt8)),(Lib.join ls sep).length <= (ls.map fun l => l.length + sep.length).sum:=by
 have tail : ∀ (ls : List (List UInt8)),(Lib.joinTail sep ls).length = (ls.map fun l => l.length + sep.length).sum:=fun ls => by
  induction ls with
  | nil => rfl
  | cons l r ih =>
    unfold Lib.joinTail at ih |-
    simp only [List.map_cons,List.flatten_cons,List.length_append,List.sum_cons,ih]
    omega
 intro ls
 cases ls with
 | nil => simp [Lib.join_nil]
 | cons x r =>
   rw [Lib.join_cons,List.length_append,tail]
   simp only [List.map_cons,List.sum_cons]
   omega
theorem zGE (f : Nat -> Nat) : ∀ n,((List.range n).map f).sum = sumN f n
 | 0 => rfl
 | n + 1 => by simp [List.range_succ,zGE f n,sumN]
theorem zC1 (n : Nat) (f : Nat -> List UInt8) (sep : List UInt8) (b : Nat -> Nat) (h : ∀ i,i < n -> (f i).length + sep.length <= b i) : (Lib.join ((List.range n).map f) sep).length <= sumN b n:=by
 refine Nat.le_trans (join_le _ _) ?_
 rw [List.map_map,zGE]
 exact zFQ h
theorem quote_len (l : List UInt8) : (quoteU l).length <= 6 * l.length + 2:=by
 have:=zHF l
 simp only [quoteU,List.length_append,List.length_cons,List.length_nil]; omega
theorem zFN : ∀ (k : Nat) (d : D),wideD d -> (valT k d).length + 2 <= 24 * bulkD d
 | 0,d,_ => by have:=zBc d; simp [valT]; omega
 | k + 1,d,hw => by
   have h1:=(hw.f 1).n
   have hd:=zBQ d
   have hf:=zFw d 5
   simp only [sumN] at hf
   have h2:=zDx (d.f 2)
   have h3:=zDE (d.f 3)
   have h4:=zDE (d.f 4)
   have t2:=tx_len (d.f 2).s
   unfold valT
   split
   . split <;> simp <;> omega
   split
   . have:=itoa_size _ h1.1 h1.2; omega
   split
   . have:=quote_len (tx (d.f 2).s); omega
   split
   . omega
   split
   . simp only [List.length_append,List.length_cons,List.length_nil]; omega
   split
   . have:=zC1 (d.f 3).l.length (fun i => valT k (gD (d.f 3).l i)) commaT (fun i => 24 * bulkD (gD (d.f 3).l i)) fun i hi => zFN k _ ((hw.f 3).l i)
     rw [zDl,<- zCN] at this
     simp only [List.length_append,List.length_cons,List.length_nil]; omega
   split
   . have:=zC1 (min (d.f 4).l.length (d.f 3).l.length) (fun i => tx (gD (d.f 4).l i).s ++ [58,32] ++ valT k (gD (d.f 3).l i)) commaT (fun i => 24 * bulkD (gD (d.f 4).l i) + 24 * bulkD (gD (d.f 3).l i)) fun i hi => by
      have a:=zFN k (gD (d.f 3).l i) ((hw.f 3).l i)
      have b:=zDx (gD (d.f 4).l i)
      have c:=zBQ (gD (d.f 4).l i)
      have e:=tx_len (gD (d.f 4).l i).s
      have e' : commaT.length = 2:=rfl
      simp only [List.length_append,List.length_cons,List.length_nil]
      omega
     rw [zHZ,zDl,zDl] at this
     have a1:=zCt (fun i => bulkD (gD (d.f 4).l i)) (show min (d.f 4).l.length (d.f 3).l.length <= (d.f 4).l.length by omega)
     have a2:=zCt (fun i => bulkD (gD (d.f 3).l i)) (show min (d.f 4).l.length (d.f 3).l.length <= (d.f 3).l.length by omega)
     rw [<- zCN] at a1 a2
     simp only [List.length_append,List.length_cons,List.length_nil]; omega
   . simp; omega
def maxN (f : Nat -> Nat) : Nat -> Nat
 | 0 => 0
 | n + 1 => max (maxN f n) (f n)
def sizeR : Nat -> D -> Nat
 | 0,_ => 1
 | k + 1,d => 1 + sumN (fun i => sizeR k (gD (d.f 3).l i)) (d.f 3).l.length
def depthR : Nat -> D -> Nat
 | 0,_ => 1
 | k + 1,d => maxN (fun i => depthR k (gD (d.f 3).l i)) (d.f 3).l.length + 1
def strsR (d : D) : List (List UInt8):=(d.f 4).l.map fun x => x.s.data.toList
def enumR (s : ByteArray) : Bool:=nameB s && !(s.data.toList == [116,114,117,101]) && !(s.data.toList == [102,97,108,115,101]) && !(s.data.toList == [110,117,108,108])
def nodeK (n i : Int) (t : Bool) (a b : Nat) (x v ks y : Bool) : Bool:=
 (n == 1 || n == 2 || i == 0) && (n == 3 || n == 4 || n == 7 || t) && (n == 6 || a == 0) && (n == 6 || n == 5 || b == 0) && decide (0 <= n /\ n <= 7) && (!(n == 1) || i == 0 || i == 1) && (!(n == 4) || x) && (!(n == 7) || v) && (!(n == 6) || (ks && a == b && y))
def nodeL (d : D) : Bool:=
 nodeK (d.f 0).n (d.f 1).n ((d.f 2).s.data.toList == []) (d.f 4).l.length (d.f 3).l.length (enumR (d.f 2).s) (nameB (d.f 2).s) (!((d.f 4).l.any fun x => !nameB x.s)) (decide (strsR d).Nodup)
def everyL : Nat -> D -> Bool
 | 0,_ => false
 | k + 1,d => nodeL d && !((d.f 3).l.any fun x => !everyL k x)
def litR (d : D) : Bool:=decide (sizeR (bulkD d) d <= 4096) && decide (depthR (bulkD d) d <= 24) && everyL (bulkD d) d
def bareR : Nat -> D -> Bool
 | 0,_ => false
 | k + 1,d => !((d.f 0).n == 7) && !((d.f 3).l.any fun x => !bareR k x)
def argR (d : D) : Bool:=nameB (d.f 0).s && litR (d.f 1)
def argsR (l : List D) : Bool:=decide (l.length <= 16) && !(l.any fun x => !argR x)
def dirR (d : D) : Bool:=nameB (d.f 0).s && argsR (d.f 1).l
def dirsR (l : List D) : Bool:=decide (l.length <= 16) && !(l.any fun x => !dirR x)
def titleR (s : ByteArray) : Bool:=nameB s && !(s.data.toList == [111,110])
def noneS (s : ByteArray) : Bool:=s.data.toList == []
def selsR (sel : D -> Bool) (l : List D) (least lv : Nat) : Bool:=decide (least <= l.length) && decide (l.length <= 64) && (decide (l.length = 0) || decide (lv <= 24)) && !(l.any fun x => !sel x)
def selR : Nat -> Nat -> D -> Bool
 | 0,_,_ => false
 | k + 1,lv,d => argsR (d.f 4).l && dirsR (d.f 5).l &&
   (if (d.f 0).n = 1 then noneS (d.f 3).s && nameB (d.f 2).s && (noneS (d.f 1).s || nameB (d.f 1).s) && selsR (selR k (lv + 1)) (d.f 6).l 0 (lv + 1)
   else if (d.f 0).n = 2 then noneS (d.f 3).s && noneS (d.f 1).s && decide ((d.f 4).l.length = 0) && decide ((d.f 6).l.length = 0) && titleR (d.f 2).s
   else if (d.f 0).n = 3 then noneS (d.f 1).s && noneS (d.f 2).s && decide ((d.f 4).l.length = 0) && (noneS (d.f 3).s || nameB (d.f 3).s) && selsR (selR k (lv + 1)) (d.f 6).l 1 (lv + 1)
   else false)
def zDX : List Int -> Bool
 | [] => true
 | [w] => w == 1 || w == 2
 | w :: v :: r => (w == 1 || w == 2) && !(w == 1 && v == 1) && zDX (v :: r)
def refR (d : D) : Bool:=nameB (d.f 0).s && decide ((d.f 1).l.length <= 24) && zDX ((d.f 1).l.map D.n)
end Go.Proofs.YtdlnnlglmifceaaGreatDoor
namespace Go.Proofs.YtdlnnlglmifceaaGreatDoor
open Go.RowKit
set_option linter.unusedSectionVars false
attribute [local irreducible] wpList Calls Code.wp AW AWo OpOk seqK zAP zAR loopK endK AC zy Yld Sub
attribute [local irreducible] ACB ACX ACE absLexG YldG
def idxF (l : List D) (p : D -> Bool) : Int:=match l.findIdx? p with | some i => (i : Int) | none => -1
theorem zCJ {l : List D} {p : D -> Bool} {i : Nat} (hi : i < l.length) (h : ∀ m,m < i -> p (gD l m) = false) (he : p (gD l i) = true) : idxF l p = i:=by
 unfold idxF
 have : l.findIdx? p = some i:=by
  rw [List.findIdx?_eq_some_iff_getElem]
  exact ⟨hi,by rw [<- zBr hi]; exact he,fun j hj => by rw [<- zBr (by omega),h j hj]; decide⟩
 rw [this]
theorem zCI {l : List D} {p : D -> Bool} (h : ∀ m,m < l.length -> p (gD l m) = false) : idxF l p = -1:=by
 unfold idxF
 have : l.findIdx? p = none:=by
  rw [List.findIdx?_eq_none_iff]
  intro x hx
  obtain ⟨i,hi,e⟩:=List.getElem_of_mem hx
  rw [<- e,<- zBr hi]; exact h i hi
 rw [this]
theorem zBl (l : List D) (p : D -> Bool) : decide (idxF l p >= 0) = l.any p:=by
 unfold idxF
 cases h : l.findIdx? p with
 | none =>
   rw [List.findIdx?_eq_none_iff] at h
   have : l.any p = false:=by rw [List.any_eq_false]; intro x hx; rw [h x hx]; decide
   rw [this]; rfl
 | some i =>
   rw [List.findIdx?_eq_some_iff_getElem] at h
   obtain ⟨hi,he,_⟩:=h
   have : l.any p = true:=List.any_eq_true.2 ⟨_,List.getElem_mem hi,he⟩
   rw [this]
   exact decide_eq_true (Int.natCast_nonneg i)
noncomputable def HiVar (l : List D) (i : Nat) : Vst 19:=stS 19 [(0,.sl 64 l),(1,.c (.func (.func 20) #[] #[])),(7,.c (.int .i64 (l.length : Nat))),(8,.c (.int .i64 (i : Int)))] []
theorem zG6 (l : List D) (p : D -> Bool) (hn : l.length <= 9223372036854775807) (hc : ∀ i,i < l.length -> AC EN5 Tryz.prog 20 [.agg (cellsV Tryz.prog 12 64 (gD l i))] (.c (.bool (p (gD l i))))) : AC EN5 Tryz.prog 44 [.sl 64 l,.c (.func (.func 20) #[] #[])] (.c (.int .i64 (idxF l p))):=by
 refine zX 19 Tryz.func44 rfl rfl rfl rfl ?_
 intro s w he
 repeat' (first
|refine zA ?_
|refine zI ?_
|refine zb ?_
|refine zU ?_
|refine za ?_
|apply aw_1
 conv => whnf
 refine ⟨?_,trivial⟩
|apply s_1
 conv => whnf; arg 1; arg 4; arg 3; whnf
 refine ⟨?_,?_⟩
|apply zt rfl
 . conv => lhs; whnf
 . conv => lhs; whnf; arg 2; whnf
|apply zd rfl
 . conv => lhs; whnf
 . conv => lhs; whnf
 . first | fail
|apply zN
 . conv => lhs; whnf; arg 1; arg 1; whnf
|apply zO
 . conv => lhs; whnf; arg 1; arg 1; whnf
|refine zT (by conv => lhs; whnf) ?_ ?_ <;> intro hb
|refine zj ?_
|refine zZ ?_
|refine zG ?_
|refine zK ?_
|refine zC ?_
|refine zB rfl ?_
|refine zE rfl ?_
|refine zF ?_
|refine zJ ?_
|refine zD ?_
|refine zL ?_
|refine z6 ?_
|refine zH ?_
|refine ⟨_,by conv => lhs; whnf; arg 2; whnf,?_⟩; conv => rhs; whnf
|exact trivial
|intro hg)
 refine z7 (fun j st => ∃ i,i + j = l.length /\ (∀ m,m < i -> p (gD l m) = false) /\ Sub (cx EN5 Tryz.prog s w he) st (HiVar l i)) l.length ⟨0,by omega,fun m hm => absurd hm (Nat.not_lt_zero m),Sub.live ⟨rfl,rfl,rfl,rfl,trivial⟩ trivial⟩ ?_
 rintro j st ⟨i,hij,hno,hs2⟩
 refine z8 hs2 ?_
 clear hs2
 by_cases hi : i < l.length
 . have f0 : decide ((i : Int) < (l.length : Nat)) = true:=decide_eq_true (by omega)
   have hc2:=hc i hi
   repeat' (first
|apply zW
 . conv => lhs; whnf
 . assumption
|apply zS
 . conv => lhs; whnf
 . assumption
|refine zi ?_
|refine zf ?_
|refine zAH ?_
|refine zA ?_
|refine zI ?_
|refine zb ?_
|refine zU ?_
|refine za ?_
|apply aw_1
 conv => whnf
 refine ⟨?_,trivial⟩
|apply s_1
 conv => whnf; arg 1; arg 4; arg 3; whnf
 refine ⟨?_,?_⟩
|apply zt rfl
 . conv => lhs; whnf
 . conv => lhs; whnf; arg 2; whnf
|apply zd rfl
 . conv => lhs; whnf
 . conv => lhs; whnf
 . first | exact hc2
|apply zN
 . conv => lhs; whnf; arg 1; arg 1; whnf
|apply zO
 . conv => lhs; whnf; arg 1; arg 1; whnf
|refine zT (by conv => lhs; whnf) ?_ ?_ <;> intro hb
|refine zj ?_
|refine zZ ?_
|refine zG ?_
|refine zK ?_
|refine zC ?_
|refine zB rfl ?_
|refine zE rfl ?_
|refine zF ?_
|refine zJ ?_
|refine zD ?_
|refine zL ?_
|refine z6 ?_
|refine zH ?_
|refine ⟨_,by conv => lhs; whnf; arg 2; whnf,?_⟩; conv => rhs; whnf
|exact trivial
|intro hg)
   . show V.c _ = V.c _
     rw [zCJ hi hno hb]
   . refine zh (j':=j - 1) (by omega) ⟨i + 1,by omega,fun m hm => ?_,Sub.live ⟨rfl,rfl,rfl,rfl,trivial⟩ trivial⟩
     by_cases e : m = i
     . subst e; exact hb
     . exact hno m (by omega)
   all_goals first
    | exact zo (by omega)
    | exact ⟨by omega,by omega⟩
 . have f0 : decide ((i : Int) < (l.length : Nat)) = false:=decide_eq_false (by omega)
   repeat' (first
|apply zW
 . conv => lhs; whnf
 . assumption
|apply zS
 . conv => lhs; whnf
 . assumption
|refine zi ?_
|refine zf ?_
|refine zAH ?_
|refine zA ?_
|refine zI ?_
|refine zb ?_
|refine zU ?_
|refine za ?_
|apply aw_1
 conv => whnf
 refine ⟨?_,trivial⟩
|apply s_1
 conv => whnf; arg 1; arg 4; arg 3; whnf
 refine ⟨?_,?_⟩
|apply zt rfl
 . conv => lhs; whnf
 . conv => lhs; whnf; arg 2; whnf
|apply zd rfl
 . conv => lhs; whnf
 . conv => lhs; whnf
 . first | fail
|apply zN
 . conv => lhs; whnf; arg 1; arg 1; whnf
|apply zO
 . conv => lhs; whnf; arg 1; arg 1; whnf
|refine zT (by conv => lhs; whnf) ?_ ?_ <;> intro hb
|refine zj ?_
|refine zZ ?_
|refine zG ?_
|refine zK ?_
|refine zC ?_
|refine zB rfl ?_
|refine zE rfl ?_
|refine zF ?_
|refine zJ ?_
|refine zD ?_
|refine zL ?_
|refine z6 ?_
|refine zH ?_
|refine ⟨_,by conv => lhs; whnf; arg 2; whnf,?_⟩; conv => rhs; whnf
|exact trivial
|intro hg)
   show V.c _ = V.c _
   rw [zCI fun m hm => hno m (by omega)]
theorem zEg (l : List D) (p : D -> Bool) (hn : l.length <= 9223372036854775807) (hc : ∀ i,i < l.length -> AC EN5 Tryz.prog 20 [.agg (cellsV Tryz.prog 12 64 (gD l i))] (.c (.bool (p (gD l i))))) : AC EN5 Tryz.prog 19 [.sl 64 l,.c (.func (.func 20) #[] #[])] (.c (.bool (l.any p))):=by
 have h1:=zG6 l p hn hc
 rw [<- zBl]
 refine zX 9 Tryz.func19 rfl rfl rfl rfl ?_
 intro s w he
 repeat' (first
|refine zA ?_
|refine zI ?_
|refine zb ?_
|refine zU ?_
|refine za ?_
|apply aw_1
 conv => whnf
 refine ⟨?_,trivial⟩
|apply s_1
 conv => whnf; arg 1; arg 4; arg 3; whnf
 refine ⟨?_,?_⟩
|apply zt rfl
 . conv => lhs; whnf
 . conv => lhs; whnf; arg 2; whnf
|apply zd rfl
 . conv => lhs; whnf
 . conv => lhs; whnf
 . first | exact h1
|apply zN
 . conv => lhs; whnf; arg 1; arg 1; whnf
|apply zO
 . conv => lhs; whnf; arg 1; arg 1; whnf
|refine zT (by conv => lhs; whnf) ?_ ?_ <;> intro hb
|refine zj ?_
|refine zZ ?_
|refine zG ?_
|refine zK ?_
|refine zC ?_
|refine zB rfl ?_
|refine zE rfl ?_
|refine zF ?_
|refine zJ ?_
|refine zD ?_
|refine zL ?_
|refine z6 ?_
|refine zH ?_
|refine ⟨_,by conv => lhs; whnf; arg 2; whnf,?_⟩; conv => rhs; whnf
|exact trivial
|intro hg)
noncomputable def HiFrag (l : List D) (i : Nat) : Vst 19:=stS 19 [(0,.sl 50 l),(1,.c (.func (.func 24) #[] #[])),(7,.c (.int .i64 (l.length : Nat))),(8,.c (.int .i64 (i : Int)))] []
theorem zGU (l : List D) (p : D -> Bool) (hn : l.length <= 9223372036854775807) (hc : ∀ i,i < l.length -> AC EN5 Tryz.prog 24 [.agg (cellsV Tryz.prog 12 50 (gD l i))] (.c (.bool (p (gD l i))))) : AC EN5 Tryz.prog 52 [.sl 50 l,.c (.func (.func 24) #[] #[])] (.c (.int .i64 (idxF l p))):=by
 refine zX 19 Tryz.func52 rfl rfl rfl rfl ?_
 intro s w he
 repeat' (first
|refine zA ?_
|refine zI ?_
|refine zb ?_
|refine zU ?_
|refine za ?_
|apply aw_1
 conv => whnf
 refine ⟨?_,trivial⟩
|apply s_1
 conv => whnf; arg 1; arg 4; arg 3; whnf
 refine ⟨?_,?_⟩
|apply zt rfl
 . conv => lhs; whnf
 . conv => lhs; whnf; arg 2; whnf
|apply zd rfl
 . conv => lhs; whnf
 . conv => lhs; whnf
 . first | fail
|apply zN
 . conv => lhs; whnf; arg 1; arg 1; whnf
|apply zO
 . conv => lhs; whnf; arg 1; arg 1; whnf
|refine zT (by conv => lhs; whnf) ?_ ?_ <;> intro hb
|refine zj ?_
|refine zZ ?_
|refine zG ?_
|refine zK ?_
|refine zC ?_
|refine zB rfl ?_
|refine zE rfl ?_
|refine zF ?_
|refine zJ ?_
|refine zD ?_
|refine zL ?_
|refine z6 ?_
|refine zH ?_
|refine ⟨_,by conv => lhs; whnf; arg 2; whnf,?_⟩; conv => rhs; whnf
|exact trivial
|intro hg)
 refine z7 (fun j st => ∃ i,i + j = l.length /\ (∀ m,m < i -> p (gD l m) = false) /\ Sub (cx EN5 Tryz.prog s w he) st (HiFrag l i)) l.length ⟨0,by omega,fun m hm => absurd hm (Nat.not_lt_zero m),Sub.live ⟨rfl,rfl,rfl,rfl,trivial⟩ trivial⟩ ?_
 rintro j st ⟨i,hij,hno,hs2⟩
 refine z8 hs2 ?_
 clear hs2
 by_cases hi : i < l.length
 . have f0 : decide ((i : Int) < (l.length : Nat)) = true:=decide_eq_true (by omega)
   have hc2:=hc i hi
   repeat' (first
|apply zW
 . conv => lhs; whnf
 . assumption
|apply zS
 . conv => lhs; whnf
 . assumption
|refine zi ?_
|refine zf ?_
|refine zAH ?_
|refine zA ?_
|refine zI ?_
|refine zb ?_
|refine zU ?_
|refine za ?_
|apply aw_1
 conv => whnf
 refine ⟨?_,trivial⟩
|apply s_1
 conv => whnf; arg 1; arg 4; arg 3; whnf
 refine ⟨?_,?_⟩
|apply zt rfl
 . conv => lhs; whnf
 . conv => lhs; whnf; arg 2; whnf
|apply zd rfl
 . conv => lhs; whnf
 . conv => lhs; whnf
 . first | exact hc2
|apply zN
 . conv => lhs; whnf; arg 1; arg 1; whnf
|apply zO
 . conv => lhs; whnf; arg 1; arg 1; whnf
|refine zT (by conv => lhs; whnf) ?_ ?_ <;> intro hb
|refine zj ?_
|refine zZ ?_
|refine zG ?_
|refine zK ?_
|refine zC ?_
|refine zB rfl ?_
|refine zE rfl ?_
|refine zF ?_
|refine zJ ?_
|refine zD ?_
|refine zL ?_
|refine z6 ?_
|refine zH ?_
|refine ⟨_,by conv => lhs; whnf; arg 2; whnf,?_⟩; conv => rhs; whnf
|exact trivial
|intro hg)
   . show V.c _ = V.c _
     rw [zCJ hi hno hb]
   . refine zh (j':=j - 1) (by omega) ⟨i + 1,by omega,fun m hm => ?_,Sub.live ⟨rfl,rfl,rfl,rfl,trivial⟩ trivial⟩
     by_cases e : m = i
     . subst e; exact hb
     . exact hno m (by omega)
   all_goals first
    | exact zo (by omega)
    | exact ⟨by omega,by omega⟩
 . have f0 : decide ((i : Int) < (l.length : Nat)) = false:=decide_eq_false (by omega)
   repeat' (first
|apply zW
 . conv => lhs; whnf
 . assumption
|apply zS
 . conv => lhs; whnf
 . assumption
|refine zi ?_
|refine zf ?_
|refine zAH ?_
|refine zA ?_
|refine zI ?_
|refine zb ?_
|refine zU ?_
|refine za ?_
|apply aw_1
 conv => whnf
 refine ⟨?_,trivial⟩
|apply s_1
 conv => whnf; arg 1; arg 4; arg 3; whnf
 refine ⟨?_,?_⟩
|apply zt rfl
 . conv => lhs; whnf
 . conv => lhs; whnf; arg 2; whnf
|apply zd rfl
 . conv => lhs; whnf
 . conv => lhs; whnf
 . first | fail
|apply zN
 . conv => lhs; whnf; arg 1; arg 1; whnf
|apply zO
 . conv => lhs; whnf; arg 1; arg 1; whnf
|refine zT (by conv => lhs; whnf) ?_ ?_ <;> intro hb
|refine zj ?_
|refine zZ ?_
|refine zG ?_
|refine zK ?_
|refine zC ?_
|refine zB rfl ?_
|refine zE rfl ?_
|refine zF ?_
|refine zJ ?_
|refine zD ?_
|refine zL ?_
|refine z6 ?_
|refine zH ?_
|refine ⟨_,by conv => lhs; whnf; arg 2; whnf,?_⟩; conv => rhs; whnf
|exact trivial
|intro hg)
   show V.c _ = V.c _
   rw [zCI fun m hm => hno m (by omega)]
theorem zEQ (l : List D) (p : D -> Bool) (hn : l.length <= 9223372036854775807) (hc : ∀ i,i < l.length -> AC EN5 Tryz.prog 24 [.agg (cellsV Tryz.prog 12 50 (gD l i))] (.c (.bool (p (gD l i))))) : AC EN5 Tryz.prog 23 [.sl 50 l,.c (.func (.func 24) #[] #[])] (.c (.bool (l.any p))):=by
 have h1:=zGU l p hn hc
 rw [<- zBl]
 refine zX 9 Tryz.func23 rfl rfl rfl rfl ?_
 intro s w he
 repeat' (first
|refine zA ?_
|refine zI ?_
|refine zb ?_
|refine zU ?_
|refine za ?_
|apply aw_1
 conv => whnf
 refine ⟨?_,trivial⟩
|apply s_1
 conv => whnf; arg 1; arg 4; arg 3; whnf
 refine ⟨?_,?_⟩
|apply zt rfl
 . conv => lhs; whnf
 . conv => lhs; whnf; arg 2; whnf
|apply zd rfl
 . conv => lhs; whnf
 . conv => lhs; whnf
 . first | exact h1
|apply zN
 . conv => lhs; whnf; arg 1; arg 1; whnf
|apply zO
 . conv => lhs; whnf; arg 1; arg 1; whnf
|refine zT (by conv => lhs; whnf) ?_ ?_ <;> intro hb
|refine zj ?_
|refine zZ ?_
|refine zG ?_
|refine zK ?_
|refine zC ?_
|refine zB rfl ?_
|refine zE rfl ?_
|refine zF ?_
|refine zJ ?_
|refine zD ?_
|refine zL ?_
|refine z6 ?_
|refine zH ?_
|refine ⟨_,by conv => lhs; whnf; arg 2; whnf,?_⟩; conv => rhs; whnf
|exact trivial
|intro hg)
noncomputable def HiArg (l : List D) (i : Nat) : Vst 19:=stS 19 [(0,.sl 68 l),(1,.c (.func (.func 128) #[] #[])),(7,.c (.int .i64 (l.length : Nat))),(8,.c (.int .i64 (i : Int)))] []
theorem zG9 (l : List D) (p : D -> Bool) (hn : l.length <= 9223372036854775807) (hc : ∀ i,i < l.length -> AC EN5 Tryz.prog 128 [.agg (cellsV Tryz.prog 12 68 (gD l i))] (.c (.bool (p (gD l i))))) : AC EN5 Tryz.prog 161 [.sl 68 l,.c (.func (.func 128) #[] #[])] (.c (.int .i64 (idxF l p))):=by
 refine zX 19 Tryz.func161 rfl rfl rfl rfl ?_
 intro s w he
 repeat' (first
|refine zA ?_
|refine zI ?_
|refine zb ?_
|refine zU ?_
|refine za ?_
|apply aw_1
 conv => whnf
 refine ⟨?_,trivial⟩
|apply s_1
 conv => whnf; arg 1; arg 4; arg 3; whnf
 refine ⟨?_,?_⟩
|apply zt rfl
 . conv => lhs; whnf
 . conv => lhs; whnf; arg 2; whnf
|apply zd rfl
 . conv => lhs; whnf
 . conv => lhs; whnf
 . first | fail
|apply zN
 . conv => lhs; whnf; arg 1; arg 1; whnf
|apply zO
 . conv => lhs; whnf; arg 1; arg 1; whnf
|refine zT (by conv => lhs; whnf) ?_ ?_ <;> intro hb
|refine zj ?_
|refine zZ ?_
|refine zG ?_
|refine zK ?_
|refine zC ?_
|refine zB rfl ?_
|refine zE rfl ?_
|refine zF ?_
|refine zJ ?_
|refine zD ?_
|refine zL ?_
|refine z6 ?_
|refine zH ?_
|refine ⟨_,by conv => lhs; whnf; arg 2; whnf,?_⟩; conv => rhs; whnf
|exact trivial
|intro hg)
 refine z7 (fun j st => ∃ i,i + j = l.length /\ (∀ m,m < i -> p (gD l m) = false) /\ Sub (cx EN5 Tryz.prog s w he) st (HiArg l i)) l.length ⟨0,by omega,fun m hm => absurd hm (Nat.not_lt_zero m),Sub.live ⟨rfl,rfl,rfl,rfl,trivial⟩ trivial⟩ ?_
 rintro j st ⟨i,hij,hno,hs2⟩
 refine z8 hs2 ?_
 clear hs2
 by_cases hi : i < l.length
 . have f0 : decide ((i : Int) < (l.length : Nat)) = true:=decide_eq_true (by omega)
   have hc2:=hc i hi
   repeat' (first
|apply zW
 . conv => lhs; whnf
 . assumption
|apply zS
 . conv => lhs; whnf
 . assumption
|refine zi ?_
|refine zf ?_
|refine zAH ?_
|refine zA ?_
|refine zI ?_
|refine zb ?_
|refine zU ?_
|refine za ?_
|apply aw_1
 conv => whnf
 refine ⟨?_,trivial⟩
|apply s_1
 conv => whnf; arg 1; arg 4; arg 3; whnf
 refine ⟨?_,?_⟩
|apply zt rfl
 . conv => lhs; whnf
 . conv => lhs; whnf; arg 2; whnf
|apply zd rfl
 . conv => lhs; whnf
 . conv => lhs; whnf
 . first | exact hc2
|apply zN
 . conv => lhs; whnf; arg 1; arg 1; whnf
|apply zO
 . conv => lhs; whnf; arg 1; arg 1; whnf
|refine zT (by conv => lhs; whnf) ?_ ?_ <;> intro hb
|refine zj ?_
|refine zZ ?_
|refine zG ?_
|refine zK ?_
|refine zC ?_
|refine zB rfl ?_
|refine zE rfl ?_
|refine zF ?_
|refine zJ ?_
|refine zD ?_
|refine zL ?_
|refine z6 ?_
|refine zH ?_
|refine ⟨_,by conv => lhs; whnf; arg 2; whnf,?_⟩; conv => rhs; whnf
|exact trivial
|intro hg)
   . show V.c _ = V.c _
     rw [zCJ hi hno hb]
   . refine zh (j':=j - 1) (by omega) ⟨i + 1,by omega,fun m hm => ?_,Sub.live ⟨rfl,rfl,rfl,rfl,trivial⟩ trivial⟩
     by_cases e : m = i
     . subst e; exact hb
     . exact hno m (by omega)
   all_goals first
    | exact zo (by omega)
    | exact ⟨by omega,by omega⟩
 . have f0 : decide ((i : Int) < (l.length : Nat)) = false:=decide_eq_false (by omega)
   repeat' (first
|apply zW
 . conv => lhs; whnf
 . assumption
|apply zS
 . conv => lhs; whnf
 . assumption
|refine zi ?_
|refine zf ?_
|refine zAH ?_
|refine zA ?_
|refine zI ?_
|refine zb ?_
|refine zU ?_
|refine za ?_
|apply aw_1
 conv => whnf
 refine ⟨?_,trivial⟩
|apply s_1
 conv => whnf; arg 1; arg 4; arg 3; whnf
 refine ⟨?_,?_⟩
|apply zt rfl
 . conv => lhs; whnf
 . conv => lhs; whnf; arg 2; whnf
|apply zd rfl
 . conv => lhs; whnf
 . conv => lhs; whnf
 . first | fail
|apply zN
 . conv => lhs; whnf; arg 1; arg 1; whnf
|apply zO
 . conv => lhs; whnf; arg 1; arg 1; whnf
|refine zT (by conv => lhs; whnf) ?_ ?_ <;> intro hb
|refine zj ?_
|refine zZ ?_
|refine zG ?_
|refine zK ?_
|refine zC ?_
|refine zB rfl ?_
|refine zE rfl ?_
|refine zF ?_
|refine zJ ?_
|refine zD ?_
|refine zL ?_
|refine z6 ?_
|refine zH ?_
|refine ⟨_,by conv => lhs; whnf; arg 2; whnf,?_⟩; conv => rhs; whnf
|exact trivial
|intro hg)
   show V.c _ = V.c _
   rw [zCI fun m hm => hno m (by omega)]
theorem zEj (l : List D) (p : D -> Bool) (hn : l.length <= 9223372036854775807) (hc : ∀ i,i < l.length -> AC EN5 Tryz.prog 128 [.agg (cellsV Tryz.prog 12 68 (gD l i))] (.c (.bool (p (gD l i))))) : AC EN5 Tryz.prog 127 [.sl 68 l,.c (.func (.func 128) #[] #[])] (.c (.bool (l.any p))):=by
 have h1:=zG9 l p hn hc
 rw [<- zBl]
 refine zX 9 Tryz.func127 rfl rfl rfl rfl ?_
 intro s w he
 repeat' (first
|refine zA ?_
|refine zI ?_
|refine zb ?_
|refine zU ?_
|refine za ?_
|apply aw_1
 conv => whnf
 refine ⟨?_,trivial⟩
|apply s_1
 conv => whnf; arg 1; arg 4; arg 3; whnf
 refine ⟨?_,?_⟩
|apply zt rfl
 . conv => lhs; whnf
 . conv => lhs; whnf; arg 2; whnf
|apply zd rfl
 . conv => lhs; whnf
 . conv => lhs; whnf
 . first | exact h1
|apply zN
 . conv => lhs; whnf; arg 1; arg 1; whnf
|apply zO
 . conv => lhs; whnf; arg 1; arg 1; whnf
|refine zT (by conv => lhs; whnf) ?_ ?_ <;> intro hb
|refine zj ?_
|refine zZ ?_
|refine zG ?_
|refine zK ?_
|refine zC ?_
|refine zB rfl ?_
|refine zE rfl ?_
|refine zF ?_
|refine zJ ?_
|refine zD ?_
|refine zL ?_
|refine z6 ?_
|refine zH ?_
|refine ⟨_,by conv => lhs; whnf; arg 2; whnf,?_⟩; conv => rhs; whnf
|exact trivial
|intro hg)
noncomputable def HiDir (l : List D) (i : Nat) : Vst 19:=stS 19 [(0,.sl 129 l),(1,.c (.func (.func 130) #[] #[])),(7,.c (.int .i64 (l.length : Nat))),(8,.c (.int .i64 (i : Int)))] []
theorem zG8 (l : List D) (p : D -> Bool) (hn : l.length <= 9223372036854775807) (hc : ∀ i,i < l.length -> AC EN5 Tryz.prog 130 [.agg (cellsV Tryz.prog 12 129 (gD l i))] (.c (.bool (p (gD l i))))) : AC EN5 Tryz.prog 162 [.sl 129 l,.c (.func (.func 130) #[] #[])] (.c (.int .i64 (idxF l p))):=by
 refine zX 19 Tryz.func162 rfl rfl rfl rfl ?_
 intro s w he
 repeat' (first
|refine zA ?_
|refine zI ?_
|refine zb ?_
|refine zU ?_
|refine za ?_
|apply aw_1
 conv => whnf
 refine ⟨?_,trivial⟩
|apply s_1
 conv => whnf; arg 1; arg 4; arg 3; whnf
 refine ⟨?_,?_⟩
|apply zt rfl
 . conv => lhs; whnf
 . conv => lhs; whnf; arg 2; whnf
|apply zd rfl
 . conv => lhs; whnf
 . conv => lhs; whnf
 . first | fail
|apply zN
 . conv => lhs; whnf; arg 1; arg 1; whnf
|apply zO
 . conv => lhs; whnf; arg 1; arg 1; whnf
|refine zT (by conv => lhs; whnf) ?_ ?_ <;> intro hb
|refine zj ?_
|refine zZ ?_
|refine zG ?_
|refine zK ?_
|refine zC ?_
|refine zB rfl ?_
|refine zE rfl ?_
|refine zF ?_
|refine zJ ?_
|refine zD ?_
|refine zL ?_
|refine z6 ?_
|refine zH ?_
|refine ⟨_,by conv => lhs; whnf; arg 2; whnf,?_⟩; conv => rhs; whnf
|exact trivial
|intro hg)
 refine z7 (fun j st => ∃ i,i + j = l.length /\ (∀ m,m < i -> p (gD l m) = false) /\ Sub (cx EN5 Tryz.prog s w he) st (HiDir l i)) l.length ⟨0,by omega,fun m hm => absurd hm (Nat.not_lt_zero m),Sub.live ⟨rfl,rfl,rfl,rfl,trivial⟩ trivial⟩ ?_
 rintro j st ⟨i,hij,hno,hs2⟩
 refine z8 hs2 ?_
 clear hs2
 by_cases hi : i < l.length
 . have f0 : decide ((i : Int) < (l.length : Nat)) = true:=decide_eq_true (by omega)
   have hc2:=hc i hi
   repeat' (first
|apply zW
 . conv => lhs; whnf
 . assumption
|apply zS
 . conv => lhs; whnf
 . assumption
|refine zi ?_
|refine zf ?_
|refine zAH ?_
|refine zA ?_
|refine zI ?_
|refine zb ?_
|refine zU ?_
|refine za ?_
|apply aw_1
 conv => whnf
 refine ⟨?_,trivial⟩
|apply s_1
 conv => whnf; arg 1; arg 4; arg 3; whnf
 refine ⟨?_,?_⟩
|apply zt rfl
 . conv => lhs; whnf
 . conv => lhs; whnf; arg 2; whnf
|apply zd rfl
 . conv => lhs; whnf
 . conv => lhs; whnf
 . first | exact hc2
|apply zN
 . conv => lhs; whnf; arg 1; arg 1; whnf
|apply zO
 . conv => lhs; whnf; arg 1; arg 1; whnf
|refine zT (by conv => lhs; whnf) ?_ ?_ <;> intro hb
|refine zj ?_
|refine zZ ?_
|refine zG ?_
|refine zK ?_
|refine zC ?_
|refine zB rfl ?_
|refine zE rfl ?_
|refine zF ?_
|refine zJ ?_
|refine zD ?_
|refine zL ?_
|refine z6 ?_
|refine zH ?_
|refine ⟨_,by conv => lhs; whnf; arg 2; whnf,?_⟩; conv => rhs; whnf
|exact trivial
|intro hg)
   . show V.c _ = V.c _
     rw [zCJ hi hno hb]
   . refine zh (j':=j - 1) (by omega) ⟨i + 1,by omega,fun m hm => ?_,Sub.live ⟨rfl,rfl,rfl,rfl,trivial⟩ trivial⟩
     by_cases e : m = i
     . subst e; exact hb
     . exact hno m (by omega)
   all_goals first
    | exact zo (by omega)
    | exact ⟨by omega,by omega⟩
 . have f0 : decide ((i : Int) < (l.length : Nat)) = false:=decide_eq_false (by omega)
   repeat' (first
|apply zW
 . conv => lhs; whnf
 . assumption
|apply zS
 . conv => lhs; whnf
 . assumption
|refine zi ?_
|refine zf ?_
|refine zAH ?_
|refine zA ?_
|refine zI ?_
|refine zb ?_
|refine zU ?_
|refine za ?_
|apply aw_1
 conv => whnf
 refine ⟨?_,trivial⟩
|apply s_1
 conv => whnf; arg 1; arg 4; arg 3; whnf
 refine ⟨?_,?_⟩
|apply zt rfl
 . conv => lhs; whnf
 . conv => lhs; whnf; arg 2; whnf
|apply zd rfl
 . conv => lhs; whnf
 . conv => lhs; whnf
 . first | fail
|apply zN
 . conv => lhs; whnf; arg 1; arg 1; whnf
|apply zO
 . conv => lhs; whnf; arg 1; arg 1; whnf
|refine zT (by conv => lhs; whnf) ?_ ?_ <;> intro hb
|refine zj ?_
|refine zZ ?_
|refine zG ?_
|refine zK ?_
|refine zC ?_
|refine zB rfl ?_
|refine zE rfl ?_
|refine zF ?_
|refine zJ ?_
|refine zD ?_
|refine zL ?_
|refine z6 ?_
|refine zH ?_
|refine ⟨_,by conv => lhs; whnf; arg 2; whnf,?_⟩; conv => rhs; whnf
|exact trivial
|intro hg)
   show V.c _ = V.c _
   rw [zCI fun m hm => hno m (by omega)]
theorem zEi (l : List D) (p : D -> Bool) (hn : l.length <= 9223372036854775807) (hc : ∀ i,i < l.length -> AC EN5 Tryz.prog 130 [.agg (cellsV Tryz.prog 12 129 (gD l i))] (.c (.bool (p (gD l i))))) : AC EN5 Tryz.prog 129 [.sl 129 l,.c (.func (.func 130) #[] #[])] (.c (.bool (l.any p))):=by
 have h1:=zG8 l p hn hc
 rw [<- zBl]
 refine zX 9 Tryz.func129 rfl rfl rfl rfl ?_
 intro s w he
 repeat' (first
|refine zA ?_
|refine zI ?_
|refine zb ?_
|refine zU ?_
|refine za ?_
|apply aw_1
 conv => whnf
 refine ⟨?_,trivial⟩
|apply s_1
 conv => whnf; arg 1; arg 4; arg 3; whnf
 refine ⟨?_,?_⟩
|apply zt rfl
 . conv => lhs; whnf
 . conv => lhs; whnf; arg 2; whnf
|apply zd rfl
 . conv => lhs; whnf
 . conv => lhs; whnf
 . first | exact h1
|apply zN
 . conv => lhs; whnf; arg 1; arg 1; whnf
|apply zO
 . conv => lhs; whnf; arg 1; arg 1; whnf
|refine zT (by conv => lhs; whnf) ?_ ?_ <;> intro hb
|refine zj ?_
|refine zZ ?_
|refine zG ?_
|refine zK ?_
|refine zC ?_
|refine zB rfl ?_
|refine zE rfl ?_
|refine zF ?_
|refine zJ ?_
|refine zD ?_
|refine zL ?_
|refine z6 ?_
|refine zH ?_
|refine ⟨_,by conv => lhs; whnf; arg 2; whnf,?_⟩; conv => rhs; whnf
|exact trivial
|intro hg)
noncomputable def HiBare (l : List D) (i : Nat) : Vst 19:=stS 19 [(0,.sl 62 l),(1,.c (.func (.func 88) #[] #[])),(7,.c (.int .i64 (l.length : Nat))),(8,.c (.int .i64 (i : Int)))] []
theorem zGV (l : List D) (p : D -> Bool) (hn : l.length <= 9223372036854775807) (hc : ∀ i,i < l.length -> AC EN5 Tryz.prog 88 [.agg (cellsV Tryz.prog 12 62 (gD l i))] (.c (.bool (p (gD l i))))) : AC EN5 Tryz.prog 126 [.sl 62 l,.c (.func (.func 88) #[] #[])] (.c (.int .i64 (idxF l p))):=by
 refine zX 19 Tryz.func126 rfl rfl rfl rfl ?_
 intro s w he
 repeat' (first
|refine zA ?_
|refine zI ?_
|refine zb ?_
|refine zU ?_
|refine za ?_
|apply aw_1
 conv => whnf
 refine ⟨?_,trivial⟩
|apply s_1
 conv => whnf; arg 1; arg 4; arg 3; whnf
 refine ⟨?_,?_⟩
|apply zt rfl
 . conv => lhs; whnf
 . conv => lhs; whnf; arg 2; whnf
|apply zd rfl
 . conv => lhs; whnf
 . conv => lhs; whnf
 . first | fail
|apply zN
 . conv => lhs; whnf; arg 1; arg 1; whnf
|apply zO
 . conv => lhs; whnf; arg 1; arg 1; whnf
|refine zT (by conv => lhs; whnf) ?_ ?_ <;> intro hb
|refine zj ?_
|refine zZ ?_
|refine zG ?_
|refine zK ?_
|refine zC ?_
|refine zB rfl ?_
|refine zE rfl ?_
|refine zF ?_
|refine zJ ?_
|refine zD ?_
|refine zL ?_
|refine z6 ?_
|refine zH ?_
|refine ⟨_,by conv => lhs; whnf; arg 2; whnf,?_⟩; conv => rhs; whnf
|exact trivial
|intro hg)
 refine z7 (fun j st => ∃ i,i + j = l.length /\ (∀ m,m < i -> p (gD l m) = false) /\ Sub (cx EN5 Tryz.prog s w he) st (HiBare l i)) l.length ⟨0,by omega,fun m hm => absurd hm (Nat.not_lt_zero m),Sub.live ⟨rfl,rfl,rfl,rfl,trivial⟩ trivial⟩ ?_
 rintro j st ⟨i,hij,hno,hs2⟩
 refine z8 hs2 ?_
 clear hs2
 by_cases hi : i < l.length
 . have f0 : decide ((i : Int) < (l.length : Nat)) = true:=decide_eq_true (by omega)
   have hc2:=hc i hi
   repeat' (first
|apply zW
 . conv => lhs; whnf
 . assumption
|apply zS
 . conv => lhs; whnf
 . assumption
|refine zi ?_
|refine zf ?_
|refine zAH ?_
|refine zA ?_
|refine zI ?_
|refine zb ?_
|refine zU ?_
|refine za ?_
|apply aw_1
 conv => whnf
 refine ⟨?_,trivial⟩
|apply s_1
 conv => whnf; arg 1; arg 4; arg 3; whnf
 refine ⟨?_,?_⟩
|apply zt rfl
 . conv => lhs; whnf
 . conv => lhs; whnf; arg 2; whnf
|apply zd rfl
 . conv => lhs; whnf
 . conv => lhs; whnf
 . first | exact hc2
|apply zN
 . conv => lhs; whnf; arg 1; arg 1; whnf
|apply zO
 . conv => lhs; whnf; arg 1; arg 1; whnf
|refine zT (by conv => lhs; whnf) ?_ ?_ <;> intro hb
|refine zj ?_
|refine zZ ?_
|refine zG ?_
|refine zK ?_
|refine zC ?_
|refine zB rfl ?_
|refine zE rfl ?_
|refine zF ?_
|refine zJ ?_
|refine zD ?_
|refine zL ?_
|refine z6 ?_
|refine zH ?_
|refine ⟨_,by conv => lhs; whnf; arg 2; whnf,?_⟩; conv => rhs; whnf
|exact trivial
|intro hg)
   . show V.c _ = V.c _
     rw [zCJ hi hno hb]
   . refine zh (j':=j - 1) (by omega) ⟨i + 1,by omega,fun m hm => ?_,Sub.live ⟨rfl,rfl,rfl,rfl,trivial⟩ trivial⟩
     by_cases e : m = i
     . subst e; exact hb
     . exact hno m (by omega)
   all_goals first
    | exact zo (by omega)
    | exact ⟨by omega,by omega⟩
 . have f0 : decide ((i : Int) < (l.length : Nat)) = false:=decide_eq_false (by omega)
   repeat' (first
|apply zW
 . conv => lhs; whnf
 . assumption
|apply zS
 . conv => lhs; whnf
 . assumption
|refine zi ?_
|refine zf ?_
|refine zAH ?_
|refine zA ?_
|refine zI ?_
|refine zb ?_
|refine zU ?_
|refine za ?_
|apply aw_1
 conv => whnf
 refine ⟨?_,trivial⟩
|apply s_1
 conv => whnf; arg 1; arg 4; arg 3; whnf
 refine ⟨?_,?_⟩
|apply zt rfl
 . conv => lhs; whnf
 . conv => lhs; whnf; arg 2; whnf
|apply zd rfl
 . conv => lhs; whnf
 . conv => lhs; whnf
 . first | fail
|apply zN
 . conv => lhs; whnf; arg 1; arg 1; whnf
|apply zO
 . conv => lhs; whnf; arg 1; arg 1; whnf
|refine zT (by conv => lhs; whnf) ?_ ?_ <;> intro hb
|refine zj ?_
|refine zZ ?_
|refine zG ?_
|refine zK ?_
|refine zC ?_
|refine zB rfl ?_
|refine zE rfl ?_
|refine zF ?_
|refine zJ ?_
|refine zD ?_
|refine zL ?_
|refine z6 ?_
|refine zH ?_
|refine ⟨_,by conv => lhs; whnf; arg 2; whnf,?_⟩; conv => rhs; whnf
|exact trivial
|intro hg)
   show V.c _ = V.c _
   rw [zCI fun m hm => hno m (by omega)]
theorem zER (l : List D) (p : D -> Bool) (hn : l.length <= 9223372036854775807) (hc : ∀ i,i < l.length -> AC EN5 Tryz.prog 88 [.agg (cellsV Tryz.prog 12 62 (gD l i))] (.c (.bool (p (gD l i))))) : AC EN5 Tryz.prog 87 [.sl 62 l,.c (.func (.func 88) #[] #[])] (.c (.bool (l.any p))):=by
 have h1:=zGV l p hn hc
 rw [<- zBl]
 refine zX 9 Tryz.func87 rfl rfl rfl rfl ?_
 intro s w he
 repeat' (first
|refine zA ?_
|refine zI ?_
|refine zb ?_
|refine zU ?_
|refine za ?_
|apply aw_1
 conv => whnf
 refine ⟨?_,trivial⟩
|apply s_1
 conv => whnf; arg 1; arg 4; arg 3; whnf
 refine ⟨?_,?_⟩
|apply zt rfl
 . conv => lhs; whnf
 . conv => lhs; whnf; arg 2; whnf
|apply zd rfl
 . conv => lhs; whnf
 . conv => lhs; whnf
 . first | exact h1
|apply zN
 . conv => lhs; whnf; arg 1; arg 1; whnf
|apply zO
 . conv => lhs; whnf; arg 1; arg 1; whnf
|refine zT (by conv => lhs; whnf) ?_ ?_ <;> intro hb
|refine zj ?_
|refine zZ ?_
|refine zG ?_
|refine zK ?_
|refine zC ?_
|refine zB rfl ?_
|refine zE rfl ?_
|refine zF ?_
|refine zJ ?_
|refine zD ?_
|refine zL ?_
|refine z6 ?_
|refine zH ?_
|refine ⟨_,by conv => lhs; whnf; arg 2; whnf,?_⟩; conv => rhs; whnf
|exact trivial
|intro hg)
noncomputable def HiKey (l : List D) (i : Nat) : Vst 19:=stS 19 [(0,.sl 9 l),(1,.c (.func (.func 159) #[] #[])),(7,.c (.int .i64 (l.length : Nat))),(8,.c (.int .i64 (i : Int)))] []
theorem zG7 (l : List D) (p : D -> Bool) (hn : l.length <= 9223372036854775807) (hc : ∀ i,i < l.length -> AC EN5 Tryz.prog 159 [.c (.string (gD l i).s)] (.c (.bool (p (gD l i))))) : AC EN5 Tryz.prog 188 [.sl 9 l,.c (.func (.func 159) #[] #[])] (.c (.int .i64 (idxF l p))):=by
 refine zX 19 Tryz.func188 rfl rfl rfl rfl ?_
 intro s w he
 repeat' (first
|refine zA ?_
|refine zI ?_
|refine zb ?_
|refine zU ?_
|refine za ?_
|apply aw_1
 conv => whnf
 refine ⟨?_,trivial⟩
|apply s_1
 conv => whnf; arg 1; arg 4; arg 3; whnf
 refine ⟨?_,?_⟩
|apply zt rfl
 . conv => lhs; whnf
 . conv => lhs; whnf; arg 2; whnf
|apply zd rfl
 . conv => lhs; whnf
 . conv => lhs; whnf
 . first | fail
|apply zN
 . conv => lhs; whnf; arg 1; arg 1; whnf
|apply zO
 . conv => lhs; whnf; arg 1; arg 1; whnf
|refine zT (by conv => lhs; whnf) ?_ ?_ <;> intro hb
|refine zj ?_
|refine zZ ?_
|refine zG ?_
|refine zK ?_
|refine zC ?_
|refine zB rfl ?_
|refine zE rfl ?_
|refine zF ?_
|refine zJ ?_
|refine zD ?_
|refine zL ?_
|refine z6 ?_
|refine zH ?_
|refine ⟨_,by conv => lhs; whnf; arg 2; whnf,?_⟩; conv => rhs; whnf
|exact trivial
|intro hg)
 refine z7 (fun j st => ∃ i,i + j = l.length /\ (∀ m,m < i -> p (gD l m) = false) /\ Sub (cx EN5 Tryz.prog s w he) st (HiKey l i)) l.length ⟨0,by omega,fun m hm => absurd hm (Nat.not_lt_zero m),Sub.live ⟨rfl,rfl,rfl,rfl,trivial⟩ trivial⟩ ?_
 rintro j st ⟨i,hij,hno,hs2⟩
 refine z8 hs2 ?_
 clear hs2
 by_cases hi : i < l.length
 . have f0 : decide ((i : Int) < (l.length : Nat)) = true:=decide_eq_true (by omega)
   have hc2:=hc i hi
   repeat' (first
|apply zW
 . conv => lhs; whnf
 . assumption
|apply zS
 . conv => lhs; whnf
 . assumption
|refine zi ?_
|refine zf ?_
|refine zAH ?_
|refine zA ?_
|refine zI ?_
|refine zb ?_
|refine zU ?_
|refine za ?_
|apply aw_1
 conv => whnf
 refine ⟨?_,trivial⟩
|apply s_1
 conv => whnf; arg 1; arg 4; arg 3; whnf
 refine ⟨?_,?_⟩
|apply zt rfl
 . conv => lhs; whnf
 . conv => lhs; whnf; arg 2; whnf
|apply zd rfl
 . conv => lhs; whnf
 . conv => lhs; whnf
 . first | exact hc2
|apply zN
 . conv => lhs; whnf; arg 1; arg 1; whnf
|apply zO
 . conv => lhs; whnf; arg 1; arg 1; whnf
|refine zT (by conv => lhs; whnf) ?_ ?_ <;> intro hb
|refine zj ?_
|refine zZ ?_
|refine zG ?_
|refine zK ?_
|refine zC ?_
|refine zB rfl ?_
|refine zE rfl ?_
|refine zF ?_
|refine zJ ?_
|refine zD ?_
|refine zL ?_
|refine z6 ?_
|refine zH ?_
|refine ⟨_,by conv => lhs; whnf; arg 2; whnf,?_⟩; conv => rhs; whnf
|exact trivial
|intro hg)
   . show V.c _ = V.c _
     rw [zCJ hi hno hb]
   . refine zh (j':=j - 1) (by omega) ⟨i + 1,by omega,fun m hm => ?_,Sub.live ⟨rfl,rfl,rfl,rfl,trivial⟩ trivial⟩
     by_cases e : m = i
     . subst e; exact hb
     . exact hno m (by omega)
   all_goals first
    | exact zo (by omega)
    | exact ⟨by omega,by omega⟩
 . have f0 : decide ((i : Int) < (l.length : Nat)) = false:=decide_eq_false (by omega)
   repeat' (first
|apply zW
 . conv => lhs; whnf
 . assumption
|apply zS
 . conv => lhs; whnf
 . assumption
|refine zi ?_
|refine zf ?_
|refine zAH ?_
|refine zA ?_
|refine zI ?_
|refine zb ?_
|refine zU ?_
|refine za ?_
|apply aw_1
 conv => whnf
 refine ⟨?_,trivial⟩
|apply s_1
 conv => whnf; arg 1; arg 4; arg 3; whnf
 refine ⟨?_,?_⟩
|apply zt rfl
 . conv => lhs; whnf
 . conv => lhs; whnf; arg 2; whnf
|apply zd rfl
 . conv => lhs; whnf
 . conv => lhs; whnf
 . first | fail
|apply zN
 . conv => lhs; whnf; arg 1; arg 1; whnf
|apply zO
 . conv => lhs; whnf; arg 1; arg 1; whnf
|refine zT (by conv => lhs; whnf) ?_ ?_ <;> intro hb
|refine zj ?_
|refine zZ ?_
|refine zG ?_
|refine zK ?_
|refine zC ?_
|refine zB rfl ?_
|refine zE rfl ?_
|refine zF ?_
|refine zJ ?_
|refine zD ?_
|refine zL ?_
|refine z6 ?_
|refine zH ?_
|refine ⟨_,by conv => lhs; whnf; arg 2; whnf,?_⟩; conv => rhs; whnf
|exact trivial
|intro hg)
   show V.c _ = V.c _
   rw [zCI fun m hm => hno m (by omega)]
theorem zEh (l : List D) (p : D -> Bool) (hn : l.length <= 9223372036854775807) (hc : ∀ i,i < l.length -> AC EN5 Tryz.prog 159 [.c (.string (gD l i).s)] (.c (.bool (p (gD l i))))) : AC EN5 Tryz.prog 158 [.sl 9 l,.c (.func (.func 159) #[] #[])] (.c (.bool (l.any p))):=by
 have h1:=zG7 l p hn hc
 rw [<- zBl]
 refine zX 9 Tryz.func158 rfl rfl rfl rfl ?_
 intro s w he
 repeat' (first
|refine zA ?_
|refine zI ?_
|refine zb ?_
|refine zU ?_
|refine za ?_
|apply aw_1
 conv => whnf
 refine ⟨?_,trivial⟩
|apply s_1
 conv => whnf; arg 1; arg 4; arg 3; whnf
 refine ⟨?_,?_⟩
|apply zt rfl
 . conv => lhs; whnf
 . conv => lhs; whnf; arg 2; whnf
|apply zd rfl
 . conv => lhs; whnf
 . conv => lhs; whnf
 . first | exact h1
|apply zN
 . conv => lhs; whnf; arg 1; arg 1; whnf
|apply zO
 . conv => lhs; whnf; arg 1; arg 1; whnf
|refine zT (by conv => lhs; whnf) ?_ ?_ <;> intro hb
|refine zj ?_
|refine zZ ?_
|refine zG ?_
|refine zK ?_
|refine zC ?_
|refine zB rfl ?_
|refine zE rfl ?_
|refine zF ?_
|refine zJ ?_
|refine zD ?_
|refine zL ?_
|refine z6 ?_
|refine zH ?_
|refine ⟨_,by conv => lhs; whnf; arg 2; whnf,?_⟩; conv => rhs; whnf
|exact trivial
|intro hg)
noncomputable def HiEvery (lv : Bool) (l : List D) (i : Nat) : Vst 19:=stS 19 [(0,.sl 62 l),(1,.clo 125 [.bx (pn 0) 0]),(7,.c (.int .i64 (l.length : Nat))),(8,.c (.int .i64 (i : Int)))] [(pn 0,.box 4 [.c (.bool lv)])]
theorem zEa (lv : Bool) (l : List D) (p : D -> Bool) (hn : l.length <= 9223372036854775807) (hc : ∀ i,i < l.length -> ACB EN5 Tryz.prog 125 [.agg (cellsV Tryz.prog 12 62 (gD l i)),.bx (pn 0) 0] [.box 4 [.c (.bool lv)]] (.c (.bool (p (gD l i)))) [.box 4 [.c (.bool lv)]]) : ACB EN5 Tryz.prog 126 [.sl 62 l,.clo 125 [.bx (pn 0) 0]] [.box 4 [.c (.bool lv)]] (.c (.int .i64 (idxF l p))) [.box 4 [.c (.bool lv)]]:=by
 refine zAM (fn:=Tryz.f126) 19 Tryz.func126 rfl rfl ?_
 intro pas w0 w he hpp
 repeat' (first
|refine zA ?_
|refine zI ?_
|refine zb ?_
|refine zU ?_
|refine za ?_
|apply aw_1
 conv => whnf
 refine ⟨?_,trivial⟩
|apply s_1
 conv => whnf; arg 1; arg 4; arg 3; whnf
 refine ⟨?_,?_⟩
|apply zt rfl
 . conv => lhs; whnf
 . conv => lhs; whnf; arg 2; whnf
|apply zd rfl
 . conv => lhs; whnf
 . conv => lhs; whnf
 . first | fail
|apply zN
 . conv => lhs; whnf; arg 1; arg 1; whnf
|apply zO
 . conv => lhs; whnf; arg 1; arg 1; whnf
|refine zT (by conv => lhs; whnf) ?_ ?_ <;> intro hb
|refine zj ?_
|refine zZ ?_
|refine zG ?_
|refine zK ?_
|refine zC ?_
|refine zB rfl ?_
|refine zE rfl ?_
|refine zF ?_
|refine zJ ?_
|refine zD ?_
|refine zL ?_
|refine zAh ⟨?_,?_⟩
|refine zAQ ⟨?_,?_⟩
|exact (rfl : _ = V.tup [])
|refine ⟨_,by conv => lhs; whnf; arg 2; whnf,?_⟩; conv => rhs; whnf
|exact trivial
|intro hg)
 refine z7 (fun j st => ∃ i,i + j = l.length /\ (∀ m,m < i -> p (gD l m) = false) /\ Sub ⟨Tryz.prog,pas,w0,w,EN5,he,hpp,fun _ _ _ => False,[]⟩ st (HiEvery lv l i)) l.length ⟨0,by omega,fun m hm => absurd hm (Nat.not_lt_zero m),Sub.live ⟨rfl,rfl,rfl,rfl,trivial⟩ ⟨rfl,trivial⟩⟩ ?_
 rintro j st ⟨i,hij,hno,hs2⟩
 refine z8 hs2 ?_
 clear hs2
 by_cases hi : i < l.length
 . have f0 : decide ((i : Int) < (l.length : Nat)) = true:=decide_eq_true (by omega)
   have hc2:=hc i hi
   repeat' (first
|apply zAg (m:=pn 0) rfl
 . conv => lhs; whnf
 . conv => lhs; whnf
 . conv => lhs; whnf
 . rfl
 . conv => lhs; whnf; arg 1; whnf
 . exact fun _ => rfl
 . first | exact hc2
 . exact fun _ => rfl
 . exact fun _ => rfl
 . exact fun _ => rfl
|apply zAt (m:=pn 0) rfl
 . conv => lhs; whnf
 . conv => lhs; whnf
 . rfl
 . conv => lhs; whnf; arg 1; whnf
 . exact fun _ => rfl
 . first | exact hc2
 . exact fun _ => rfl
 . exact fun _ => rfl
 . exact fun _ => rfl
|apply zW
 . conv => lhs; whnf
 . assumption
|apply zS
 . conv => lhs; whnf
 . assumption
|refine zi ?_
|refine zf ?_
|refine zAH ?_
|refine zA ?_
|refine zI ?_
|refine zb ?_
|refine zU ?_
|refine za ?_
|apply aw_1
 conv => whnf
 refine ⟨?_,trivial⟩
|apply s_1
 conv => whnf; arg 1; arg 4; arg 3; whnf
 refine ⟨?_,?_⟩
|apply zt rfl
 . conv => lhs; whnf
 . conv => lhs; whnf; arg 2; whnf
|apply zd rfl
 . conv => lhs; whnf
 . conv => lhs; whnf
 . first | fail
|apply zN
 . conv => lhs; whnf; arg 1; arg 1; whnf
|apply zO
 . conv => lhs; whnf; arg 1; arg 1; whnf
|refine zT (by conv => lhs; whnf) ?_ ?_ <;> intro hb
|refine zj ?_
|refine zZ ?_
|refine zG ?_
|refine zK ?_
|refine zC ?_
|refine zB rfl ?_
|refine zE rfl ?_
|refine zF ?_
|refine zJ ?_
|refine zD ?_
|refine zL ?_
|refine zAh ⟨?_,?_⟩
|refine zAQ ⟨?_,?_⟩
|exact (rfl : _ = V.tup [])
|refine ⟨_,by conv => lhs; whnf; arg 2; whnf,?_⟩; conv => rhs; whnf
|exact trivial
|intro hg)
   . show V.c _ = V.c _
     rw [zCJ hi hno hb]
   . exact ⟨rfl,trivial⟩
   . refine zh (j':=j - 1) (by omega) ⟨i + 1,by omega,fun m hm => ?_,Sub.live ⟨rfl,rfl,rfl,rfl,trivial⟩ ⟨rfl,trivial⟩⟩
     by_cases e : m = i
     . subst e; exact hb
     . exact hno m (by omega)
   all_goals first
    | exact zo (by omega)
    | exact ⟨by omega,by omega⟩
 . have f0 : decide ((i : Int) < (l.length : Nat)) = false:=decide_eq_false (by omega)
   repeat' (first
|apply zW
 . conv => lhs; whnf
 . assumption
|apply zS
 . conv => lhs; whnf
 . assumption
|refine zi ?_
|refine zf ?_
|refine zAH ?_
|refine zA ?_
|refine zI ?_
|refine zb ?_
|refine zU ?_
|refine za ?_
|apply aw_1
 conv => whnf
 refine ⟨?_,trivial⟩
|apply s_1
 conv => whnf; arg 1; arg 4; arg 3; whnf
 refine ⟨?_,?_⟩
|apply zt rfl
 . conv => lhs; whnf
 . conv => lhs; whnf; arg 2; whnf
|apply zd rfl
 . conv => lhs; whnf
 . conv => lhs; whnf
 . first | fail
|apply zN
 . conv => lhs; whnf; arg 1; arg 1; whnf
|apply zO
 . conv => lhs; whnf; arg 1; arg 1; whnf
|refine zT (by conv => lhs; whnf) ?_ ?_ <;> intro hb
|refine zj ?_
|refine zZ ?_
|refine zG ?_
|refine zK ?_
|refine zC ?_
|refine zB rfl ?_
|refine zE rfl ?_
|refine zF ?_
|refine zJ ?_
|refine zD ?_
|refine zL ?_
|refine zAh ⟨?_,?_⟩
|refine zAQ ⟨?_,?_⟩
|exact (rfl : _ = V.tup [])
|refine ⟨_,by conv => lhs; whnf; arg 2; whnf,?_⟩; conv => rhs; whnf
|exact trivial
|intro hg)
   . show V.c _ = V.c _
     rw [zCI fun m hm => hno m (by omega)]
   . exact ⟨rfl,trivial⟩
theorem zDU (lv : Bool) (l : List D) (p : D -> Bool) (hn : l.length <= 9223372036854775807) (hc : ∀ i,i < l.length -> ACB EN5 Tryz.prog 125 [.agg (cellsV Tryz.prog 12 62 (gD l i)),.bx (pn 0) 0] [.box 4 [.c (.bool lv)]] (.c (.bool (p (gD l i)))) [.box 4 [.c (.bool lv)]]) : ACB EN5 Tryz.prog 87 [.sl 62 l,.clo 125 [.bx (pn 0) 0]] [.box 4 [.c (.bool lv)]] (.c (.bool (l.any p))) [.box 4 [.c (.bool lv)]]:=by
 have h1:=zEa lv l p hn hc
 rw [<- zBl]
 refine zAM (fn:=Tryz.f87) 9 Tryz.func87 rfl rfl ?_
 intro pas w0 w he hpp
 repeat' (first
|apply zAg (m:=pn 0) rfl
 . conv => lhs; whnf
 . conv => lhs; whnf
 . conv => lhs; whnf
 . rfl
 . conv => lhs; whnf; arg 1; whnf
 . exact fun _ => rfl
 . first | exact h1
 . exact fun _ => rfl
 . exact fun _ => rfl
 . exact fun _ => rfl
|apply zAt (m:=pn 0) rfl
 . conv => lhs; whnf
 . conv => lhs; whnf
 . rfl
 . conv => lhs; whnf; arg 1; whnf
 . exact fun _ => rfl
 . first | exact h1
 . exact fun _ => rfl
 . exact fun _ => rfl
 . exact fun _ => rfl
|refine zA ?_
|refine zI ?_
|refine zb ?_
|refine zU ?_
|refine za ?_
|apply aw_1
 conv => whnf
 refine ⟨?_,trivial⟩
|apply s_1
 conv => whnf; arg 1; arg 4; arg 3; whnf
 refine ⟨?_,?_⟩
|apply zt rfl
 . conv => lhs; whnf
 . conv => lhs; whnf; arg 2; whnf
|apply zd rfl
 . conv => lhs; whnf
 . conv => lhs; whnf
 . first | fail
|apply zN
 . conv => lhs; whnf; arg 1; arg 1; whnf
|apply zO
 . conv => lhs; whnf; arg 1; arg 1; whnf
|refine zT (by conv => lhs; whnf) ?_ ?_ <;> intro hb
|refine zj ?_
|refine zZ ?_
|refine zG ?_
|refine zK ?_
|refine zC ?_
|refine zB rfl ?_
|refine zE rfl ?_
|refine zF ?_
|refine zJ ?_
|refine zD ?_
|refine zL ?_
|refine zAh ⟨?_,?_⟩
|refine zAQ ⟨?_,?_⟩
|exact (rfl : _ = V.tup [])
|refine ⟨_,by conv => lhs; whnf; arg 2; whnf,?_⟩; conv => rhs; whnf
|exact trivial
|intro hg)
 exact ⟨rfl,trivial⟩
noncomputable def HiSel (lv : Int) (l : List D) (i : Nat) : Vst 19:=stS 19 [(0,.sl 57 l),(1,.clo 50 [.bx (pn 0) 0]),(7,.c (.int .i64 (l.length : Nat))),(8,.c (.int .i64 (i : Int)))] [(pn 0,.box 3 [.c (.int .i64 lv)])]
theorem zGT (lv : Int) (l : List D) (p : D -> Bool) (hn : l.length <= 9223372036854775807) (hc : ∀ i,i < l.length -> ACB EN5 Tryz.prog 50 [.agg (cellsV Tryz.prog 12 57 (gD l i)),.bx (pn 0) 0] [.box 3 [.c (.int .i64 lv)]] (.c (.bool (p (gD l i)))) [.box 3 [.c (.int .i64 lv)]]) : ACB EN5 Tryz.prog 89 [.sl 57 l,.clo 50 [.bx (pn 0) 0]] [.box 3 [.c (.int .i64 lv)]] (.c (.int .i64 (idxF l p))) [.box 3 [.c (.int .i64 lv)]]:=by
 refine zAM (fn:=Tryz.f89) 19 Tryz.func89 rfl rfl ?_
 intro pas w0 w he hpp
 repeat' (first
|refine zA ?_
|refine zI ?_
|refine zb ?_
|refine zU ?_
|refine za ?_
|apply aw_1
 conv => whnf
 refine ⟨?_,trivial⟩
|apply s_1
 conv => whnf; arg 1; arg 4; arg 3; whnf
 refine ⟨?_,?_⟩
|apply zt rfl
 . conv => lhs; whnf
 . conv => lhs; whnf; arg 2; whnf
|apply zd rfl
 . conv => lhs; whnf
 . conv => lhs; whnf
 . first | fail
|apply zN
 . conv => lhs; whnf; arg 1; arg 1; whnf
|apply zO
 . conv => lhs; whnf; arg 1; arg 1; whnf
|refine zT (by conv => lhs; whnf) ?_ ?_ <;> intro hb
|refine zj ?_
|refine zZ ?_
|refine zG ?_
|refine zK ?_
|refine zC ?_
|refine zB rfl ?_
|refine zE rfl ?_
|refine zF ?_
|refine zJ ?_
|refine zD ?_
|refine zL ?_
|refine zAh ⟨?_,?_⟩
|refine zAQ ⟨?_,?_⟩
|exact (rfl : _ = V.tup [])
|refine ⟨_,by conv => lhs; whnf; arg 2; whnf,?_⟩; conv => rhs; whnf
|exact trivial
|intro hg)
 refine z7 (fun j st => ∃ i,i + j = l.length /\ (∀ m,m < i -> p (gD l m) = false) /\ Sub ⟨Tryz.prog,pas,w0,w,EN5,he,hpp,fun _ _ _ => False,[]⟩ st (HiSel lv l i)) l.length ⟨0,by omega,fun m hm => absurd hm (Nat.not_lt_zero m),Sub.live ⟨rfl,rfl,rfl,rfl,trivial⟩ ⟨rfl,trivial⟩⟩ ?_
 rintro j st ⟨i,hij,hno,hs2⟩
 refine z8 hs2 ?_
 clear hs2
 by_cases hi : i < l.length
 . have f0 : decide ((i : Int) < (l.length : Nat)) = true:=decide_eq_true (by omega)
   have hc2:=hc i hi
   repeat' (first
|apply zAg (m:=pn 0) rfl
 . conv => lhs; whnf
 . conv => lhs; whnf
 . conv => lhs; whnf
 . rfl
 . conv => lhs; whnf; arg 1; whnf
 . exact fun _ => rfl
 . first | exact hc2
 . exact fun _ => rfl
 . exact fun _ => rfl
 . exact fun _ => rfl
|apply zAt (m:=pn 0) rfl
 . conv => lhs; whnf
 . conv => lhs; whnf
 . rfl
 . conv => lhs; whnf; arg 1; whnf
 . exact fun _ => rfl
 . first | exact hc2
 . exact fun _ => rfl
 . exact fun _ => rfl
 . exact fun _ => rfl
|apply zW
 . conv => lhs; whnf
 . assumption
|apply zS
 . conv => lhs; whnf
 . assumption
|refine zi ?_
|refine zf ?_
|refine zAH ?_
|refine zA ?_
|refine zI ?_
|refine zb ?_
|refine zU ?_
|refine za ?_
|apply aw_1
 conv => whnf
 refine ⟨?_,trivial⟩
|apply s_1
 conv => whnf; arg 1; arg 4; arg 3; whnf
 refine ⟨?_,?_⟩
|apply zt rfl
 . conv => lhs; whnf
 . conv => lhs; whnf; arg 2; whnf
|apply zd rfl
 . conv => lhs; whnf
 . conv => lhs; whnf
 . first | fail
|apply zN
 . conv => lhs; whnf; arg 1; arg 1; whnf
|apply zO
 . conv => lhs; whnf; arg 1; arg 1; whnf
|refine zT (by conv => lhs; whnf) ?_ ?_ <;> intro hb
|refine zj ?_
|refine zZ ?_
|refine zG ?_
|refine zK ?_
|refine zC ?_
|refine zB rfl ?_
|refine zE rfl ?_
|refine zF ?_
|refine zJ ?_
|refine zD ?_
|refine zL ?_
|refine zAh ⟨?_,?_⟩
|refine zAQ ⟨?_,?_⟩
|exact (rfl : _ = V.tup [])
|refine ⟨_,by conv => lhs; whnf; arg 2; whnf,?_⟩; conv => rhs; whnf
|exact trivial
|intro hg)
   . show V.c _ = V.c _
     rw [zCJ hi hno hb]
   . exact ⟨rfl,trivial⟩
   . refine zh (j':=j - 1) (by omega) ⟨i + 1,by omega,fun m hm => ?_,Sub.live ⟨rfl,rfl,rfl,rfl,trivial⟩ ⟨rfl,trivial⟩⟩
     by_cases e : m = i
     . subst e; exact hb
     . exact hno m (by omega)
   all_goals first
    | exact zo (by omega)
    | exact ⟨by omega,by omega⟩
 . have f0 : decide ((i : Int) < (l.length : Nat)) = false:=decide_eq_false (by omega)
   repeat' (first
|apply zW
 . conv => lhs; whnf
 . assumption
|apply zS
 . conv => lhs; whnf
 . assumption
|refine zi ?_
|refine zf ?_
|refine zAH ?_
|refine zA ?_
|refine zI ?_
|refine zb ?_
|refine zU ?_
|refine za ?_
|apply aw_1
 conv => whnf
 refine ⟨?_,trivial⟩
|apply s_1
 conv => whnf; arg 1; arg 4; arg 3; whnf
 refine ⟨?_,?_⟩
|apply zt rfl
 . conv => lhs; whnf
 . conv => lhs; whnf; arg 2; whnf
|apply zd rfl
 . conv => lhs; whnf
 . conv => lhs; whnf
 . first | fail
|apply zN
 . conv => lhs; whnf; arg 1; arg 1; whnf
|apply zO
 . conv => lhs; whnf; arg 1; arg 1; whnf
|refine zT (by conv => lhs; whnf) ?_ ?_ <;> intro hb
|refine zj ?_
|refine zZ ?_
|refine zG ?_
|refine zK ?_
|refine zC ?_
|refine zB rfl ?_
|refine zE rfl ?_
|refine zF ?_
|refine zJ ?_
|refine zD ?_
|refine zL ?_
|refine zAh ⟨?_,?_⟩
|refine zAQ ⟨?_,?_⟩
|exact (rfl : _ = V.tup [])
|refine ⟨_,by conv => lhs; whnf; arg 2; whnf,?_⟩; conv => rhs; whnf
|exact trivial
|intro hg)
   . show V.c _ = V.c _
     rw [zCI fun m hm => hno m (by omega)]
   . exact ⟨rfl,trivial⟩
theorem zEP (lv : Int) (l : List D) (p : D -> Bool) (hn : l.length <= 9223372036854775807) (hc : ∀ i,i < l.length -> ACB EN5 Tryz.prog 50 [.agg (cellsV Tryz.prog 12 57 (gD l i)),.bx (pn 0) 0] [.box 3 [.c (.int .i64 lv)]] (.c (.bool (p (gD l i)))) [.box 3 [.c (.int .i64 lv)]]) : ACB EN5 Tryz.prog 49 [.sl 57 l,.clo 50 [.bx (pn 0) 0]] [.box 3 [.c (.int .i64 lv)]] (.c (.bool (l.any p))) [.box 3 [.c (.int .i64 lv)]]:=by
 have h1:=zGT lv l p hn hc
 rw [<- zBl]
 refine zAM (fn:=Tryz.f49) 9 Tryz.func49 rfl rfl ?_
 intro pas w0 w he hpp
 repeat' (first
|apply zAg (m:=pn 0) rfl
 . conv => lhs; whnf
 . conv => lhs; whnf
 . conv => lhs; whnf
 . rfl
 . conv => lhs; whnf; arg 1; whnf
 . exact fun _ => rfl
 . first | exact h1
 . exact fun _ => rfl
 . exact fun _ => rfl
 . exact fun _ => rfl
|apply zAt (m:=pn 0) rfl
 . conv => lhs; whnf
 . conv => lhs; whnf
 . rfl
 . conv => lhs; whnf; arg 1; whnf
 . exact fun _ => rfl
 . first | exact h1
 . exact fun _ => rfl
 . exact fun _ => rfl
 . exact fun _ => rfl
|refine zA ?_
|refine zI ?_
|refine zb ?_
|refine zU ?_
|refine za ?_
|apply aw_1
 conv => whnf
 refine ⟨?_,trivial⟩
|apply s_1
 conv => whnf; arg 1; arg 4; arg 3; whnf
 refine ⟨?_,?_⟩
|apply zt rfl
 . conv => lhs; whnf
 . conv => lhs; whnf; arg 2; whnf
|apply zd rfl
 . conv => lhs; whnf
 . conv => lhs; whnf
 . first | fail
|apply zN
 . conv => lhs; whnf; arg 1; arg 1; whnf
|apply zO
 . conv => lhs; whnf; arg 1; arg 1; whnf
|refine zT (by conv => lhs; whnf) ?_ ?_ <;> intro hb
|refine zj ?_
|refine zZ ?_
|refine zG ?_
|refine zK ?_
|refine zC ?_
|refine zB rfl ?_
|refine zE rfl ?_
|refine zF ?_
|refine zJ ?_
|refine zD ?_
|refine zL ?_
|refine zAh ⟨?_,?_⟩
|refine zAQ ⟨?_,?_⟩
|exact (rfl : _ = V.tup [])
|refine ⟨_,by conv => lhs; whnf; arg 2; whnf,?_⟩; conv => rhs; whnf
|exact trivial
|intro hg)
 exact ⟨rfl,trivial⟩
end Go.Proofs.YtdlnnlglmifceaaGreatDoor
