import Derived.Test.YthjiclhfhjdjpaaGreatDoorRows
import Derived.Test.YthjiclhfhjdjpaaGreatDoorQ29
set_option maxHeartbeats 8000000
set_option maxRecDepth 100000
set_option linter.unusedVariables false
set_option linter.unusedSimpArgs false
namespace Go.Proofs.YthjiclhfhjdjpaaGreatDoor
open Go.RowKit
attribute [local irreducible] wpList Calls Code.wp
mutual
def bulkD : D -> Nat
 | .int _ => 1
 | .bool _ => 1
 | .str s => s.size + 1
 | .list l => bulkL l + 1
 | .obj l => bulkL l + 1
def bulkL : List D -> Nat
 | [] => 0
 | d :: r => bulkD d + bulkL r
 end
def Fits (P : Program) : Nat -> TypeId -> D -> Prop
 | 0,_,_ => False
 | k + 1,t,d =>
   match P.underlying t with
   | some .bool => ∃ b,d = .bool b
   | some (.int _) => ∃ n,d = .int n
   | some .string => ∃ s,d = .str s
   | some (.slice e) => ∃ l,d = .list l /\ ∀ i,i < l.length -> Fits P k e (gD l i)
   | some (.struct fs) => ∃ l,d = .obj l /\ l.length = fs.size /\ ∀ j f,fs[j]? = some f -> Fits P k f.type (gD l j)
   | _ => True
theorem Fits.up {P : Program} : ∀ {k : Nat} {t : TypeId} {d : D},Fits P k t d -> Fits P (k + 1) t d
 | 0,_,_,h => h.elim
 | k + 1,t,d,h => by
   unfold Fits at h |-
   split at h
   . exact h
   . exact h
   . exact h
   . obtain ⟨l,h1,h2⟩:=h
     exact ⟨l,h1,fun i hi => Fits.up (h2 i hi)⟩
   . obtain ⟨l,h1,h2,h3⟩:=h
     exact ⟨l,h1,h2,fun j f hf => Fits.up (h3 j f hf)⟩
   . trivial
theorem bulk_pos {H : Type} (d : DataW H) : 1 <= Rows.uptoBulk d:=by
 cases d with
 | lit x => cases x <;> simp [Rows.uptoBulk]
 | _ => simp [Rows.uptoBulk]
theorem zDw {H : Type} : ∀ (l : List D) (xs : List (DataW H × List MemPlace)),l.length = xs.length -> (∀ i (h : i < xs.length),bulkD (gD l i) <= Rows.uptoBulk (xs[i]'h).1) -> bulkL l <= Rows.uptoBulkAll (xs.map (·.1))
 | [],_,_,_ => by simp [bulkL]
 | d :: r,[],h,_ => by simp at h
 | d :: r,x :: xs,h,hb => by
   have h0:=hb 0 (by simp)
   have h1:=zDw r xs (by simpa using h) fun i hi => by
    have:=hb (i + 1) (by simpa using hi)
    simpa [gD] using this
   simp only [List.map_cons,Rows.uptoBulkAll,bulkL]
   have e : gD (d :: r) 0 = d:=rfl
   rw [e] at h0
   have e2 : (((x :: xs)[0]'(by simp)).1) = x.1:=rfl
   rw [e2] at h0
   omega
theorem zCN {P : Program} {w : World} {H : Type} {enc : TypeId × Value -> H} {held : Bool} {sp : Nat -> Bool} : ∀ {k : Nat} {t : TypeId} {cs : List Value} {x : DataW H × List MemPlace},
 DataW.trod enc P w 0 sp held k t cs = some x -> ∃ d,Rep P w (fun b => b < w.heap.size) k t cs d /\ Fits P k t d /\ bulkD d <= Rows.uptoBulk x.1
 | 0,t,cs,x,h => by simp [DataW.trod] at h
 | k + 1,t,cs,x,h => by
   have hpos:=bulk_pos x.1
   cases hu : P.underlying t with
   | none => exact ⟨default,by unfold Rep; rw [hu]; trivial,by unfold Fits; rw [hu]; trivial,by show bulkD (.obj []) <= _; simpa [bulkD,bulkL] using hpos⟩
   | some ty =>
     cases ty
     case bool =>
      obtain ⟨b,rfl,_⟩:=DataW.trod_bool hu h
      exact ⟨.bool b,.mk_bool hu,by unfold Fits; rw [hu]; exact ⟨b,rfl⟩,by simpa [bulkD] using hpos⟩
     case int q =>
      obtain ⟨n,rfl,_,hw⟩:=DataW.trod_int hu h
      exact ⟨.int n,.mk_int hu hw,by unfold Fits; rw [hu]; exact ⟨n,rfl⟩,by simpa [bulkD] using hpos⟩
     case string =>
      obtain ⟨s,rfl,hx,hs⟩:=DataW.trod_string hu h
      refine ⟨.str s,.mk_str hu hs,by unfold Fits; rw [hu]; exact ⟨s,rfl⟩,?_⟩
      rw [hx]
      simp [bulkD,Rows.uptoBulk]
     case slice e =>
      rcases DataW.trod_slice hu h with ⟨rfl,_⟩ | ⟨a,len,cap,elems,rest,n,hk,rfl,hx,_,hle,hcm,hlen,hel,_⟩
      . exact ⟨.list [],.mk_slice hu rfl (by simp) (by simp [maxLen]) (fun _ => rfl) (Sl.nil _ _ _),by unfold Fits; rw [hu]; exact ⟨[],rfl,fun i hi => by simp at hi⟩,by simpa [bulkD,bulkL] using hpos⟩
      . obtain rfl : n = k:=by omega
        have hx2 : ∀ i,i < len -> ∃ d,(∃ ys,w.cells? 0 (a.add (i * P.cellsOf e)) (P.cellsOf e) = some ys /\ Rep P w (fun b => b < w.heap.size) n e ys d) /\ Fits P n e d /\ ∀ h : i < elems.length,bulkD d <= Rows.uptoBulk (elems[i]'h).1:=fun i hi => by
         have h1:=hel i hi
         rw [List.getElem?_eq_getElem (by omega)] at h1
         obtain ⟨ys,y1,y2⟩:=Option.bind_eq_some_iff.1 h1
         obtain ⟨d,hd,hd2,hd3⟩:=zCN y2
         exact ⟨d,⟨ys,y1,hd⟩,hd2,fun _ => hd3⟩
        obtain ⟨l,hll,hl⟩:=zE1 hx2
        refine ⟨.list l,.mk_slice hu hll.symm (by omega) hcm (fun h => by cases h) ?_,by unfold Fits; rw [hu]; exact ⟨l,rfl,fun i hi => (hl i (by omega)).2.1⟩,?_⟩
        . intro h0 hc
          obtain ⟨b,off,spot⟩:=a
          obtain ⟨⟨ys,y1,_⟩,_⟩:=hl 0 (by omega)
          obtain ⟨_,y3,y4⟩:=World.cells?_some y1
          have y5:=y4 0 hc
          rw [List.getElem?_eq_getElem (by omega)] at y5
          have hspot : spot = none:=by simpa [Addr.add] using World.cell?_spot y5
          subst hspot
          have hbl : b < w.heap.size:=by simpa [Addr.add] using block_lt_of_cell y5
          refine ⟨b,off,rfl,hbl,fun i hi => ?_⟩
          obtain ⟨⟨ys,y1,y2⟩,_⟩:=hl i (by omega)
          obtain ⟨_,y3,y4⟩:=World.cells?_some y1
          refine ⟨ys,y3,fun j u hu => ?_,y2⟩
          have hj : j < P.cellsOf e:=by have:=(List.getElem?_eq_some_iff.1 hu).1; omega
          have:=y4 j hj
          rw [Go.WideShapes.add_plain,Go.WideShapes.add_plain,hu] at this
          exact this
        . have:=zDw l elems (by omega) fun i hi => (hl i (by omega)).2.2 hi
          rw [hx]
          simp only [bulkD,Rows.uptoBulk]
          omega
     case struct fs =>
      obtain ⟨xs,n,hk,hx,hcs,hxs,hf⟩:=DataW.trod_struct hu h
      obtain rfl : n = k:=by omega
      have hx2 : ∀ j,j < fs.size -> ∃ d,(∀ f,fs[j]? = some f -> Rep P w (fun b => b < w.heap.size) n f.type ((cs.drop f.offset).take (P.cellsOf f.type)) d /\ Fits P n f.type d) /\ ∀ h : j < xs.length,bulkD d <= Rows.uptoBulk (xs[j]'h).1:=fun j hj => by
       have h1:=hf j fs[j] (Array.getElem?_eq_getElem hj)
       rw [List.getElem?_eq_getElem (by omega)] at h1
       obtain ⟨d,hd,hd2,hd3⟩:=zCN h1
       refine ⟨d,fun f hf => ?_,fun _ => hd3⟩
       rw [Array.getElem?_eq_getElem hj] at hf
       cases hf; exact ⟨hd,hd2⟩
      obtain ⟨l,hll,hl⟩:=zE1 hx2
      refine ⟨.obj l,.mk_struct hu hcs fun j f hjf => ((hl j (Array.getElem?_eq_some_iff.1 hjf).1).1 f hjf).1,by unfold Fits; rw [hu]; exact ⟨l,rfl,hll,fun j f hjf => ((hl j (Array.getElem?_eq_some_iff.1 hjf).1).1 f hjf).2⟩,?_⟩
      have:=zDw l xs (by omega) fun i hi => (hl i (by omega)).2 hi
      rw [hx]
      simp only [bulkD,Rows.uptoBulk]
      omega
     all_goals exact ⟨default,by unfold Rep; rw [hu]; trivial,by unfold Fits; rw [hu]; trivial,by show bulkD (.obj []) <= _; simpa [bulkD,bulkL] using hpos⟩
end Go.Proofs.YthjiclhfhjdjpaaGreatDoor
namespace Go.Proofs.YthjiclhfhjdjpaaGreatDoor
def commaT : List UInt8:=[44,32]
def i64D (n : Int) : Prop:=-9223372036854775808 <= n /\ n <= 9223372036854775807
def Dp : Nat -> D -> Prop
 | 0,_ => False
 | k + 1,d => ∀ i,i < (d.f 3).l.length -> Dp k (gD (d.f 3).l i)
mutual
def wideD : D -> Prop
 | .int n => i64D n
 | .bool _ => True
 | .str _ => True
 | .list l => wideL l
 | .obj l => wideL l
def wideL : List D -> Prop
 | [] => True
 | d :: r => wideD d /\ wideL r
end
theorem zEO : ∀ {l : List D},wideL l -> ∀ i,wideD (gD l i)
 | [],_,i => by show wideD (.obj []); simp [wideD,wideL]
 | d :: r,h,i => by
   rw [wideL] at h
   cases i with
   | zero => exact h.1
   | succ i => exact zEO h.2 i
theorem wideD.f {d : D} (h : wideD d) (i : Nat) : wideD (d.f i):=by
 cases d with
 | obj l => rw [wideD] at h; exact zEO h i
 | _ => show wideD (.obj []); simp [wideD,wideL]
theorem wideD.l {d : D} (h : wideD d) (i : Nat) : wideD (gD d.l i):=by
 cases d with
 | list l => rw [wideD] at h; exact zEO h i
 | _ => show wideD (.obj []); simp [wideD,wideL]
theorem wideD.n {d : D} (h : wideD d) : i64D d.n:=by
 cases d with
 | int n => rw [wideD] at h; exact h
 | _ => show i64D 0; unfold i64D; omega
def sumN (f : Nat -> Nat) : Nat -> Nat
 | 0 => 0
 | n + 1 => sumN f n + f n
theorem zET {f g : Nat -> Nat} : ∀ {n : Nat},(∀ i,i < n -> f i <= g i) -> sumN f n <= sumN g n
 | 0,_ => Nat.le_refl _
 | n + 1,h => by
   have:=zET (n:=n) fun i hi => h i (by omega)
   have:=h n (by omega)
   simp only [sumN]; omega
theorem zBX (c : Nat) (f : Nat -> Nat) : ∀ n,sumN (fun i => c * f i) n = c * sumN f n
 | 0 => by simp [sumN]
 | n + 1 => by simp only [sumN,zBX c f n,Nat.mul_add]
theorem zFt (f g : Nat -> Nat) : ∀ n,sumN (fun i => f i + g i) n = sumN f n + sumN g n
 | 0 => rfl
 | n + 1 => by simp only [sumN,zFt f g n]; omega
theorem zAU (f : Nat -> Nat) {n m : Nat} (h : n <= m) : sumN f n <= sumN f m:=by
 induction m with
 | zero => have : n = 0:=by omega
           subst this; exact Nat.le_refl _
 | succ m ih =>
   rcases Nat.lt_or_ge n (m + 1) with h' | h'
   . have:=ih (by omega); simp only [sumN]; omega
   . have : n = m + 1:=by omega
     subst this; exact Nat.le_refl _
theorem zGs (f : Nat -> Nat) : ∀ n,sumN f (n + 1) = f 0 + sumN (fun i => f (i + 1)) n
 | 0 => by simp [sumN]
 | n + 1 => by rw [sumN,zGs f n,sumN]; omega
def wD (d : D) : Nat:=bulkD d - 1
theorem zAa (d : D) : 1 <= bulkD d:=by cases d <;> simp [bulkD]
theorem zZ (d : D) : bulkD d = wD d + 1:=by unfold wD; have:=zAa d; omega
theorem z8 (d : D) : d.s.size <= wD d:=by
 cases d with
 | str s => simp [wD,bulkD,D.s]
 | _ => exact Nat.zero_le _
theorem zi (d : D) : bulkL d.l <= wD d:=by cases d <;> simp [wD,bulkD,D.l,bulkL]
theorem zAl : ∀ (l : List D),bulkL l = sumN (fun i => bulkD (gD l i)) l.length
 | [] => rfl
 | d :: r => by
   rw [bulkL,zAl r,List.length_cons,zGs]; rfl
theorem bulkL_out (l : List D) : ∀ n,sumN (fun i => wD (gD l i)) n <= bulkL l:=by
 intro n
 have hout : ∀ i,l.length <= i -> wD (gD l i) = 0:=fun i hi => by
  unfold gD
  rw [List.getD_eq_getElem?_getD,List.getElem?_eq_none hi]; rfl
 have hin : ∀ m,m <= l.length -> sumN (fun i => wD (gD l i)) m <= bulkL l:=fun m hm => by
  rw [zAl]
  refine Nat.le_trans (zAU _ hm) (zET fun i hi => ?_)
  have:=zZ (gD l i); omega
 rcases Nat.le_total n l.length with h | h
 . exact hin n h
 . obtain ⟨m,rfl⟩:=Nat.exists_eq_add_of_le h
   clear h
   induction m with
   | zero => exact hin _ (Nat.le_refl _)
   | succ m ih =>
     rw [<- Nat.add_assoc,sumN,hout (l.length + m) (by omega)]
     omega
theorem zAL (d : D) (n : Nat) : sumN (fun i => wD (d.f i)) n <= wD d:=by
 cases d with
 | obj l => exact bulkL_out l n
 | _ =>
   refine Nat.le_trans (zET (g:=fun _ => 0) fun i _ => ?_) (Nat.le_trans (Nat.le_of_eq ?_) (Nat.zero_le _))
   . show wD (.obj []) <= 0
     simp [wD,bulkD,bulkL]
   . induction n with
     | zero => rfl
     | succ n ih => simp only [sumN,ih]
theorem wD_f (d : D) (i : Nat) : wD (d.f i) <= wD d:=by
 have:=zAL d (i + 1)
 simp only [sumN] at this; omega
theorem zk {l : List D} {i : Nat} (h : i < l.length) : bulkD (gD l i) <= bulkL l:=by
 rw [zAl]
 have:=zAU (fun i => bulkD (gD l i)) (show i + 1 <= l.length by omega)
 simp only [sumN] at this; omega
theorem zBl {d : D} {j i : Nat} (h : i < (d.f j).l.length) : bulkD (gD (d.f j).l i) <= wD d:=by
 have h1:=zk h
 have h2:=zi (d.f j)
 have h3:=wD_f d j
 omega
theorem zBh : ∀ (k : Nat) (d : D),bulkD d <= k -> Dp k d
 | 0,d,h => by have:=zAa d; omega
 | k + 1,d,h => fun i hi => zBh k _ (by have:=zBl hi; have:=zZ d; omega)
def valT : Nat -> D -> List UInt8
 | 0,_ => []
 | k + 1,d =>
   if (d.f 0).n = 1 then (if (d.f 1).n = 1 then [116,114,117,101] else [102,97,108,115,101])
   else if (d.f 0).n = 2 then Lib.itoa (d.f 1).n
   else if (d.f 0).n = 3 then zA2 (tx (d.f 2).s)
   else if (d.f 0).n = 4 then tx (d.f 2).s
   else if (d.f 0).n = 7 then [36] ++ tx (d.f 2).s
   else if (d.f 0).n = 5 then [91] ++ Lib.join ((List.range (d.f 3).l.length).map fun i => valT k (gD (d.f 3).l i)) commaT ++ [93]
   else if (d.f 0).n = 6 then [123] ++ Lib.join ((List.range (min (d.f 4).l.length (d.f 3).l.length)).map fun i => tx (gD (d.f 4).l i).s ++ [58,32] ++ valT k (gD (d.f 3).l i)) commaT ++ [125]
   else [110,117,108,108]
theorem zER : ∀ {k m : Nat} {d : D},Dp k d -> k <= m -> valT m d = valT k d
 | 0,_,_,h,_ => h.elim
 | k + 1,0,_,_,hm => by omega
 | k + 1,m + 1,d,h,hm => by
   have hk : ∀ i,i < (d.f 3).l.length -> valT m (gD (d.f 3).l i) = valT k (gD (d.f 3).l i):=fun i hi => zER (h i hi) (by omega)
   unfold valT
   have e1 : (List.range (d.f 3).l.length).map (fun i => valT m (gD (d.f 3).l i)) = (List.range (d.f 3).l.length).map (fun i => valT k (gD (d.f 3).l i)):=
    List.map_congr_left fun i hi => hk i (List.mem_range.1 hi)
   have e2 : (List.range (min (d.f 4).l.length (d.f 3).l.length)).map (fun i => tx (gD (d.f 4).l i).s ++ [58,32] ++ valT m (gD (d.f 3).l i)) = (List.range (min (d.f 4).l.length (d.f 3).l.length)).map (fun i => tx (gD (d.f 4).l i).s ++ [58,32] ++ valT k (gD (d.f 3).l i)):=
    List.map_congr_left fun i hi => by rw [hk i (by have:=List.mem_range.1 hi; omega)]
   rw [e1,e2]
theorem join_le (sep : List UInt8) : ∀ (ls : List (List UInt8)),(Lib.join ls sep).length <= (ls.map fun l => l.length + sep.length).sum:=by
 have tail : ∀ (ls : List (List UInt8)),(Lib.joinTail sep ls).length = (ls.map fun l => l.length + sep.length).sum:=fun ls => by
  induction ls with
  | nil => rfl
  | cons l r ih =>
    unfold Lib.joinTail at ih |-
    simp only [List.map_cons,List.flatten_cons,List.length_append,List.sum_cons,ih]
    omega
 intro ls
 cases ls with
 | nil => simp [Lib.join_nil]
 | cons x r =>
   rw [Lib.join_cons,List.length_append,tail]
   simp only [List.map_cons,List.sum_cons]
   omega
theorem zHA (f : Nat -> Nat) : ∀ n,((List.range n).map f).sum = sumN f n
 | 0 => rfl
 | n + 1 => by simp [List.range_succ,zHA f n,sumN]
theorem zAw (n : Nat) (f : Nat -> List UInt8) (sep : List UInt8) (b : Nat -> Nat) (h : ∀ i,i < n -> (f i).length + sep.length <= b i) : (Lib.join ((List.range n).map f) sep).length <= sumN b n:=by
 refine Nat.le_trans (join_le _ _) ?_
 rw [List.map_map,zHA]
 exact zET h
theorem quote_len (l : List UInt8) : (zA2 l).length <= 6 * l.length + 2:=by
 have:=zC5 l
 simp only [zA2,List.length_append,List.length_cons,List.length_nil]; omega
theorem zBG : ∀ (k : Nat) (d : D),wideD d -> (valT k d).length + 2 <= 24 * bulkD d
 | 0,d,_ => by have:=zAa d; simp [valT]; omega
 | k + 1,d,hw => by
   have h1:=(hw.f 1).n
   have hd:=zZ d
   have hf:=zAL d 5
   simp only [sumN] at hf
   have h2:=z8 (d.f 2)
   have h3:=zi (d.f 3)
   have h4:=zi (d.f 4)
   have t2:=zAG (d.f 2).s
   unfold valT
   split
   . split <;> simp <;> omega
   split
   . have:=zHO _ h1.1 h1.2; omega
   split
   . have:=quote_len (tx (d.f 2).s); omega
   split
   . omega
   split
   . simp only [List.length_append,List.length_cons,List.length_nil]; omega
   split
   . have:=zAw (d.f 3).l.length (fun i => valT k (gD (d.f 3).l i)) commaT (fun i => 24 * bulkD (gD (d.f 3).l i)) fun i hi => zBG k _ ((hw.f 3).l i)
     rw [zBX,<- zAl] at this
     simp only [List.length_append,List.length_cons,List.length_nil]; omega
   split
   . have:=zAw (min (d.f 4).l.length (d.f 3).l.length) (fun i => tx (gD (d.f 4).l i).s ++ [58,32] ++ valT k (gD (d.f 3).l i)) commaT (fun i => 24 * bulkD (gD (d.f 4).l i) + 24 * bulkD (gD (d.f 3).l i)) fun i hi => by
      have a:=zBG k (gD (d.f 3).l i) ((hw.f 3).l i)
      have b:=z8 (gD (d.f 4).l i)
      have c:=zZ (gD (d.f 4).l i)
      have e:=zAG (gD (d.f 4).l i).s
      have e' : commaT.length = 2:=rfl
      simp only [List.length_append,List.length_cons,List.length_nil]
      omega
     rw [zFt,zBX,zBX] at this
     have a1:=zAU (fun i => bulkD (gD (d.f 4).l i)) (show min (d.f 4).l.length (d.f 3).l.length <= (d.f 4).l.length by omega)
     have a2:=zAU (fun i => bulkD (gD (d.f 3).l i)) (show min (d.f 4).l.length (d.f 3).l.length <= (d.f 3).l.length by omega)
     rw [<- zAl] at a1 a2
     simp only [List.length_append,List.length_cons,List.length_nil]; omega
   . simp; omega
def argT (k : Nat) (a : D) : List UInt8:=tx (a.f 0).s ++ [58,32] ++ valT k (a.f 1)
def zGb (k : Nat) (l : List D) : List UInt8:=Lib.join (l.map (argT k)) commaT
def parT (k : Nat) (l : List D) : List UInt8:=if l.length = 0 then [] else [40] ++ zGb k l ++ [41]
def dirT (k : Nat) (x : D) : List UInt8:=[64] ++ tx (x.f 0).s ++ parT k (x.f 1).l
def dirsT (k : Nat) (l : List D) : List UInt8:=Lib.join (l.map (dirT k)) [32]
def zBe (k : Nat) (l : List D) : List UInt8:=if l.length = 0 then [] else [32] ++ dirsT k l
theorem zC3 (l : List D) (f : D -> List UInt8) (sep : List UInt8) (c : Nat) (h : ∀ i,i < l.length -> (f (gD l i)).length + sep.length <= c * bulkD (gD l i)) : (Lib.join (l.map f) sep).length <= c * bulkL l:=by
 have e : l.map f = (List.range l.length).map fun i => f (gD l i):=by
  apply List.ext_getElem (by simp)
  intro i h1 h2
  simp [zAx (l:=l) (i:=i) (by simpa using h1)]
 rw [e,zAl,<- zBX]
 exact zAw _ _ _ _ h
theorem argT_len (k : Nat) (a : D) (h : wideD a) : (argT k a).length + 2 <= 28 * bulkD a:=by
 have h1:=zBG k (a.f 1) (h.f 1)
 have h2:=zZ (a.f 1)
 have h3:=zZ a
 have h4:=z8 (a.f 0)
 have h5:=zAL a 2
 have h6:=zAG (a.f 0).s
 simp only [sumN] at h5
 simp only [argT,List.length_append,List.length_cons,List.length_nil]
 omega
theorem zE4 (k : Nat) (l : List D) (h : ∀ i,wideD (gD l i)) : (zGb k l).length <= 28 * bulkL l:=zC3 l _ _ _ fun i _ => argT_len k _ (h i)
theorem zF9 (k : Nat) (l : List D) (h : ∀ i,wideD (gD l i)) : (parT k l).length <= 28 * bulkL l + 2:=by
 have:=zE4 k l h
 unfold parT
 split
 . simp
 . simp only [List.length_append,List.length_cons,List.length_nil]; omega
theorem dirT_len (k : Nat) (x : D) (h : wideD x) : (dirT k x).length + 2 <= 32 * bulkD x:=by
 have h1:=zF9 k (x.f 1).l fun i => (h.f 1).l i
 have h3:=zZ x
 have h4:=z8 (x.f 0)
 have h5:=zAL x 2
 have h6:=zi (x.f 1)
 have h7:=zAG (x.f 0).s
 simp only [sumN] at h5
 simp only [dirT,List.length_append,List.length_cons,List.length_nil]
 omega
theorem zEw (k : Nat) (l : List D) (h : ∀ i,wideD (gD l i)) : (dirsT k l).length <= 32 * bulkL l:=zC3 l _ _ _ fun i _ => by have:=dirT_len k _ (h i); simp only [List.length_cons,List.length_nil]; omega
theorem zGr (k : Nat) (l : List D) (h : ∀ i,wideD (gD l i)) : (zBe k l).length <= 32 * bulkL l + 1:=by
 have:=zEw k l h
 unfold zBe
 split
 . simp
 . simp only [List.length_append,List.length_cons,List.length_nil]; omega
theorem joinSnoc (ls : List (List UInt8)) (l sep : List UInt8) (h : ls ≠ []) : Lib.join (ls ++ [l]) sep = Lib.join ls sep ++ sep ++ l:=by
 cases ls with
 | nil => exact absurd rfl h
 | cons x r =>
   rw [List.cons_append,Lib.join_cons,Lib.join_cons]
   simp [Lib.joinTail]
def maxN (f : Nat -> Nat) : Nat -> Nat
 | 0 => 0
 | n + 1 => max (maxN f n) (f n)
def sizeR : Nat -> D -> Nat
 | 0,_ => 1
 | k + 1,d => 1 + sumN (fun i => sizeR k (gD (d.f 3).l i)) (d.f 3).l.length
def depthR : Nat -> D -> Nat
 | 0,_ => 1
 | k + 1,d => maxN (fun i => depthR k (gD (d.f 3).l i)) (d.f 3).l.length + 1
def strsR (d : D) : List (List UInt8):=(d.f 4).l.map fun x => x.s.data.toList
def enumR (s : ByteArray) : Bool:=nameB s && !(s.data.toList == [116,114,117,101]) && !(s.data.toList == [102,97,108,115,101]) && !(s.data.toList == [110,117,108,108])
def nodeK (n i : Int) (t : Bool) (a b : Nat) (x v ks y : Bool) : Bool:=
 (n == 1 || n == 2 || i == 0) && (n == 3 || n == 4 || n == 7 || t) && (n == 6 || a == 0) && (n == 6 || n == 5 || b == 0) && decide (0 <= n /\ n <= 7) && (!(n == 1) || i == 0 || i == 1) && (!(n == 4) || x) && (!(n == 7) || v) && (!(n == 6) || (ks && a == b && y))
def nodeL (d : D) : Bool:=
 nodeK (d.f 0).n (d.f 1).n ((d.f 2).s.data.toList == []) (d.f 4).l.length (d.f 3).l.length (enumR (d.f 2).s) (nameB (d.f 2).s) (!((d.f 4).l.any fun x => !nameB x.s)) (decide (strsR d).Nodup)
def everyL : Nat -> D -> Bool
 | 0,_ => false
 | k + 1,d => nodeL d && !((d.f 3).l.any fun x => !everyL k x)
def litR (d : D) : Bool:=decide (sizeR (bulkD d) d <= 4096) && decide (depthR (bulkD d) d <= 24) && everyL (bulkD d) d
def bareR : Nat -> D -> Bool
 | 0,_ => false
 | k + 1,d => !((d.f 0).n == 7) && !((d.f 3).l.any fun x => !bareR k x)
def argR (d : D) : Bool:=nameB (d.f 0).s && litR (d.f 1)
def argsR (l : List D) : Bool:=decide (l.length <= 16) && !(l.any fun x => !argR x)
def dirR (d : D) : Bool:=nameB (d.f 0).s && argsR (d.f 1).l
def dirsR (l : List D) : Bool:=decide (l.length <= 16) && !(l.any fun x => !dirR x)
def titleR (s : ByteArray) : Bool:=nameB s && !(s.data.toList == [111,110])
def noneS (s : ByteArray) : Bool:=s.data.toList == []
def selsR (sel : D -> Bool) (l : List D) (least lv : Nat) : Bool:=decide (least <= l.length) && decide (l.length <= 64) && (decide (l.length = 0) || decide (lv <= 24)) && !(l.any fun x => !sel x)
def selR : Nat -> Nat -> D -> Bool
 | 0,_,_ => false
 | k + 1,lv,d => argsR (d.f 4).l && dirsR (d.f 5).l &&
   (if (d.f 0).n = 1 then noneS (d.f 3).s && nameB (d.f 2).s && (noneS (d.f 1).s || nameB (d.f 1).s) && selsR (selR k (lv + 1)) (d.f 6).l 0 (lv + 1)
   else if (d.f 0).n = 2 then noneS (d.f 3).s && noneS (d.f 1).s && decide ((d.f 4).l.length = 0) && decide ((d.f 6).l.length = 0) && titleR (d.f 2).s
   else if (d.f 0).n = 3 then noneS (d.f 1).s && noneS (d.f 2).s && decide ((d.f 4).l.length = 0) && (noneS (d.f 3).s || nameB (d.f 3).s) && selsR (selR k (lv + 1)) (d.f 6).l 1 (lv + 1)
   else false)
def setR (l : List D) : Bool:=selsR (selR (bulkL l) 1) l 1 1
def zCp : List Int -> Bool
 | [] => true
 | [w] => w == 1 || w == 2
 | w :: v :: r => (w == 1 || w == 2) && !(w == 1 && v == 1) && zCp (v :: r)
def refR (d : D) : Bool:=nameB (d.f 0).s && decide ((d.f 1).l.length <= 24) && zCp ((d.f 1).l.map D.n)
def varR (d : D) : Bool:=nameB (d.f 0).s && refR (d.f 1) &&
 (if (d.f 2).b = true then litR (d.f 3) && bareR (bulkD (d.f 3)) (d.f 3)
 else (((d.f 3).f 0).n == 0 && ((d.f 3).f 1).n == 0 && noneS ((d.f 3).f 2).s && decide (((d.f 3).f 3).l.length = 0)) && decide (((d.f 3).f 4).l.length = 0))
def opR (d : D) : Bool:=decide (1 <= (d.f 0).n /\ (d.f 0).n <= 3) && (noneS (d.f 1).s || nameB (d.f 1).s) && decide ((d.f 2).l.length <= 16) && !((d.f 2).l.any fun x => !varR x) && setR (d.f 3).l
def fragR (d : D) : Bool:=titleR (d.f 0).s && nameB (d.f 1).s && setR (d.f 2).l
def queR (d : D) : Bool:=decide (1 <= (d.f 0).l.length + (d.f 1).l.length /\ (d.f 0).l.length + (d.f 1).l.length <= 64) && (d.f 0).l.all opR && !((d.f 1).l.any fun x => !fragR x)
end Go.Proofs.YthjiclhfhjdjpaaGreatDoor
namespace Go.Proofs.YthjiclhfhjdjpaaGreatDoor
open Go.RowKit
set_option linter.unusedSectionVars false
section
variable {X : Cx} {nn : Nat} {st : Vst nn} {o : Oper} {ops : Array Oper} {l : List Oper} {dst : Option Tmp} {KK : Vst nn -> Prop}
theorem s_max {k : IntKind} {a b : Int} {x y : Operand} {ts : Array TypeId} (hg : o.guard = none) (ho : o.op = .call { callee:=.builtin .max,args:=#[x,y],argTypes:=ts }) (hd : o.dst = dst) (hx : ev st x = .c (.int k a)) (hy : ev st y = .c (.int k b)) (hK : AWo X ops l (st.put dst (.c (.int k (if a < b then b else a)))) KK) : AWo X ops (o :: l) st KK:=by
 refine zAD hg ?_
 intro s w a' hI N Q hP hN
 have r1:=hI.ev x
 have r2:=hI.ev y
 rw [hx,rel] at r1
 rw [hy,rel] at r2
 have h1 : (execOp a'.eval o).run X.P w = .ok (.value (.int k (if a < b then b else a))) w:=by
  simp [execOp,ho,resolve,invoke,builtin,Builtin.max_,Builtin.max2,r1.1,r2.1]
 unfold Oper.wp
 rw [h1,Oper.upon_value]
 refine hN _ _ _ _ (hI.put o.dst ?_) (by rw [hd]; exact hK)
 rw [rel]
 refine ⟨rfl,?_⟩
 split
 . exact r2.2
 . exact r1.2
end
attribute [local irreducible] wpList Calls Code.wp AW AWo OpOk seqK zx zAI loopK endK AC zm Yld Sub
attribute [local irreducible] ACB ACX ACE absLexG YldG
structure BkIn (d : D) (B : Nat) : Prop where
 text : (d.f 2).s.size <= B
 keys : (d.f 4).l.length <= B
 items : (d.f 3).l.length <= B
 at_ : ∀ i,i < (d.f 3).l.length -> bulkD (gD (d.f 3).l i) < bulkD d
 key : ∀ i,i < (d.f 4).l.length -> (gD (d.f 4).l i).s.size <= B
theorem zAA : ∀ l : List D,l.length <= bulkL l
 | [] => Nat.le_refl _
 | x :: r => by
   have:=zAA r
   have:=zAa x
   simp only [bulkL,List.length_cons]; omega
theorem zIo {d : D} {B : Nat} (h : bulkD d <= B) : BkIn d B:=by
 have h0:=zZ d
 have h2:=z8 (d.f 2)
 have h2':=wD_f d 2
 have h3:=zi (d.f 3)
 have h3':=wD_f d 3
 have h4:=zi (d.f 4)
 have h4':=wD_f d 4
 have l3:=zAA (d.f 3).l
 have l4:=zAA (d.f 4).l
 refine ⟨by omega,by omega,by omega,fun i hi => by have:=zBl hi; omega,fun i hi => ?_⟩
 have:=zBl hi
 have:=z8 (gD (d.f 4).l i)
 have:=zZ (gD (d.f 4).l i)
 omega
theorem zFy : ∀ (k : Nat) (d : D),sizeR k d <= bulkD d
 | 0,d => zAa d
 | k + 1,d => by
   have h:=zET (f:=fun i => sizeR k (gD (d.f 3).l i)) (g:=fun i => bulkD (gD (d.f 3).l i)) (n:=(d.f 3).l.length) fun i _ => zFy k _
   rw [<- zAl] at h
   have h3:=zi (d.f 3)
   have h3':=wD_f d 3
   have h0:=zZ d
   show 1 + sumN (fun i => sizeR k (gD (d.f 3).l i)) (d.f 3).l.length <= _
   omega
theorem maxN_le {g : Nat -> Nat} {B : Nat} : ∀ {n : Nat},(∀ i,i < n -> g i <= B) -> maxN g n <= B
 | 0,_ => Nat.zero_le _
 | n + 1,h => Nat.max_le.2 ⟨maxN_le fun i hi => h i (by omega),h n (by omega)⟩
theorem zHe : ∀ (k : Nat) (d : D),depthR k d <= bulkD d
 | 0,d => zAa d
 | k + 1,d => by
   have h : maxN (fun i => depthR k (gD (d.f 3).l i)) (d.f 3).l.length <= bulkL (d.f 3).l:=maxN_le fun i hi => Nat.le_trans (zHe k _) (zk hi)
   have h3:=zi (d.f 3)
   have h3':=wD_f d 3
   have h0:=zZ d
   show maxN (fun i => depthR k (gD (d.f 3).l i)) (d.f 3).l.length + 1 <= _
   omega
theorem max_i (a b : Nat) : (if (a : Int) < (b : Int) then (b : Int) else (a : Int)) = ((max a b : Nat) : Int):=by
 split <;> omega
end Go.Proofs.YthjiclhfhjdjpaaGreatDoor
namespace Go.Proofs.YthjiclhfhjdjpaaGreatDoor
open Go.RowKit
set_option linter.unusedSectionVars false
attribute [local irreducible] wpList Calls Code.wp AW AWo OpOk seqK zx zAI loopK endK AC zm Yld Sub
attribute [local irreducible] ACB ACX ACE absLexG YldG
theorem zFH (s : ByteArray) (l : List UInt8) : (s.toList == (⟨l.toArray⟩ : ByteArray).toList) = (s.data.toList == l):=by
 rw [Lib.toList_data,Lib.toList_data]
structure SelB (d : D) (B : Nat) : Prop where
 s1 : (d.f 1).s.size <= B
 s2 : (d.f 2).s.size <= B
 s3 : (d.f 3).s.size <= B
 l4 : bulkL (d.f 4).l <= B
 l5 : bulkL (d.f 5).l <= B
 l6 : bulkL (d.f 6).l < bulkD d
 l6B : bulkL (d.f 6).l <= B
theorem sel_b {d : D} {B : Nat} (h : bulkD d <= B) : SelB d B:=by
 have h0:=zZ d
 have q:=fun i => wD_f d i
 have q1:=q 1; have q2:=q 2; have q3:=q 3; have q4:=q 4; have q5:=q 5; have q6:=q 6
 have s1:=z8 (d.f 1); have s2:=z8 (d.f 2); have s3:=z8 (d.f 3)
 have l4:=zi (d.f 4); have l5:=zi (d.f 5); have l6:=zi (d.f 6)
 exact ⟨by omega,by omega,by omega,by omega,by omega,by omega,by omega⟩
theorem zEH (s : ByteArray) : (s.toList == ({ data:=#[] } : ByteArray).toList) = noneS s:=zFH s []
end Go.Proofs.YthjiclhfhjdjpaaGreatDoor
namespace Go.Proofs.YthjiclhfhjdjpaaGreatDoor
open Go.RowKit
attribute [local irreducible] wpList Calls Code.wp
section
variable {P : Program} {s : Sg} {w w' : World} {pas : Nat -> Prop} {B : Nat} {rs : Nat -> Option Res}
theorem zIU (h : MemOk P pas B rs s w) (cur : Array Value) (e : TypeId) (n : Nat) : Keeps s.F (fun b o => s.F b o \/ (b = w.heap.size /\ o < n)) w (w.alloc (.cells cur e)):=fun b o hF =>
 ⟨(zAq (w:=w) (h.fx b o hF)).trans rfl,.inl hF⟩
theorem MemOk.tokNew0 (h : MemOk P pas B rs s w) (hB : B <= w.heap.size) {k : Nat} (X : Nat -> Prop) (hX : ∀ q,X q -> q = k) (hf : ∀ q ρ,q ≠ k -> rs q = some ρ -> ∀ n,X n -> ρ.free n = true) {cur : Array Value} {e : TypeId} {c m : Nat} (hc : cur.size = c * P.cellsOf e) (hm : m <= c) (hmx : c <= maxLen)
 (hx : Ext X s w (s.tok k w.heap.size (m * P.cellsOf e) (.slice (some ⟨w.heap.size,0,none⟩) m c) m) (w.alloc (.cells cur e))) :
 MemOk P pas B (updR rs k (.tok e m)) (s.tok k w.heap.size (m * P.cellsOf e) (.slice (some ⟨w.heap.size,0,none⟩) m c) m) (w.alloc (.cells cur e)) where
 fx b o hF:=by
  rcases hF with hF | ⟨rfl,hF⟩
  . rw [zAq (w:=w) (h.fx b o hF)]; exact h.fx b o hF
  . have : o < cur.size:=by rw [hc]; exact Nat.lt_of_lt_of_le hF (Nat.mul_le_mul_right _ hm)
    have h2:=zBc (w:=w) (t:=e) (Array.getElem?_eq_getElem this)
    exact Option.isSome_iff_exists.2 ⟨_,h2⟩
 ho q ρ hq:=by
  by_cases e' : q = k
  . subst e'
    simp only [updR,if_true] at hq
    cases hq
    refine ⟨by simp [Sg.tok],.inr ⟨w.heap.size,c,cur,by simp [Sg.tok],by simp [Sg.tok],heap_alloc_new w _,hm,hmx,hc,fun o ho hF => ?_⟩⟩
    rcases hF with hF | ⟨_,hF⟩
    . obtain ⟨v,hv⟩:=Option.isSome_iff_exists.1 (h.fx _ o hF)
      have:=block_lt_of_cell hv
      simp at this
    . omega
  . simp only [updR,if_neg e'] at hq
    refine (h.ho q ρ hq).keep hx (fun hXq => e' (hX q hXq)) (by simp [Sg.tok,e']) (by simp [Sg.tok,e']) (fun n hn => hf q ρ e' hq n hn) (fun b hb => Below.heap_alloc w _ _ ((h.ho q ρ hq).lt hb)) (fun b o hb hF => ?_)
    rcases hF with hF | ⟨rfl,_⟩
    . exact hF
    . have:=(h.ho q ρ hq).lt hb; omega
 bs q ρ b hq hb:=by
  by_cases e' : q = k
  . subst e'
    simp only [updR,if_true] at hq
    cases hq
    simp only [Sg.bk,Sg.tok,if_true] at hb
    cases hb; exact .inl hB
  . simp only [updR,if_neg e'] at hq
    rw [zBF e'] at hb
    exact h.bs q ρ b hq hb
 dj q r ρ ρ' b hq hr hqb hrb:=by
  by_cases e1 : q = k <;> by_cases e2 : r = k
  . rw [e1,e2]
  . simp only [updR,if_neg e2] at hr
    rw [zBF e2] at hrb
    subst e1
    simp only [updR,if_true] at hq
    cases hq
    simp only [Sg.bk,Sg.tok,if_true] at hqb
    cases hqb
    have:=(h.ho r ρ' hr).lt hrb
    omega
  . simp only [updR,if_neg e1] at hq
    rw [zBF e1] at hqb
    subst e2
    simp only [updR,if_true] at hr
    cases hr
    simp only [Sg.bk,Sg.tok,if_true] at hrb
    cases hrb
    have:=(h.ho q ρ hq).lt hqb
    omega
  . simp only [updR,if_neg e1] at hq
    simp only [updR,if_neg e2] at hr
    rw [zBF e1] at hqb
    rw [zBF e2] at hrb
    exact h.dj q r ρ ρ' b hq hr hqb hrb
end
section
variable {X : Cx} {nn : Nat} {st : Vst nn} {o : Oper} {K : Vst nn -> Prop}
theorem opOk_lit0 {t e : TypeId} {by_ d : Nat} (ho : o.op = .buildSlice t 0 #[]) (hd : o.dst = some d) (hdl : Nat.ble d 999999 = true) (he : zy X.P t = some (e,by_))
 (hK : K (((st.kill d).res d (.tok e 0)).put (some d) (.own d e []))) : OpOk X o st K:=by
 intro s w a hI N Q hP hN
 obtain ⟨hu,hlay,i,z,hi,hz,hb,hpos,hzs,hsz⟩:=zCX he
 have ha : (Instr.buildSlice t 0 #[]).run X.P w = .ok (.slice (some ⟨w.heap.size,0,none⟩) 0 0) (w.alloc (.cells #[] e)):=by
  simp [Instr.buildSlice,run_underlying hu,sizeOf,typeInfo,hi,Instr.fill,newRow]
  have hr0 : Array.map (fun _ : Nat => (default : Value)) (Array.range 0) = #[]:=by apply Array.ext <;> simp
  rw [hr0]
 unfold Oper.wp
 have hrun : (execOp a.eval o).run X.P w = .ok (.value (.slice (some ⟨w.heap.size,0,none⟩) 0 0)) (w.alloc (.cells #[] e)):=by simp [execOp,ho,ha]
 rw [hrun,Oper.upon_value,hd]
 have hI':=hI.kill d
 have hkeep : Keeps s.F (s.tok d w.heap.size (0 * X.P.cellsOf e) (.slice (some ⟨w.heap.size,0,none⟩) 0 0) 0).F w (w.alloc (.cells #[] e)):=zIU hI.mem _ e _
 have hext : Ext (fun m => m = d) s w (s.tok d w.heap.size (0 * X.P.cellsOf e) (.slice (some ⟨w.heap.size,0,none⟩) 0 0) 0) (w.alloc (.cells #[] e)):=
  ⟨hkeep,fun _ _ => rfl,fun q hq => .inl (by simp only [Sg.tok]; rw [if_neg hq])⟩
 have hmem:=hI'.mem.tokNew0 hI.base (k:=d) (fun m => m = d) (fun _ h => h) free_kill (cur:=#[]) (c:=0) (m:=0) (by simp) (Nat.le_refl _) (Nat.zero_le _) hext
 refine hN _ _ _ _ (Inv.put (st:=(st.kill d).res d (.tok e 0)) (v:=.own d e []) ⟨hI.sz,fun i hi => ?_,hI.df,hI.fr.trans (zDV w _ _) (q:=fun _ => False) (fun _ h => h.elim),hI.kp.trans hkeep,fun b o hb hnp hF => ?_,hmem,hI.pe.ext hext fun m hm => by subst hm; exact Nat.le_of_ble_eq_true hdl⟩ (some d) ?_) hK
 . exact rel.ext hext _ _ (zAv (hI.tm i hi)).1 fun n hn => by subst hn; exact (zAv (hI.tm i hi)).2
 . rcases hF with hF | ⟨rfl,_⟩
   . exact hI.nf b o hb hnp hF
   . have:=hI.base; omega
 . rw [rel]
   exact ⟨zBf (l:=[]) (Nat.le_refl _) (Nat.zero_le _) fun k hk => absurd hk (Nat.not_lt_zero k),by simp [Sg.tok],fun _ => by simp [Sg.tok]⟩
theorem zD9 {t e : TypeId} {by_ k : Nat} {x y : Operand} {l : List D} (ho : o.op = .call { callee:=.builtin .append,args:=#[x,y],argTypes:=#[t,t] }) (he : zy X.P t = some (e,by_))
 (hx : ev st x = .own k e l) (hy : (ev st y).out = .sl e []) (hK : K (st.put o.dst (.own k e l))) : OpOk X o st K:=by
 intro s w a hI N Q hP hN
 obtain ⟨hu,hlay,i,z,hi,hz,hb,hsp,hzs,hsz⟩:=zCX he
 have hxe:=hI.ev x
 rw [hx,rel] at hxe
 obtain ⟨k1,A,c1,hA,hc1,-,-,-⟩:=id hxe.1
 unfold Oper.wp
 have hye:=rel.out _ _ (hI.ev y)
 rw [hy,rel] at hye
 obtain ⟨k2,A2,c2,hy2,-,-,-,-⟩:=hye
 have hrun : (Builtin.append_ #[t,t] o.type #[a.eval x,a.eval y]).run X.P w = .ok (a.eval x) w:=by
  rw [hA,hy2]
  have hsz : (sizeOf e).run X.P w = .ok (X.P.cellsOf e) w:=by simp [sizeOf,typeInfo,hi,hsz]
  have hld : ∀ q,(loadCells q 0).run X.P w = .ok #[] w:=fun q => by simp [loadCells,loadCellsFrom]
  cases A <;> cases A2 <;> simp [Builtin.append_,run_underlying hu,hsz,Builtin.lenOf,Builtin.firstCells,storeCells,hld,Nat.not_lt.2 hc1]
 rw [zBL ho hrun,Oper.upon_value]
 refine hN _ _ _ _ (hI.put o.dst ?_) hK
 rw [rel]
 exact hxe
theorem res_same0 {k : Nat} {ρ : Res} (h : st.rs k = some ρ) : st.res k ρ = st:=by
 have e : (st.res k ρ).rs = st.rs:=funext fun m => by
  show updR st.rs k ρ m = _
  unfold updR
  split
  . rename_i e; rw [e,h]
  . rfl
 calc st.res k ρ = ⟨(st.res k ρ).tm,(st.res k ρ).rs⟩:=rfl
  _ = st:=by rw [e]; rfl
theorem zHI {t e : TypeId} {by_ k : Nat} {x y : Operand} {l l2 : List D} (ho : o.op = .call { callee:=.builtin .append,args:=#[x,y],argTypes:=#[t,t] }) (he : zy X.P t = some (e,by_))
 (hleaf : ∀ d,(cellsV X.P 12 e d).all V.leaf = true) (hx : ev st x = .own k e l) (hr : st.rs k = some (.tok e l.length)) (hy : (ev st y).out = .sl e l2) (hlen : l.length + l2.length <= maxLen) (hby : (l.length + l2.length) * by_ <= 140737488355328)
 (hK : K ((st.res k (.tok e (l.length + l2.length))).put o.dst (.own k e (l ++ l2)))) : OpOk X o st K:=by
 rcases Nat.eq_zero_or_pos l2.length with h0 | h0
 . have hl0 : l2 = []:=List.eq_nil_of_length_eq_zero h0
   subst hl0
   rw [List.length_nil,Nat.add_zero,res_same0 hr,List.append_nil] at hK
   exact zD9 ho he hx hy hK
 . exact zAt ho he hleaf hx hr hy h0 hlen hby hK
end
section
variable {X : Cx} {nn : Nat} {st : Vst nn} {ops : Array Oper} {o : Oper}
def Fresh (st : Vst nn) (d : Nat) : Prop:=(∀ i,(st.tm i).free d = true) /\ ∀ m ρ,st.rs m = some ρ -> m ≠ d /\ ρ.free d = true
theorem zFU {d : Nat} (h : Fresh st d) : st.kill d = st:=by
 have e1 : (st.kill d).tm = st.tm:=funext fun i => by
  show zIT d (st.tm i) = _
  unfold zIT; rw [if_pos (h.1 i)]
 have e2 : (st.kill d).rs = st.rs:=funext fun m => by
  unfold Vst.kill
  dsimp only
  cases hm : st.rs m with
  | none => split <;> rfl
  | some ρ =>
    have:=h.2 m ρ hm
    rw [if_neg this.1]
    simp [this.2]
 calc st.kill d = ⟨(st.kill d).tm,(st.kill d).rs⟩:=rfl
  _ = st:=by rw [e1,e2]
theorem zIQ {t : TypeId} {d : Nat} {vs : List V} {K : Vst nn -> Prop} (ho : o.op = .alloc t) (hd : o.dst = some d) (hdl : Nat.ble d 999999 = true) (hc : zE7 X.P t = some vs) (hf : freeL d vs = true) (hfr : Fresh st d)
 (hK : K ((st.res d (.box t vs)).put (some d) (.bx d 0))) : OpOk X o st K:=by
 refine zFQ ho hd hdl hc hf ?_
 rw [zFU hfr]; exact hK
theorem zHR {d : Nat} {t : Option Tmp} {v : V} {u : List (Nat × Res)} (h : Fresh st d) (hv : v.free d = true) (hu : ∀ p ∈ u,p.1 ≠ d /\ p.2.free d = true) : Fresh (stp st t v u) d:=by
 unfold stp
 have hr : ∀ m ρ,updL st.rs u m = some ρ -> m ≠ d /\ ρ.free d = true:=by
  intro m ρ hm
  induction u with
  | nil => exact h.2 m ρ hm
  | cons x u ih =>
    obtain ⟨k,ρ'⟩:=x
    change (if m = k then some ρ' else updL st.rs u m) = some ρ at hm
    split at hm
    . rename_i e
      cases hm
      have:=hu (k,ρ) (List.mem_cons_self ..)
      exact ⟨by rw [e]; exact this.1,this.2⟩
    . exact ih (fun p hp => hu p (List.mem_cons_of_mem _ hp)) hm
 cases t with
 | none => exact ⟨h.1,hr⟩
 | some t =>
   refine ⟨fun i => ?_,hr⟩
   show (if i = t then v else st.tm i).free d = true
   split
   . exact hv
   . exact h.1 i
theorem fresh_put {d : Nat} {t : Option Tmp} {v : V} (h : Fresh st d) (hv : v.free d = true) : Fresh (st.put t v) d:=zHR (u:=[]) h hv (fun _ hp => by cases hp)
theorem fresh_res {d m : Nat} {ρ : Res} (h : Fresh st d) (hm : Nat.beq m d = false) (hv : ρ.free d = true) : Fresh (st.res m ρ) d:=by
 refine ⟨h.1,fun q ρ' hq => ?_⟩
 change updR st.rs m ρ q = some ρ' at hq
 unfold updR at hq
 split at hq
 . rename_i e
   cases hq
   subst e
   exact ⟨fun e2 => by rw [e2] at hm; simp at hm,hv⟩
 . exact h.2 q ρ' hq
theorem fresh_S {d : Nat} {cs : List (Nat × V)} {R : List (Nat × Res)} (h : (cs.all (fun p => p.2.free d) && R.all fun p => !(Nat.beq p.1 d) && p.2.free d) = true) : Fresh (stS nn cs R) d:=by
 rw [Bool.and_eq_true,List.all_eq_true,List.all_eq_true] at h
 refine ⟨fun i => ?_,fun m ρ hm => ?_⟩
 . simp only [stS]
   split
   . rename_i p hp; exact h.1 p (List.mem_of_find?_eq_some hp)
   . rfl
 . simp only [stS] at hm
   split at hm
   . rename_i p hp
     have he:=List.find?_some hp
     simp at he
     cases hm
     have:=h.2 p (List.mem_of_find?_eq_some hp)
     rw [Bool.and_eq_true] at this
     refine ⟨fun e => ?_,this.2⟩
     rw [he,e] at this
     simp at this
   . cases hm
theorem opOk_lit0F {t e : TypeId} {by_ d : Nat} {K : Vst nn -> Prop} (ho : o.op = .buildSlice t 0 #[]) (hd : o.dst = some d) (hdl : Nat.ble d 999999 = true) (he : zy X.P t = some (e,by_)) (hfr : Fresh st d)
 (hK : K ((st.res d (.tok e 0)).put (some d) (.own d e []))) : OpOk X o st K:=by
 refine opOk_lit0 ho hd hdl he ?_
 rw [zFU hfr]; exact hK
def nfB (fr : List Nat) (v : V) (u : List (Nat × Res)) : Bool:=fr.all fun d => v.free d && u.all fun p => !(Nat.beq p.1 d) && p.2.free d
inductive YldA (X : Cx) (ops : Array Oper) (fr rd wr : List Nat) (o : Oper) (st : Vst nn) : V -> List (Nat × Res) -> Prop where
 | old {v : V} {u : List (Nat × Res)} (h : YldG X ops rd wr o st v u) (hf : nfB fr v u = true) : YldA X ops fr rd wr o st v u
 | alloc {t : TypeId} {d : Nat} {vs : List V} (hg : o.guard = none) (ho : o.op = .alloc t) (hd : o.dst = some d) (hdl : Nat.ble d 999999 = true) (hc : zE7 X.P t = some vs) (hfd : freeL d vs = true) (hw : wr.contains d = true) (hf : nfB fr (.bx d 0) [(d,.box t vs)] = true) : YldA X ops fr rd wr o st (.bx d 0) [(d,.box t vs)]
 | lit0 {t e : TypeId} {by_ d : Nat} (hg : o.guard = none) (ho : o.op = .buildSlice t 0 #[]) (hd : o.dst = some d) (hdl : Nat.ble d 999999 = true) (he : zy X.P t = some (e,by_)) (hw : wr.contains d = true) (hf : nfB fr (.own d e []) [(d,.tok e 0)] = true) : YldA X ops fr rd wr o st (.own d e []) [(d,.tok e 0)]
 | app {t e : TypeId} {by_ k : Nat} {x y : Operand} {l l2 : List D} (hg : o.guard = none) (hw : wr.contains k = true) (ho : o.op = .call { callee:=.builtin .append,args:=#[x,y],argTypes:=#[t,t] }) (he : zy X.P t = some (e,by_)) (hleaf : ∀ d,(cellsV X.P 12 e d).all V.leaf = true)
    (hx : ev st x = .own k e l) (hr : st.rs k = some (.tok e l.length)) (hy : (ev st y).out = .sl e l2) (hp : l.length + l2.length <= maxLen /\ (l.length + l2.length) * by_ <= 140737488355328) (hf : nfB fr (.own k e (l ++ l2)) [(k,.tok e (l.length + l2.length))] = true) :
    YldA X ops fr rd wr o st (.own k e (l ++ l2)) [(k,.tok e (l.length + l2.length))]
theorem YldA.of {fr rd wr : List Nat} {d : Option Tmp} {v v' : V} {u u' : List (Nat × Res)} (hd : ∀ t,d = some t -> t ∉ o.looksAt ops) (hu : Off rd wr u') :
 YldA X ops fr rd wr o (stp st d v' u') v u ↔ YldA X ops fr rd wr o st v u:=by
 have evs : ∀ x ∈ o.op.operands,ev (stp st d v' u') x = ev st x:=fun x hx => zHW fun t ht hxt => hd t ht (by
  subst hxt
  exact List.mem_append_left _ (List.mem_filterMap.2 ⟨.tmp t,by simpa using hx,rfl⟩))
 have hrs : ∀ n,wr.contains n = true -> (stp st d v' u').rs n = st.rs n:=fun n hn => by
  rw [zDJ]; exact zFq hu (.inr hn)
 constructor
 . intro h
   cases h with
   | old h hf => exact .old ((YldG.of hd hu).1 h) hf
   | alloc hg ho hd' hdl hc hfd hw hf => exact .alloc hg ho hd' hdl hc hfd hw hf
   | lit0 hg ho hd' hdl he hw hf => exact .lit0 hg ho hd' hdl he hw hf
   | app hg hw ho he hleaf hx hr hy hp hf =>
     rw [evs _ (by rw [ho]; simp [Op.operands,Call.operands])] at hx
     rw [evs _ (by rw [ho]; simp [Op.operands,Call.operands])] at hy
     rw [hrs _ hw] at hr
     exact .app hg hw ho he hleaf hx hr hy hp hf
 . intro h
   cases h with
   | old h hf => exact .old ((YldG.of hd hu).2 h) hf
   | alloc hg ho hd' hdl hc hfd hw hf => exact .alloc hg ho hd' hdl hc hfd hw hf
   | lit0 hg ho hd' hdl he hw hf => exact .lit0 hg ho hd' hdl he hw hf
   | app hg hw ho he hleaf hx hr hy hp hf =>
     rw [<- evs _ (by rw [ho]; simp [Op.operands,Call.operands])] at hx
     rw [<- evs _ (by rw [ho]; simp [Op.operands,Call.operands])] at hy
     rw [<- hrs _ hw] at hr
     exact .app hg hw ho he hleaf hx hr hy hp hf
theorem YldA.names {fr rd wr : List Nat} {v : V} {u : List (Nat × Res)} (h : YldA X ops fr rd wr o st v u) : ∀ p ∈ u,wr.contains p.1 = true:=by
 cases h with
 | old h hf => exact h.names
 | alloc hg ho hd' hdl hc hfd hw hf => exact fun p hp => by simp at hp; subst hp; exact hw
 | lit0 hg ho hd' hdl he hw hf => exact fun p hp => by simp at hp; subst hp; exact hw
 | app hg hw ho he hleaf hx hr hy hp hf => exact fun p hp => by simp at hp; subst hp; exact hw
theorem YldA.nf {fr rd wr : List Nat} {v : V} {u : List (Nat × Res)} (h : YldA X ops fr rd wr o st v u) : nfB fr v u = true:=by
 cases h with
 | old h hf => exact hf
 | alloc hg ho hd' hdl hc hfd hw hf => exact hf
 | lit0 hg ho hd' hdl he hw hf => exact hf
 | app hg hw ho he hleaf hx hr hy hp hf => exact hf
theorem nfB_ok {fr : List Nat} {v : V} {u : List (Nat × Res)} (h : nfB fr v u = true) {d : Nat} (hd : d ∈ fr) : v.free d = true /\ ∀ p ∈ u,p.1 ≠ d /\ p.2.free d = true:=by
 have:=List.all_eq_true.1 h d hd
 rw [Bool.and_eq_true,List.all_eq_true] at this
 refine ⟨this.1,fun p hp => ?_⟩
 have h2:=this.2 p hp
 rw [Bool.and_eq_true] at h2
 exact ⟨fun e => by rw [e] at h2; simp at h2,h2.2⟩
variable {fr rd wr : Nat -> List Nat}
def aOpH (X : Cx) (ops : Array Oper) (fr rd wr : Nat -> List Nat) (i : Nat) (K : Vst nn -> Prop) (st : Vst nn) : Prop:=
 match ops[i]? with
 | none => K st
 | some o => ∃ v u,YldA X ops (fr i) (rd i) (wr i) o st v u /\ K (stp st o.dst v u)
theorem aOpH_mono {i : Nat} {K K' : Vst nn -> Prop} (h : ∀ st,K st -> K' st) (hh : aOpH X ops fr rd wr i K st) : aOpH X ops fr rd wr i K' st:=by
 unfold aOpH at *
 split
 . rename_i hn; simp only [hn] at hh; exact h _ hh
 . rename_i o ho
   simp only [ho] at hh
   obtain ⟨v,u,h1,h2⟩:=hh
   exact ⟨v,u,h1,h _ h2⟩
def absAnyH (X : Cx) (ops : Array Oper) (fr rd wr : Nat -> List Nat) (Q : Vst nn -> Prop) : Nat -> Array Bool -> Vst nn -> Prop
 | 0,listed,st => Region.ready .any ops listed = [] /\ Q st
 | fuel + 1,listed,st => (Region.ready .any ops listed = [] -> Q st) /\ ∀ i ∈ Region.ready .any ops listed,aOpH X ops fr rd wr i (absAnyH X ops fr rd wr Q fuel (listed.setIfInBounds i true)) st
theorem aOpH_put {i j : Nat} {oi oj : Oper} {v : V} {u : List (Nat × Res)} (hj : ops[j]? = some oj) (hap : oi.apart ops oj = true) (hn : zCo (wr i) (rd j) = true /\ zCo (wr i) (wr j) = true /\ zCo (wr j) (rd i) = true) {K : Vst nn -> Prop} (hy : YldA X ops (fr i) (rd i) (wr i) oi st v u) (h : aOpH X ops fr rd wr j K (stp st oi.dst v u)) :
 aOpH X ops fr rd wr j (fun st' => YldA X ops (fr i) (rd i) (wr i) oi st' v u /\ K (stp st' oi.dst v u)) st:=by
 obtain ⟨h1,h2,h3⟩:=Oper.apart_spec hap
 unfold aOpH at *
 simp only [hj] at *
 obtain ⟨v',u',hy',hK⟩:=h
 have hu : Off (rd j) (wr j) u:=fun p hp => by
  have hw:=hy.names p hp
  refine ⟨?_,?_⟩
  . cases hq : (rd j).contains p.1
    . rfl
    . exact (zA9 hn.1 hw hq).elim
  . cases hq : (wr j).contains p.1
    . rfl
    . exact (zA9 hn.2.1 hw hq).elim
 have hyj : YldA X ops (fr j) (rd j) (wr j) oj st v' u':=(YldA.of h1 hu).1 hy'
 have hu' : Off (rd i) (wr i) u':=fun p hp => by
  have hw:=hyj.names p hp
  refine ⟨?_,?_⟩
  . cases hq : (rd i).contains p.1
    . rfl
    . exact (zA9 hn.2.2 hw hq).elim
  . cases hq : (wr i).contains p.1
    . rfl
    . exact (zA9 hn.2.1 hq hw).elim
 have huu : ∀ p ∈ u,∀ q ∈ u',p.1 ≠ q.1:=fun p hp q hq e => by
  have h5:=hy.names p hp
  have h6:=hyj.names q hq
  rw [<- e] at h6
  exact zA9 hn.2.1 h5 h6
 exact ⟨v',u',hyj,(YldA.of h3 hu').2 hy,by rw [<- zGt h2 huu]; exact hK⟩
theorem zGd {Q : Vst nn -> Prop} {i : Nat} {oi : Oper} {v : V} {u : List (Nat × Res)} (hi : ops[i]? = some oi) (hN : zDR ops rd wr = true) :
 ∀ (fuel : Nat) (listed : Array Bool) (st : Vst nn),Closed ops listed -> (∀ j,j < i -> listed.getD j false = true) ->
   (∀ j oj,ops[j]? = some oj -> j ≠ i -> listed.getD j true = false -> (∀ e ∈ oj.after,Region.binds .any e = true -> e.on ≠ i) -> oi.apart ops oj = true) ->
   i ∈ Region.ready .any ops listed -> YldA X ops (fr i) (rd i) (wr i) oi st v u ->
   absAnyH X ops fr rd wr Q fuel (listed.setIfInBounds i true) (stp st oi.dst v u) -> absAnyH X ops fr rd wr Q (fuel + 1) listed st:=by
 intro fuel
 induction fuel with
 | zero =>
   intro listed st _ _ _ hr hy H
   refine ⟨fun h => (by rw [h] at hr; cases hr),fun j hj => ?_⟩
   by_cases hji : j = i
   . subst hji; unfold aOpH; simp only [hi]; exact ⟨v,u,hy,H⟩
   . have:=ready_mono hj hji
     rw [H.1] at this
     cases this
 | succ fuel ih =>
   intro listed st hcl hlow hfree hr hy H
   refine ⟨fun h => (by rw [h] at hr; cases hr),fun j hj => ?_⟩
   by_cases hji : j = i
   . subst hji; unfold aOpH; simp only [hi]; exact ⟨v,u,hy,H⟩
   . have h1:=H.2 j (ready_mono hj hji)
     obtain ⟨hjun,oj,hoj,hall⟩:=mem_ready.1 hj
     have hiun:=(mem_ready.1 hr).1
     have hnot : ∀ e ∈ oj.after,Region.binds .any e = true -> e.on ≠ i:=fun e he hb heq => by
      have h1:=hall e he hb
      rw [heq] at h1
      exact zAo hiun h1
     have hij : i < j:=by
      rcases Nat.lt_trichotomy i j with h | h | h
      . exact h
      . exact absurd h.symm hji
      . exact (zAo hjun (hlow j h)).elim
     have hsz : j < ops.size:=(Array.getElem?_eq_some_iff.1 hoj).1
     have hnm : zCo (wr i) (rd j) = true /\ zCo (wr i) (wr j) = true /\ zCo (wr j) (rd i) = true:=by
      have h2:=List.all_eq_true.1 (List.all_eq_true.1 hN j (List.mem_range.2 hsz)) i (List.mem_range.2 hij)
      rw [Bool.or_eq_true] at h2
      rcases h2 with h2 | h2
      . simp only [Bool.and_eq_true] at h2; exact ⟨h2.1.1,h2.1.2,h2.2⟩
      . refine (zAo hiun (zEG hcl _ _ (fun k hk => ?_) i (by simpa using h2))).elim
        unfold zFm at hk
        rw [hoj] at hk
        obtain ⟨e,he,rfl⟩:=List.mem_map.1 hk
        obtain ⟨h2,h3⟩:=List.mem_filter.1 he
        exact hall e (by simpa using h2) h3
     have h2:=aOpH_put (i:=i) hoj (hfree j oj hoj hji hjun hnot) hnm hy h1
     have hfree' : ∀ k ok,ops[k]? = some ok -> k ≠ i -> (listed.setIfInBounds j true).getD k true = false ->
      (∀ e ∈ ok.after,Region.binds .any e = true -> e.on ≠ i) -> oi.apart ops ok = true:=fun k ok hk hki hun hno => by
      refine hfree k ok hk hki ?_ hno
      by_cases hjk : j = k
      . subst hjk; exact hjun
      . rw [getD_set_ne true hjk] at hun; exact hun
     refine aOpH_mono (fun st' h3 => ih (listed.setIfInBounds j true) st' (hcl.set hj) (fun k hk => getD_set_true (hlow k hk)) hfree' (ready_mono hr (Ne.symm hji)) h3.1 ?_) h2
     rw [Array.setIfInBounds_comm _ _ hji]
     exact h3.2
def absLexH (X : Cx) (ops : Array Oper) (fr rd wr : Nat -> List Nat) (Q : Vst nn -> Prop) : Nat -> List Oper -> Vst nn -> Prop
 | _,[],st => Q st
 | k,o :: rest,st => ∃ v u,YldA X ops (fr k) (rd k) (wr k) o st v u /\ absLexH X ops fr rd wr Q (k + 1) rest (stp st o.dst v u)
theorem zE6 {Q : Vst nn -> Prop} (hN : zDR ops rd wr = true) : ∀ (l : List Oper) (k : Nat) (listed : Array Bool) (st : Vst nn),(∀ j,l[j]? = ops[k + j]?) -> Closed ops listed -> (∀ j,j < k -> listed.getD j false = true) -> listed.size = ops.size ->
 Region.lexFrom .any ops l.length k listed = true -> absLexH X ops fr rd wr Q k l st -> absAnyH X ops fr rd wr Q l.length listed st
 | [],_,_,_,_,_,_,_,hB,h => ⟨by simpa [Region.lexFrom] using hB,h⟩
 | o :: l,k,listed,st,hl,hcl,hlow,hsz,hB,h => by
   have h0 : ops[k]? = some o:=by simpa using (hl 0).symm
   have hk : k < ops.size:=(Array.getElem?_eq_some_iff.1 h0).1
   simp only [List.length_cons,Region.lexFrom,Bool.and_eq_true] at hB
   obtain ⟨⟨hr,hf⟩,hB'⟩:=hB
   have hr : k ∈ Region.ready .any ops listed:=by simpa using hr
   obtain ⟨v,u,hy,hK⟩:=h
   exact zGd h0 hN l.length listed st hcl hlow (Region.free_spec h0 hf) hr hy
    (zE6 hN l (k + 1) _ _ (fun j => by have:=hl (j + 1); simpa [Nat.add_assoc,Nat.add_comm 1 j] using this) (hcl.set hr) (fun j hj => by
      by_cases e : j = k
      . subst e; exact zDL (by omega)
      . exact getD_set_true (hlow j (by omega))) (by simpa using hsz) hB' hK)
def frOf (ops : Array Oper) (R : List (Nat × Nat)) (j : Nat) : List Nat:=(R.filter fun p => !(Nat.beq p.1 j) && !(reachS ops ops.size (zFm ops j)).contains p.1).map (·.2)
theorem zDD (R : List (Nat × Nat)) (hR : ∀ i o t d,ops[i]? = some o -> (o.op = .alloc t \/ o.op = .buildSlice t 0 #[]) -> o.dst = some d -> (i,d) ∈ R) {Q : Vst nn -> Prop} {Q' : Exit -> Act -> World -> Prop} (hP : PQ X nn Q') (hQ : ∀ st' s' w' a',Inv X st' s' w' a' -> Q st' -> Q' .normal a' w') : ∀ (fuel : Nat) (listed : Array Bool) (st : Vst nn) (s : Sg) (w : World) (a : Act),Closed ops listed -> (∀ p ∈ R,listed.getD p.1 true = false -> Fresh st p.2) -> Inv X st s w a ->
 absAnyH X ops (frOf ops R) rd wr Q fuel listed st -> wpAny X.P .any ops Q' fuel listed a w
 | 0,_,_,_,_,_,_,_,hI,h => ⟨h.1,hQ _ _ _ _ hI h.2⟩
 | fuel + 1,listed,st,s,w,a,hcl,hfr,hI,h => ⟨fun h0 => hQ _ _ _ _ hI (h.1 h0),fun i hi => by
   have h1:=h.2 i hi
   obtain ⟨hiun,oi,hoi,hall⟩:=mem_ready.1 hi
   unfold aOpH at h1
   unfold wpOp
   simp only [hoi] at h1 |-
   obtain ⟨v,u,hy,hK⟩:=h1
   have hnf:=hy.nf
   have hfr' : ∀ p ∈ R,(listed.setIfInBounds i true).getD p.1 true = false -> Fresh (stp st oi.dst v u) p.2:=fun p hp hl => by
    have hne : p.1 ≠ i:=fun e => by
     rw [e] at hl
     have hsz : i < listed.size \/ ¬ i < listed.size:=Nat.lt_or_ge i listed.size |>.imp id fun h => by omega
     rw [Array.getD_eq_getD_getElem?,Array.getElem?_setIfInBounds] at hl
     rcases hsz with hsz | hsz
     . simp [hsz] at hl
     . simp [hsz] at hl
    have hl2 : listed.getD p.1 true = false:=by rwa [getD_set_ne true (Ne.symm hne)] at hl
    have hmem : p.2 ∈ frOf ops R i:=by
     refine List.mem_map.2 ⟨p,List.mem_filter.2 ⟨hp,?_⟩,rfl⟩
     rw [Bool.and_eq_true]
     refine ⟨by cases hb : Nat.beq p.1 i; rfl; exact (hne (Nat.eq_of_beq_eq_true hb)).elim,?_⟩
     rw [Bool.not_eq_true']
     cases hq : (reachS ops ops.size (zFm ops i)).contains p.1
     . rfl
     . refine (zAo hl2 (zEG hcl _ _ (fun k hk => ?_) p.1 (by simpa using hq))).elim
       unfold zFm at hk
       rw [hoi] at hk
       obtain ⟨e,he,rfl⟩:=List.mem_map.1 hk
       obtain ⟨h2,h3⟩:=List.mem_filter.1 he
       exact hall e (by simpa using h2) h3
    have:=nfB_ok hnf hmem
    exact zHR (hfr p hp hl2) this.1 this.2
   have go : ∀ {st' : Vst nn} {s' w' a'},Inv X st' s' w' a' -> (absAnyH X ops (frOf ops R) rd wr Q fuel (listed.setIfInBounds i true) st' /\ ∀ p ∈ R,(listed.setIfInBounds i true).getD p.1 true = false -> Fresh st' p.2) -> wpAny X.P .any ops Q' fuel (listed.setIfInBounds i true) a' w':=
    fun hI' hK' => zDD R hR hP hQ fuel _ _ _ _ _ (hcl.set hi) hK'.2 hI' hK'.1
   cases hy with
   | old hy hf =>
     rcases hy with ⟨hg,hy⟩ | ⟨hg,rfl,rfl⟩
     . rw [if_pos (zGJ hg hI)]
       exact .inl (zHG (K:=fun st' => absAnyH X ops (frOf ops R) rd wr Q fuel (listed.setIfInBounds i true) st' /\ ∀ p ∈ R,(listed.setIfInBounds i true).getD p.1 true = false -> Fresh st' p.2) hy ⟨hK,hfr'⟩ s w a hI _ _ hP fun st' s' w' a' hI' hK' => go hI' hK')
     . rw [if_neg (by rw [zGJ hg hI]; simp)]
       exact go (hI.put oi.dst (by simp [rel])) ⟨hK,hfr'⟩
   | alloc hg ho hd hdl hc hfd hw hf =>
     rename_i t d vs
     rw [if_pos (zGJ (by simp [gw,hg]) hI)]
     have hst : stp st oi.dst (.bx d 0) [(d,.box t vs)] = ((st.res d (.box t vs)).put (some d) (.bx d 0)):=by rw [zCI,hd]
     refine .inl (zIQ (K:=fun st' => absAnyH X ops (frOf ops R) rd wr Q fuel (listed.setIfInBounds i true) st' /\ ∀ p ∈ R,(listed.setIfInBounds i true).getD p.1 true = false -> Fresh st' p.2) ho hd hdl hc hfd (hfr _ (hR i oi t d hoi (.inl ho) hd) hiun) ?_ s w a hI _ _ hP fun st' s' w' a' hI' hK' => go hI' hK')
     rw [<- hst]
     exact ⟨hK,hfr'⟩
   | lit0 hg ho hd hdl he hw hf =>
     rename_i t e by_ d
     rw [if_pos (zGJ (by simp [gw,hg]) hI)]
     have hst : stp st oi.dst (.own d e []) [(d,.tok e 0)] = ((st.res d (.tok e 0)).put (some d) (.own d e [])):=by rw [zCI,hd]
     refine .inl (opOk_lit0F (K:=fun st' => absAnyH X ops (frOf ops R) rd wr Q fuel (listed.setIfInBounds i true) st' /\ ∀ p ∈ R,(listed.setIfInBounds i true).getD p.1 true = false -> Fresh st' p.2) ho hd hdl he (hfr _ (hR i oi t d hoi (.inr ho) hd) hiun) ?_ s w a hI _ _ hP fun st' s' w' a' hI' hK' => go hI' hK')
     rw [<- hst]
     exact ⟨hK,hfr'⟩
   | app hg hw ho he hleaf hx hr hy hp hf =>
     rename_i t e by_ k x y l l2
     rw [if_pos (zGJ (by simp [gw,hg]) hI)]
     have hst : stp st oi.dst (.own k e (l ++ l2)) [(k,.tok e (l.length + l2.length))] = ((st.res k (.tok e (l.length + l2.length))).put oi.dst (.own k e (l ++ l2))):=zCI
     refine .inl (zHI (K:=fun st' => absAnyH X ops (frOf ops R) rd wr Q fuel (listed.setIfInBounds i true) st' /\ ∀ p ∈ R,(listed.setIfInBounds i true).getD p.1 true = false -> Fresh st' p.2) ho he hleaf hx hr hy hp.1 hp.2 ?_ s w a hI _ _ hP fun st' s' w' a' hI' hK' => go hI' hK')
     rw [<- hst]
     exact ⟨hK,hfr'⟩⟩
theorem aw_drawH (r w : List (Nat × List Nat)) (R : List (Nat × Nat)) {id : Nat} {l : List Oper} {K : Exit -> Vst nn -> Prop} (hm : X.P.follows .mixedOrders = true) (hB : Region.lexB .any l.toArray = true) (hN : zDR l.toArray (nmf r) (nmf w) = true)
 (hR : ∀ i o t d,l.toArray[i]? = some o -> (o.op = .alloc t \/ o.op = .buildSlice t 0 #[]) -> o.dst = some d -> (i,d) ∈ R) (hF : ∀ p ∈ R,Fresh st p.2) (h : absLexH X l.toArray (frOf l.toArray R) (nmf r) (nmf w) (K .normal) 0 l st) : AW X (.region id l.toArray true) st K:=fun s wd a hI => by
 simp only [Region.lexB,Bool.and_eq_true] at hB
 have hlow : ∀ k,(Array.replicate l.toArray.size false).getD k false = false:=fun k => by
  rw [Array.getD_eq_getD_getElem?,Array.getElem?_replicate]
  split <;> rfl
 refine wp_region_any hm (zDD R hR (rd:=nmf r) (wr:=nmf w) (Q:=K .normal) (fun pv st' s' w' a' hI' hp => ⟨st',s',hI',.inr ⟨pv,rfl,hp⟩⟩) (fun st' s' w' a' hI' hK => ⟨st',s',hI',.inl hK⟩) _ _ st s _ a (fun k o _ hk => by rw [hlow k] at hk; cases hk) (fun p hp _ => hF p hp) hI.drew ?_)
 have:=zE6 (X:=X) (fr:=frOf l.toArray R) (rd:=nmf r) (wr:=nmf w) (Q:=K .normal) hN l 0 (Array.replicate l.toArray.size false) st (by simp) (fun k o _ hk => by rw [hlow k] at hk; cases hk) (fun j hj => absurd hj (Nat.not_lt_zero j)) (by simp) (by simpa using hB.2) h
 simpa using this
def allocsB (ops : Array Oper) (R : List (Nat × Nat)) : Bool:=(List.range ops.size).all fun i => match ops[i]? with
 | some o => (match o.op,o.dst with | .alloc _,some d => R.contains (i,d) | .buildSlice _ _ _,some d => R.contains (i,d) | _,_ => true)
 | none => true
theorem allocsB_ok {R : List (Nat × Nat)} (h : allocsB ops R = true) : ∀ i o t d,ops[i]? = some o -> (o.op = .alloc t \/ o.op = .buildSlice t 0 #[]) -> o.dst = some d -> (i,d) ∈ R:=fun i o t d hi ho hd => by
 have:=List.all_eq_true.1 h i (List.mem_range.2 (Array.getElem?_eq_some_iff.1 hi).1)
 rw [hi] at this
 rcases ho with ho | ho
 . simp only [ho,hd] at this
   simpa using this
 . simp only [ho,hd] at this
   simpa using this
theorem zDd (r w : List (Nat × List Nat)) (R : List (Nat × Nat)) {id : Nat} {l : List Oper} {K : Exit -> Vst nn -> Prop} (hm : X.P.follows .mixedOrders = true) (hB : Region.lexB .any l.toArray = true) (hN : zDR l.toArray (nmf r) (nmf w) = true)
 (hA : allocsB l.toArray R = true) (hF : ∀ p ∈ R,Fresh st p.2) (h : absLexH X l.toArray (frOf l.toArray R) (nmf r) (nmf w) (K .normal) 0 l st) : AW X (.region id l.toArray true) st K:=
 aw_drawH r w R hm hB hN (allocsB_ok hA) hF h
section
variable {l : List Oper} {Q : Vst nn -> Prop} {d : Option Tmp} {k : Nat}
theorem h_nil (h : Q st) : absLexH X ops fr rd wr Q k [] st:=h
theorem h_val {p : Prop} {v : V} (hg : o.guard = none) (hd : o.dst = d) (h : act1 X.P st.rs (ev st) o.op = .val p v) (hf : nfB (fr k) v [] = true) (hK : absLexH X ops fr rd wr Q (k + 1) l (st.put d v)) (hp : p) (hl : inO (rd k) (loads (ev st) o.op) = true) : absLexH X ops fr rd wr Q k (o :: l) st:=
 ⟨v,[],.old (.inl ⟨by simp [gw,hg],.val h hp hl⟩) hf,by rw [hd]; exact hK⟩
theorem zEn {t : TypeId} {m : Nat} {vs : List V} (hg : o.guard = none) (ho : o.op = .alloc t) (hd : o.dst = some m) (hdl : Nat.ble m 999999 = true) (hc : zE7 X.P t = some vs) (hfd : freeL m vs = true) (hw : (wr k).contains m = true) (hf : nfB (fr k) (.bx m 0) [(m,.box t vs)] = true)
 (hK : absLexH X ops fr rd wr Q (k + 1) l ((st.res m (.box t vs)).put (some m) (.bx m 0))) : absLexH X ops fr rd wr Q k (o :: l) st:=
 ⟨_,_,.alloc hg ho hd hdl hc hfd hw hf,by rw [zCI,hd]; exact hK⟩
theorem zEm {t : TypeId} {x y : Operand} {m off : Nat} {t' : TypeId} {vs xs : List V} (hg : o.guard = none) (ho : o.op = .store t x y) (hd : o.dst = none) (hx : ev st x = .bx m off) (hw : (wr k).contains m = true) (hr : st.rs m = some (.box t' vs)) (hc : cellsOf (ev st y) = some xs)
 (hs : X.P.cellsOf t = xs.length /\ (X.P.info? t).isSome) (hl : Nat.ble (off + xs.length) vs.length = true) (hf : nfB (fr k) .any [(m,.box t' (splice vs off xs))] = true) (hK : absLexH X ops fr rd wr Q (k + 1) l (st.res m (.box t' (splice vs off xs)))) : absLexH X ops fr rd wr Q k (o :: l) st:=
 ⟨_,_,.old (.inl ⟨by simp [gw,hg],.store hw ho hd hx hr hc hs (Nat.le_of_ble_eq_true hl)⟩) hf,by rw [hd,zCI]; exact hK⟩
theorem h_valW {p : Prop} {v : V} (v' : V) (hg : o.guard = none) (hd : o.dst = d) (h : act1 X.P st.rs (ev st) o.op = .val p v) (hle : VLe v v') (hf : nfB (fr k) v' [] = true) (hK : absLexH X ops fr rd wr Q (k + 1) l (st.put d v')) (hp : p) (hl : inO (rd k) (loads (ev st) o.op) = true) : absLexH X ops fr rd wr Q k (o :: l) st:=
 ⟨v',[],.old (.inl ⟨by simp [gw,hg],.valW h hle hp hl⟩) hf,by rw [hd]; exact hK⟩
end
end
end Go.Proofs.YthjiclhfhjdjpaaGreatDoor
namespace Go.Proofs.YthjiclhfhjdjpaaGreatDoor
open Go.RowKit
set_option linter.unusedSectionVars false
attribute [local irreducible] wpList Calls Code.wp AW AWo OpOk seqK zx zAI loopK endK AC zm Yld Sub
attribute [local irreducible] ACB ACX ACE absLexG YldG absLexH
theorem zAm {i n : Nat} (h : i < n) : 0 <= (i : Int) /\ (i : Int) < (n : Int):=⟨Int.natCast_nonneg i,Int.ofNat_lt.2 h⟩
theorem zIW (a : Int) : AC EN5 Tryz.prog 285 [.c (.int .i64 a),.c (.int .i64 a)] (.c (.int .i64 0)):=by
 have f1 : decide (a < a) = false:=decide_eq_false (by omega)
 have f2 : decide (a > a) = false:=decide_eq_false (by omega)
 refine zG 11 Tryz.func285 rfl rfl rfl rfl ?_
 intro s w he
 repeat' (first
|apply zL
 . conv => lhs; whnf
 . assumption
|refine zA ?_
|refine zB ?_
|refine zK ?_
|apply aw_1
 conv => whnf
 refine ⟨?_,trivial⟩
|apply s_1
 conv => whnf; arg 1; arg 4; arg 3; whnf
 refine ⟨?_,?_⟩
|refine zC ?_
|refine ⟨_,by conv => lhs; whnf; arg 2; whnf,?_⟩; conv => rhs; whnf
|exact trivial)
theorem zHM : ∀ l : List UInt8,Op.bytesLess l l = false
 | [] => rfl
 | c :: r => by
   have:=zHM r
   unfold Op.bytesLess
   simp [this]
theorem strs_ac (a : ByteArray) : AC EN5 Tryz.prog 286 [.c (.string a),.c (.string a)] (.c (.int .i64 0)):=by
 have f1:=zHM a.toList
 have f2 : (!(Op.bytesLess a.toList a.toList || a.toList == a.toList)) = false:=by simp
 refine zG 11 Tryz.func286 rfl rfl rfl rfl ?_
 intro s w he
 repeat' (first
|apply zL
 . conv => lhs; whnf
 . assumption
|refine zA ?_
|refine zB ?_
|refine zK ?_
|apply aw_1
 conv => whnf
 refine ⟨?_,trivial⟩
|apply s_1
 conv => whnf; arg 1; arg 4; arg 3; whnf
 refine ⟨?_,?_⟩
|refine zC ?_
|refine ⟨_,by conv => lhs; whnf; arg 2; whnf,?_⟩; conv => rhs; whnf
|exact trivial)
def keyK (d : D) (i : Nat) : ByteArray:=if i < (d.f 4).l.length then (gD (d.f 4).l i).s else { data:=#[] }
theorem keyK_ac (d : D) (i : Nat) : AC EN5 Tryz.prog 287 [.agg (cellsV Tryz.prog 12 84 d),.c (.int .i64 (i : Int))] (.c (.string (keyK d i))):=by
 unfold keyK
 by_cases h : i < (d.f 4).l.length
 . have f1 : decide ((i : Int) < ((d.f 4).l.length : Nat)) = true:=decide_eq_true (by omega)
   rw [if_pos h]
   refine zG 15 Tryz.func287 rfl rfl rfl rfl ?_
   intro s w he
   repeat' (first
|apply zU
 . conv => lhs; whnf
 . assumption
|refine zA ?_
|refine zB ?_
|refine zK ?_
|apply aw_1
 conv => whnf
 refine ⟨?_,trivial⟩
|apply s_1
 conv => whnf; arg 1; arg 4; arg 3; whnf
 refine ⟨?_,?_⟩
|apply zAC rfl rfl rfl rfl
 . conv => lhs; whnf; arg 1; whnf
 . rfl
|refine zM ?_
|refine zC ?_
|refine ⟨_,by conv => lhs; whnf; arg 2; whnf,?_⟩; conv => rhs; whnf
|exact trivial)
   all_goals first
    | exact zAm h
    | rfl
 . have f1 : decide ((i : Int) < ((d.f 4).l.length : Nat)) = false:=decide_eq_false (by omega)
   rw [if_neg h]
   refine zG 15 Tryz.func287 rfl rfl rfl rfl ?_
   intro s w he
   repeat' (first
|apply zL
 . conv => lhs; whnf
 . assumption
|refine zA ?_
|refine zB ?_
|refine zK ?_
|apply aw_1
 conv => whnf
 refine ⟨?_,trivial⟩
|apply s_1
 conv => whnf; arg 1; arg 4; arg 3; whnf
 refine ⟨?_,?_⟩
|apply zAC rfl rfl rfl rfl
 . conv => lhs; whnf; arg 1; whnf
 . rfl
|refine zC ?_
|refine ⟨_,by conv => lhs; whnf; arg 2; whnf,?_⟩; conv => rhs; whnf
|exact trivial)
noncomputable def HCm (d : D) (i : Nat) : Vst 70:=stS 70 [(2,.bx 2 0),(3,.bx 3 0),(5,.c (.int .i64 0)),(6,.c (.int .i64 (i : Int)))] [(2,.box 84 (cellsV Tryz.prog 12 84 d)),(3,.box 84 (cellsV Tryz.prog 12 84 d))]
theorem cmp_ac : ∀ (k : Nat) (d : D),Dp k d -> bulkD d <= 1000000000 -> AC EN5 Tryz.prog 215 [.agg (cellsV Tryz.prog 12 84 d),.agg (cellsV Tryz.prog 12 84 d)] (.c (.int .i64 0))
 | 0,_,h,_ => h.elim
 | k + 1,d,h,hw => by
   have hin:=zIo hw
   have hl:=hin.items
   have ih:=fun i (hi : i < (d.f 3).l.length) => cmp_ac k (gD (d.f 3).l i) (h i hi) (by have:=hin.at_ i hi; omega)
   have h1:=zIW (d.f 0).n
   have h2:=zIW (d.f 1).n
   have h3:=strs_ac (d.f 2).s
   have h4:=zIW ((d.f 3).l.length : Nat)
   refine zG 70 Tryz.func215 rfl rfl rfl rfl ?_
   intro s w he
   repeat' (first
|refine zA ?_
|refine zB ?_
|refine zK ?_
|apply aw_1
 conv => whnf
 refine ⟨?_,trivial⟩
|apply s_1
 conv => whnf; arg 1; arg 4; arg 3; whnf
 refine ⟨?_,?_⟩
|apply zd rfl
 . conv => lhs; whnf
 . conv => lhs; whnf
 . first | exact h1 | exact h2 | exact h3
|apply zAC rfl rfl rfl rfl
 . conv => lhs; whnf; arg 1; whnf
 . rfl
|exact trivial)
   refine zV (fun j st => ∃ i,i + j = (d.f 3).l.length /\ Sub (cx EN5 Tryz.prog s w he) st (HCm d i)) (d.f 3).l.length ⟨0,by omega,Sub.live ⟨rfl,rfl,rfl,rfl,trivial⟩ ⟨rfl,rfl,trivial⟩⟩ ?_
   rintro j st ⟨i,hij,hs2⟩
   refine zW hs2 ?_
   clear hs2 h1 h2 h3
   by_cases hi : i < (d.f 3).l.length
   . have f0 : decide ((i : Int) >= ((d.f 3).l.length : Nat)) = false:=decide_eq_false (by omega)
     have k0 : (decide ((i : Int) >= ((d.f 3).l.length : Nat)) == false) = false -> False:=fun h => by rw [f0] at h; cases h
     have ih2:=ih i hi
     have hk:=keyK_ac d i
     have hks:=strs_ac (keyK d i)
     repeat' (first
|apply zL
 . conv => lhs; whnf
 . assumption
|exact (k0 ‹_›).elim
|refine zA ?_
|refine zB ?_
|refine zK ?_
|refine zb ?_
|apply aw_1
 conv => whnf
 refine ⟨?_,trivial⟩
|apply zR rfl rfl
 . conv => lhs; whnf
 . conv => lhs; whnf
 . first | exact bF1 ‹_› | exact bF2 ‹_›
|apply s_1
 conv => whnf; arg 1; arg 4; arg 3; whnf
 refine ⟨?_,?_⟩
|apply zD rfl
 . conv => lhs; whnf
 . conv => lhs; whnf
 . first | rfl | assumption
 . conv => lhs; whnf; arg 2; whnf
|apply zJ rfl
 . conv => lhs; whnf
 . conv => lhs; whnf
 . conv => lhs; whnf; arg 2; whnf
|apply zAb (by kernel_rfl) (by kernel_rfl)
|apply zCE
|apply zCD rfl
 . conv => lhs; whnf
 . conv => lhs; whnf; arg 2; whnf
|apply zDC rfl
 . conv => lhs; whnf
 . conv => lhs; whnf
 . first | exact ih2 | exact hk | exact hks
|exact zr
|exact zAQ
|exact (1000000 : Nat)
|exact trivial
|intro hg)
     all_goals first
      | exact zT (by omega)
      | exact zAm hi
      | exact zH (j':=j - 1) (by omega) ⟨i + 1,by omega,Sub.live ⟨rfl,rfl,rfl,rfl,trivial⟩ ⟨rfl,rfl,trivial⟩⟩
   . have f0 : decide ((i : Int) >= ((d.f 3).l.length : Nat)) = true:=decide_eq_true (by omega)
     have k0 : (decide ((i : Int) >= ((d.f 3).l.length : Nat)) == false) = true -> False:=fun h => by rw [f0] at h; cases h
     repeat' (first
|exact (k0 ‹_›).elim
|refine zA ?_
|refine zB ?_
|refine zK ?_
|apply aw_1
 conv => whnf
 refine ⟨?_,trivial⟩
|apply zX rfl rfl
 . conv => lhs; whnf
 . conv => lhs; whnf
 . first | exact bT1 ‹_› | exact bT2 ‹_›
|apply s_1
 conv => whnf; arg 1; arg 4; arg 3; whnf
 refine ⟨?_,?_⟩
|apply zd rfl
 . conv => lhs; whnf
 . conv => lhs; whnf
 . first | exact h4
|apply ze rfl
 . conv => lhs; whnf
 . conv => lhs; whnf
 . first | rfl | assumption
|apply zJ rfl
 . conv => lhs; whnf
 . conv => lhs; whnf
 . conv => lhs; whnf; arg 2; whnf
|refine zM ?_
|refine zO ?_
|refine zl ?_
|refine zC ?_
|refine ⟨_,by conv => lhs; whnf; arg 2; whnf,?_⟩; conv => rhs; whnf
|exact trivial
|intro hg)
theorem same_ac (d : D) (hw : bulkD d <= 1000000000) : AC EN5 Tryz.prog 137 [.agg (cellsV Tryz.prog 12 84 d),.agg (cellsV Tryz.prog 12 84 d)] (.c (.bool true)):=by
 have h:=cmp_ac _ d (zBh (bulkD d) d (Nat.le_refl _)) hw
 refine zG 9 Tryz.func137 rfl rfl rfl rfl ?_
 intro s w he
 repeat' (first
|refine zA ?_
|refine zB ?_
|refine zK ?_
|apply aw_1
 conv => whnf
 refine ⟨?_,trivial⟩
|apply s_1
 conv => whnf; arg 1; arg 4; arg 3; whnf
 refine ⟨?_,?_⟩
|apply zd rfl
 . conv => lhs; whnf
 . conv => lhs; whnf
 . first | exact h
|apply zAC rfl rfl rfl rfl
 . conv => lhs; whnf; arg 1; whnf
 . rfl
|refine zC ?_
|refine ⟨_,by conv => lhs; whnf; arg 2; whnf,?_⟩; conv => rhs; whnf
|exact trivial)
 rfl
noncomputable def HWr (l : List D) (i : Nat) : Vst 26:=stS 26 [(0,.sl 3 l),(1,.sl 3 l),(5,.c (.int .i64 (i : Int)))] []
theorem wraps_ac (l : List D) (hl : l.length <= 1000000000) : AC EN5 Tryz.prog 140 [.sl 3 l,.sl 3 l] (.c (.bool true)):=by
 have f0 : ((l.length : Int) != (l.length : Int)) = false:=by simp
 refine zG 26 Tryz.func140 rfl rfl rfl rfl ?_
 intro s w he
 repeat' (first
|apply zL
 . conv => lhs; whnf
 . assumption
|refine zA ?_
|refine zB ?_
|refine zK ?_
|apply aw_1
 conv => whnf
 refine ⟨?_,trivial⟩
|apply s_1
 conv => whnf; arg 1; arg 4; arg 3; whnf
 refine ⟨?_,?_⟩
|exact trivial)
 refine zV (fun j st => ∃ i,i + j = l.length /\ Sub (cx EN5 Tryz.prog s w he) st (HWr l i)) l.length ⟨0,by omega,Sub.live ⟨rfl,rfl,rfl,trivial⟩ trivial⟩ ?_
 rintro j st ⟨i,hij,hs2⟩
 refine zW hs2 ?_
 clear hs2
 by_cases hi : i < l.length
 . have f1 : decide ((i : Int) < (l.length : Nat)) = true:=decide_eq_true (by omega)
   have f2 : ((gD l i).n != (gD l i).n) = false:=by simp
   repeat' (first
|apply zU
 . conv => lhs; whnf
 . assumption
|apply zL
 . conv => lhs; whnf
 . assumption
|refine zA ?_
|refine zB ?_
|refine zK ?_
|refine zb ?_
|apply aw_1
 conv => whnf
 refine ⟨?_,trivial⟩
|apply s_1
 conv => whnf; arg 1; arg 4; arg 3; whnf
 refine ⟨?_,?_⟩
|apply zAb (by kernel_rfl) (by kernel_rfl)
|apply zCE
|apply zCD rfl
 . conv => lhs; whnf
 . conv => lhs; whnf; arg 2; whnf
|exact zr
|exact zAQ
|exact (1000000 : Nat)
|exact trivial)
   all_goals first
    | exact zT (by omega)
    | exact zAm hi
    | exact zH (j':=j - 1) (by omega) ⟨i + 1,by omega,Sub.live ⟨rfl,rfl,rfl,trivial⟩ trivial⟩
 . have f1 : decide ((i : Int) < (l.length : Nat)) = false:=decide_eq_false (by omega)
   repeat' (first
|apply zL
 . conv => lhs; whnf
 . assumption
|refine zA ?_
|refine zB ?_
|refine zK ?_
|apply aw_1
 conv => whnf
 refine ⟨?_,trivial⟩
|apply s_1
 conv => whnf; arg 1; arg 4; arg 3; whnf
 refine ⟨?_,?_⟩
|refine zI ?_
|refine zE rfl ?_
|refine zF ?_
|refine zC ?_
|refine ⟨_,by conv => lhs; whnf; arg 2; whnf,?_⟩; conv => rhs; whnf
|exact trivial)
theorem sameRef_ac (d : D) (hl : (d.f 1).l.length <= 1000000000) : AC EN5 Tryz.prog 72 [.agg (cellsV Tryz.prog 12 71 d),.agg (cellsV Tryz.prog 12 71 d)] (.c (.bool true)):=by
 have h:=wraps_ac (d.f 1).l hl
 have f0 : ((d.f 0).s.toList == (d.f 0).s.toList) = true:=by simp
 have k0 : (((d.f 0).s.toList == (d.f 0).s.toList) == true) = false -> False:=fun h => by rw [f0] at h; cases h
 refine zG 17 Tryz.func72 rfl rfl rfl rfl ?_
 intro s w he
 repeat' (first
|exact (k0 ‹_›).elim
|refine zA ?_
|refine zB ?_
|refine zK ?_
|apply aw_1
 conv => whnf
 refine ⟨?_,trivial⟩
|apply zX rfl rfl
 . conv => lhs; whnf
 . conv => lhs; whnf
 . first | exact bT1 ‹_› | exact bT2 ‹_›
|apply s_1
 conv => whnf; arg 1; arg 4; arg 3; whnf
 refine ⟨?_,?_⟩
|apply zAC rfl rfl rfl rfl
 . conv => lhs; whnf; arg 1; whnf
 . rfl
|apply zD rfl
 . conv => lhs; whnf
 . conv => lhs; whnf
 . first | rfl | assumption
 . conv => lhs; whnf; arg 2; whnf
|apply za rfl
 . conv => lhs; whnf
 . conv => lhs; whnf
 . first | rfl | assumption
 . conv => lhs; whnf
 . first | exact h
|apply zJ rfl
 . conv => lhs; whnf
 . conv => lhs; whnf
 . conv => lhs; whnf; arg 2; whnf
|refine zC ?_
|refine ⟨_,by conv => lhs; whnf; arg 2; whnf,?_⟩; conv => rhs; whnf
|exact trivial
|intro hg)
noncomputable def HAr (l : List D) (i : Nat) : Vst 42:=stS 42 [(0,.sl 86 l),(1,.sl 86 l),(5,.c (.int .i64 (i : Int)))] []
theorem zEX (l : List D) (hw : bulkL l <= 1000000000) : AC EN5 Tryz.prog 138 [.sl 86 l,.sl 86 l] (.c (.bool true)):=by
 have hl:=zAA l
 have f0 : ((l.length : Int) != (l.length : Int)) = false:=by simp
 refine zG 42 Tryz.func138 rfl rfl rfl rfl ?_
 intro s w he
 repeat' (first
|apply zL
 . conv => lhs; whnf
 . assumption
|refine zA ?_
|refine zB ?_
|refine zK ?_
|apply aw_1
 conv => whnf
 refine ⟨?_,trivial⟩
|apply s_1
 conv => whnf; arg 1; arg 4; arg 3; whnf
 refine ⟨?_,?_⟩
|exact trivial)
 refine zV (fun j st => ∃ i,i + j = l.length /\ Sub (cx EN5 Tryz.prog s w he) st (HAr l i)) l.length ⟨0,by omega,Sub.live ⟨rfl,rfl,rfl,trivial⟩ trivial⟩ ?_
 rintro j st ⟨i,hij,hs2⟩
 refine zW hs2 ?_
 clear hs2
 by_cases hi : i < l.length
 . have f1 : decide ((i : Int) < (l.length : Nat)) = true:=decide_eq_true (by omega)
   have hv:=same_ac ((gD l i).f 1) (by have:=zk hi; have:=zZ (gD l i); have:=wD_f (gD l i) 1; have:=zZ ((gD l i).f 1); omega)
   have f2 : (!(((gD l i).f 0).s.toList == ((gD l i).f 0).s.toList)) = false:=by simp
   have g2 : ((!(((gD l i).f 0).s.toList == ((gD l i).f 0).s.toList)) == false) = true:=by simp
   repeat' (first
|apply zU
 . conv => lhs; whnf
 . assumption
|refine zA ?_
|refine zB ?_
|refine zK ?_
|refine zb ?_
|apply aw_1
 conv => whnf
 refine ⟨?_,trivial⟩
|apply s_1
 conv => whnf; arg 1; arg 4; arg 3; whnf
 refine ⟨?_,?_⟩
|apply zAb (by kernel_rfl) (by kernel_rfl)
|apply zCE
|apply zFg rfl rfl
 . conv => lhs; whnf
 . conv => lhs; whnf
 . first | exact bF1 ‹_› | exact bF2 ‹_›
|apply zCD rfl
 . conv => lhs; whnf
 . conv => lhs; whnf; arg 2; whnf
|apply zCC rfl
 . conv => lhs; whnf
 . conv => lhs; whnf
 . first | rfl | assumption
 . conv => lhs; whnf; arg 2; whnf
|apply zBm rfl
 . conv => lhs; whnf
 . conv => lhs; whnf
 . first | rfl | assumption
 . conv => lhs; whnf
 . first | exact hv
|exact zr
|exact ([] : List Nat)
|exact (1000000 : Nat)
|exact trivial)
   all_goals first
    | exact zT (by omega)
    | exact zAm hi
    | exact zH (j':=j - 1) (by omega) ⟨i + 1,by omega,Sub.live ⟨rfl,rfl,rfl,trivial⟩ trivial⟩
 . have f1 : decide ((i : Int) < (l.length : Nat)) = false:=decide_eq_false (by omega)
   repeat' (first
|apply zL
 . conv => lhs; whnf
 . assumption
|refine zA ?_
|refine zB ?_
|refine zK ?_
|apply aw_1
 conv => whnf
 refine ⟨?_,trivial⟩
|apply s_1
 conv => whnf; arg 1; arg 4; arg 3; whnf
 refine ⟨?_,?_⟩
|refine zI ?_
|refine zE rfl ?_
|refine zF ?_
|refine zC ?_
|refine ⟨_,by conv => lhs; whnf; arg 2; whnf,?_⟩; conv => rhs; whnf
|exact trivial)
noncomputable def HDr (l : List D) (i : Nat) : Vst 42:=stS 42 [(0,.sl 150 l),(1,.sl 150 l),(5,.c (.int .i64 (i : Int)))] []
theorem zII (l : List D) (hw : bulkL l <= 1000000000) : AC EN5 Tryz.prog 139 [.sl 150 l,.sl 150 l] (.c (.bool true)):=by
 have hl:=zAA l
 have f0 : ((l.length : Int) != (l.length : Int)) = false:=by simp
 refine zG 42 Tryz.func139 rfl rfl rfl rfl ?_
 intro s w he
 repeat' (first
|apply zL
 . conv => lhs; whnf
 . assumption
|refine zA ?_
|refine zB ?_
|refine zK ?_
|apply aw_1
 conv => whnf
 refine ⟨?_,trivial⟩
|apply s_1
 conv => whnf; arg 1; arg 4; arg 3; whnf
 refine ⟨?_,?_⟩
|exact trivial)
 refine zV (fun j st => ∃ i,i + j = l.length /\ Sub (cx EN5 Tryz.prog s w he) st (HDr l i)) l.length ⟨0,by omega,Sub.live ⟨rfl,rfl,rfl,trivial⟩ trivial⟩ ?_
 rintro j st ⟨i,hij,hs2⟩
 refine zW hs2 ?_
 clear hs2
 by_cases hi : i < l.length
 . have f1 : decide ((i : Int) < (l.length : Nat)) = true:=decide_eq_true (by omega)
   have hv:=zEX ((gD l i).f 1).l (by have:=zk hi; have:=zZ (gD l i); have:=wD_f (gD l i) 1; have:=zi ((gD l i).f 1); omega)
   have f2 : (!(((gD l i).f 0).s.toList == ((gD l i).f 0).s.toList)) = false:=by simp
   have g2 : ((!(((gD l i).f 0).s.toList == ((gD l i).f 0).s.toList)) == false) = true:=by simp
   repeat' (first
|apply zU
 . conv => lhs; whnf
 . assumption
|refine zA ?_
|refine zB ?_
|refine zK ?_
|refine zb ?_
|apply aw_1
 conv => whnf
 refine ⟨?_,trivial⟩
|apply s_1
 conv => whnf; arg 1; arg 4; arg 3; whnf
 refine ⟨?_,?_⟩
|apply zAb (by kernel_rfl) (by kernel_rfl)
|apply zCE
|apply zFg rfl rfl
 . conv => lhs; whnf
 . conv => lhs; whnf
 . first | exact bF1 ‹_› | exact bF2 ‹_›
|apply zCD rfl
 . conv => lhs; whnf
 . conv => lhs; whnf; arg 2; whnf
|apply zCC rfl
 . conv => lhs; whnf
 . conv => lhs; whnf
 . first | rfl | assumption
 . conv => lhs; whnf; arg 2; whnf
|apply zBm rfl
 . conv => lhs; whnf
 . conv => lhs; whnf
 . first | rfl | assumption
 . conv => lhs; whnf
 . first | exact hv
|exact zr
|exact ([] : List Nat)
|exact (1000000 : Nat)
|exact trivial)
   all_goals first
    | exact zT (by omega)
    | exact zAm hi
    | exact zH (j':=j - 1) (by omega) ⟨i + 1,by omega,Sub.live ⟨rfl,rfl,rfl,trivial⟩ trivial⟩
 . have f1 : decide ((i : Int) < (l.length : Nat)) = false:=decide_eq_false (by omega)
   repeat' (first
|apply zL
 . conv => lhs; whnf
 . assumption
|refine zA ?_
|refine zB ?_
|refine zK ?_
|apply aw_1
 conv => whnf
 refine ⟨?_,trivial⟩
|apply s_1
 conv => whnf; arg 1; arg 4; arg 3; whnf
 refine ⟨?_,?_⟩
|refine zI ?_
|refine zE rfl ?_
|refine zF ?_
|refine zC ?_
|refine ⟨_,by conv => lhs; whnf; arg 2; whnf,?_⟩; conv => rhs; whnf
|exact trivial)
noncomputable def HSs (l : List D) (i : Nat) : Vst 77:=stS 77 [(0,.sl 76 l),(1,.sl 76 l),(5,.c (.int .i64 (i : Int)))] []
theorem zEW : ∀ (k : Nat) (l : List D),bulkL l <= k -> k <= 1000000000 -> AC EN5 Tryz.prog 71 [.sl 76 l,.sl 76 l] (.c (.bool true)):=by
 intro k
 induction k with
 | zero =>
   intro l hw _
   have hl:=zAA l
   have hn : l = []:=List.eq_nil_of_length_eq_zero (by omega)
   subst hn
   refine zG 77 Tryz.func71 rfl rfl rfl rfl ?_
   intro s w he
   repeat' (first
|refine zA ?_
|refine zB ?_
|refine zK ?_
|apply aw_1
 conv => whnf
 refine ⟨?_,trivial⟩
|apply s_1
 conv => whnf; arg 1; arg 4; arg 3; whnf
 refine ⟨?_,?_⟩
|exact trivial)
   refine zV (fun j st => Sub (cx EN5 Tryz.prog s w he) st (HSs [] 0)) 0 (Sub.live ⟨rfl,rfl,rfl,trivial⟩ trivial) ?_
   rintro j st hs2
   refine zW hs2 ?_
   clear hs2
   repeat' (first
|refine zA ?_
|refine zB ?_
|refine zK ?_
|apply aw_1
 conv => whnf
 refine ⟨?_,trivial⟩
|apply s_1
 conv => whnf; arg 1; arg 4; arg 3; whnf
 refine ⟨?_,?_⟩
|refine zI ?_
|refine zE rfl ?_
|refine zF ?_
|refine zC ?_
|refine ⟨_,by conv => lhs; whnf; arg 2; whnf,?_⟩; conv => rhs; whnf
|exact trivial)
 | succ k ih =>
   intro l hw hk
   have hl:=zAA l
   have f0 : ((l.length : Int) != (l.length : Int)) = false:=by simp
   refine zG 77 Tryz.func71 rfl rfl rfl rfl ?_
   intro s w he
   repeat' (first
|apply zL
 . conv => lhs; whnf
 . assumption
|refine zA ?_
|refine zB ?_
|refine zK ?_
|apply aw_1
 conv => whnf
 refine ⟨?_,trivial⟩
|apply s_1
 conv => whnf; arg 1; arg 4; arg 3; whnf
 refine ⟨?_,?_⟩
|exact trivial)
   refine zV (fun j st => ∃ i,i + j = l.length /\ Sub (cx EN5 Tryz.prog s w he) st (HSs l i)) l.length ⟨0,by omega,Sub.live ⟨rfl,rfl,rfl,trivial⟩ trivial⟩ ?_
   rintro j st ⟨i,hij,hs2⟩
   refine zW hs2 ?_
   clear hs2
   by_cases hi : i < l.length
   . have f1 : decide ((i : Int) < (l.length : Nat)) = true:=decide_eq_true (by omega)
     have b0:=zk hi
     have b1:=zZ (gD l i)
     have b4:=wD_f (gD l i) 4; have b4':=zi ((gD l i).f 4)
     have b5:=wD_f (gD l i) 5; have b5':=zi ((gD l i).f 5)
     have b6:=wD_f (gD l i) 6; have b6':=zi ((gD l i).f 6)
     have h1:=zEX ((gD l i).f 4).l (by omega)
     have h2:=zII ((gD l i).f 5).l (by omega)
     have h3:=ih ((gD l i).f 6).l (by omega) (by omega)
     have q0 : (((gD l i).f 0).n != ((gD l i).f 0).n) = false:=by simp
     have q : ∀ a : ByteArray,(!(a.toList == a.toList)) = false:=fun a => by simp
     have f2:=q ((gD l i).f 1).s
     have f3:=q ((gD l i).f 2).s
     have f4:=q ((gD l i).f 3).s
     have k0 : ((((gD l i).f 0).n != ((gD l i).f 0).n) == false) = false -> False:=fun h => by rw [q0] at h; cases h
     have k1 : ((!(((gD l i).f 1).s.toList == ((gD l i).f 1).s.toList)) == false) = false -> False:=fun h => by rw [f2] at h; cases h
     have k2 : ((!(((gD l i).f 2).s.toList == ((gD l i).f 2).s.toList)) == false) = false -> False:=fun h => by rw [f3] at h; cases h
     have k3 : ((!(((gD l i).f 3).s.toList == ((gD l i).f 3).s.toList)) == false) = false -> False:=fun h => by rw [f4] at h; cases h
     repeat' (first
|apply zDd ([]) ([(8,[6]),(9,[7]),(10,[6]),(11,[7])]) ([(8,6),(9,7)]) rfl (by kernel_rfl) (by kernel_rfl) (by kernel_rfl) (by intro p hp; simp only [List.mem_cons,List.not_mem_nil,or_false] at hp; rcases hp with rfl | rfl <;> (repeat' (first | exact fresh_S rfl | refine fresh_put ?_ rfl | refine fresh_res ?_ rfl rfl)))
|apply h_nil
|apply zEn rfl rfl rfl rfl
 . conv => lhs; whnf; arg 1; whnf
 . rfl
 . rfl
 . kernel_rfl
|apply h_val rfl
 . conv => lhs; whnf
 . conv => lhs; whnf; arg 2; whnf
 . kernel_rfl
|apply zEm rfl rfl rfl
 . conv => lhs; whnf
 . rfl
 . conv => lhs; whnf; arg 1; whnf
 . conv => lhs; whnf; arg 1; whnf
 . exact ⟨by kernel_rfl,by kernel_rfl⟩
 . rfl
 . kernel_rfl
|show inO _ _ = true; rfl
|apply zU
 . conv => lhs; whnf
 . assumption
|exact (k0 ‹_›).elim
|exact (k1 ‹_›).elim
|exact (k2 ‹_›).elim
|exact (k3 ‹_›).elim
|refine zA ?_
|refine zB ?_
|refine zK ?_
|refine zb ?_
|apply aw_1
 conv => whnf
 refine ⟨?_,trivial⟩
|apply zR rfl rfl
 . conv => lhs; whnf
 . conv => lhs; whnf
 . first | exact bF1 ‹_› | exact bF2 ‹_›
|apply s_1
 conv => whnf; arg 1; arg 4; arg 3; whnf
 refine ⟨?_,?_⟩
|apply zD rfl
 . conv => lhs; whnf
 . conv => lhs; whnf
 . first | rfl | assumption
 . conv => lhs; whnf; arg 2; whnf
|apply za rfl
 . conv => lhs; whnf
 . conv => lhs; whnf
 . first | rfl | assumption
 . conv => lhs; whnf
 . first | exact h1 | exact h2 | exact h3
|apply zJ rfl
 . conv => lhs; whnf
 . conv => lhs; whnf
 . conv => lhs; whnf; arg 2; whnf
|exact trivial
|intro hg)
     all_goals first
      | exact zT (by omega)
      | exact zAm hi
      | exact zH (j':=j - 1) (by omega) ⟨i + 1,by omega,Sub.live ⟨rfl,rfl,rfl,trivial⟩ trivial⟩
   . have f1 : decide ((i : Int) < (l.length : Nat)) = false:=decide_eq_false (by omega)
     repeat' (first
|apply zL
 . conv => lhs; whnf
 . assumption
|refine zA ?_
|refine zB ?_
|refine zK ?_
|apply aw_1
 conv => whnf
 refine ⟨?_,trivial⟩
|apply s_1
 conv => whnf; arg 1; arg 4; arg 3; whnf
 refine ⟨?_,?_⟩
|refine zI ?_
|refine zE rfl ?_
|refine zF ?_
|refine zC ?_
|refine ⟨_,by conv => lhs; whnf; arg 2; whnf,?_⟩; conv => rhs; whnf
|exact trivial)
end Go.Proofs.YthjiclhfhjdjpaaGreatDoor
