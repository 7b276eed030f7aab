import Derived.Lib.LaidTab
import Derived.Lib.SmallJoins
import Derived.Test.YtdlnnlglmifceaaGreatDoorV23
set_option maxRecDepth 100000
set_option linter.unusedVariables false
set_option linter.unusedSimpArgs false
namespace Go.Proofs.YtdlnnlglmifceaaGreatDoor
open Go.RowKit
attribute [local irreducible] wpList Calls Code.wp
theorem zDs {P : Program} {w w' : World} {n : String} {cs : Array Value} (h : w.var? P n = some cs) (hb : Below w.heap.size w w') : w'.var? P n = some cs:=by
 unfold World.var? at h |-
 cases hg : P.globalNamed n with
 | none => rw [hg] at h; cases h
 | some g =>
   rw [hg] at h
   simp only [Option.bind_some] at h |-
   have hl : g < w.heap.size:=by
    rcases Nat.lt_or_ge g w.heap.size with h' | h'
    . exact h'
    . rw [Array.getElem?_eq_none h'] at h; cases h
   rw [hb.block g hl]; exact h
def Env (w : World) : Prop := Lib.TabIs Tryz.prog w "internal/strconv.uint64pow10" .u64 Lib.pow10Tab /\ (∃ tp p, w.var? Tryz.prog "strconv.ErrRange" = some #[.iface tp p]) /\ (∃ tp p, w.var? Tryz.prog "strconv.ErrSyntax" = some #[.iface tp p])
theorem Env.below {w w' : World} (h : Env w) (hb : Below w.heap.size w w') : Env w':=by
 obtain ⟨h1,⟨tp,p,h2⟩,⟨tp',p',h3⟩⟩:=h
 exact ⟨zDs h1 hb,⟨tp,p,zDs h2 hb⟩,⟨tp',p',zDs h3 hb⟩⟩
theorem zE2 (w : World) (k : Nat) (os : Array Obj) : Below w.heap.size w (Go.«Sort».grow (w.drewN k) os):=by
 refine ⟨rfl,rfl,rfl,?_,fun i hi => ?_⟩
 . rw [Go.«Sort».size_grow]; exact Nat.le_add_right _ _
 . show (w.heap ++ os)[i]? = w.heap[i]?
   rw [Array.getElem?_append_left hi]
theorem zAN {n : Int} (h : -9223372036854775808 <= n /\ n <= 9223372036854775807) : IntKind.i64.min <= n /\ n <= IntKind.i64.max:=h
theorem var_stays {P : Program} {w w' : World} {n : String} {g G : Nat} {cs : Array Value} (hg : P.globalNamed n = some g) (hG : g < G) (h : w.var? P n = some cs) (hs : ∀ k,k < G -> w'.heap[k]? = w.heap[k]?) : w'.var? P n = some cs:=by
 unfold World.var? at h |-
 rw [hg] at h |-
 simp only [Option.bind_some] at h |-
 rw [hs g hG]; exact h
def EnvT (w : World) : Prop := Lib.TabIs Tryz.prog w "internal/strconv.uint64pow10" .u64 Lib.pow10Tab
def EN : Ge where
 G:=1 + 1
 E:=EnvT
 stays w w' h hs:=var_stays (g:=1) (by kernel_rfl) (by omega) h hs
 le w h:=by
  have h1:=h
  unfold EnvT Lib.TabIs World.var? at h1
  rw [show Tryz.prog.globalNamed "internal/strconv.uint64pow10" = some 1 by kernel_rfl] at h1
  simp only [Option.bind_some] at h1
  rcases Nat.lt_or_ge 1 w.heap.size with h' | h'
  . exact h'
  . rw [Array.getElem?_eq_none h'] at h1; cases h1
theorem ac_ofV {f : FuncId} {args : List V} {r : V} {u : Value} (h : ∀ s w us,relL Tryz.prog s w args us.toList -> EnvT w -> (∀ s' w',rel Tryz.prog s' w' r u) /\ Calls Tryz.prog f us w fun e w' => e = .returned u /\ Below w.heap.size w w') : AC EN Tryz.prog f args r:=by
 intro s w us hus hfx he
 obtain ⟨hr,hc⟩:=h s w us hus he
 refine hc.mono ?_
 rintro e w' ⟨rfl,hb⟩
 have hc : ∀ b o,s.F b o -> w'.cell? ⟨b,o,none⟩ = w.cell? ⟨b,o,none⟩:=fun b o hF => by
  obtain ⟨x,hx⟩:=Option.isSome_iff_exists.1 (hfx b o hF)
  exact hb.cell (p:=⟨b,o,none⟩) (block_lt_of_cell hx)
 exact ⟨u,s.F,rfl,Frm.of_below hb,fun b o hF => ⟨hc b o hF,hF⟩,fun b o hF => by rw [hc b o hF]; exact hfx b o hF,fun _ _ _ h => h,hr _ _⟩
theorem zHO {f : FuncId} {args : List V} {r : Value} (h : ∀ s w us,relL Tryz.prog s w args us.toList -> EnvT w -> okV r /\ Calls Tryz.prog f us w fun e w' => e = .returned r /\ Below w.heap.size w w') : AC EN Tryz.prog f args (.c r):=
 ac_ofV fun s w us hus he => ⟨fun s' w' => by rw [rel]; exact ⟨rfl,(h s w us hus he).1⟩,(h s w us hus he).2⟩
theorem zD2 {P : Program} {s : Sg} {w : World} {v : V} {us : Array Value} (h : relL P s w [v] us.toList) : ∃ u,us = #[u] /\ rel P s w v u:=by
 cases hl : us.toList with
 | nil => rw [hl] at h; simp [relL] at h
 | cons x xs =>
   rw [hl,relL] at h
   cases xs with
   | nil => exact ⟨x,by apply Array.ext'; simpa using hl,h.1⟩
   | cons y ys => simp [relL] at h
theorem zGn {P : Program} {s : Sg} {w : World} {v v2 : V} {us : Array Value} (h : relL P s w [v,v2] us.toList) : ∃ u u2,us = #[u,u2] /\ rel P s w v u /\ rel P s w v2 u2:=by
 cases hl : us.toList with
 | nil => rw [hl] at h; simp [relL] at h
 | cons x xs =>
   rw [hl,relL] at h
   cases xs with
   | nil => simp [relL] at h
   | cons y ys =>
     rw [relL] at h
     cases ys with
     | nil => exact ⟨x,y,by apply Array.ext'; simpa using hl,h.1,h.2.1⟩
     | cons z zs => simp [relL] at h
theorem bs_ok {l : List UInt8} (h : l.length <= 9223372036854775807) : okV (.string (bs l)):=by
 show (bs l).size <= maxLen
 rw [zAJ]; unfold maxLen; omega
def tx (s : ByteArray) : List UInt8:=s.data.toList
theorem zB9 (l : List UInt8) : tx (bs l) = l:=rfl
theorem zCM (s : ByteArray) : bs (tx s) = s:=by unfold bs tx; simp
theorem zAj (s : ByteArray) : (tx s).length = s.size:=by unfold tx; simp
theorem zAr (a b : ByteArray) : tx (a ++ b) = tx a ++ tx b:=by unfold tx; simp
theorem zAR (a : Array UInt8) : (⟨a⟩ : ByteArray).size = a.size:=rfl
theorem zZ : zAX Tryz.prog 28 = some (9,16):=by kernel_rfl
theorem zAm : zAX Tryz.prog 38 = some (3,8):=by kernel_rfl
theorem zB1 : (⟨#[]⟩ : ByteArray).toList = []:=by rw [Lib.toList_data]
theorem s_ne {s : ByteArray} (h : (!s.toList == (⟨#[]⟩ : ByteArray).toList) = true) : tx s ≠ []:=by
 rw [zB1,Lib.toList_data] at h
 intro e
 unfold tx at e
 rw [e] at h; simp at h
theorem s_eq {s : ByteArray} (h : (!s.toList == (⟨#[]⟩ : ByteArray).toList) = false) : tx s = []:=by
 rw [zB1,Lib.toList_data] at h
 unfold tx
 simpa using h
theorem e_eq {s : ByteArray} (h : (s.toList == (⟨#[]⟩ : ByteArray).toList) = true) : tx s = []:=by
 rw [zB1,Lib.toList_data] at h
 unfold tx
 simpa using h
theorem e_ne {s : ByteArray} (h : (s.toList == (⟨#[]⟩ : ByteArray).toList) = false) : tx s ≠ []:=by
 rw [zB1,Lib.toList_data] at h
 intro e
 unfold tx at e
 rw [e] at h; simp at h
def txs (l : List D) : List (List UInt8):=l.map fun d => tx d.s
theorem str_cells {w : World} {F : Nat -> Nat -> Prop} {l : List D} {u : Value} (h : SlV Tryz.prog w F 9 l u) : ∃ A c,u = .slice A l.length c /\ l.length <= c /\ (0 < l.length -> ∃ b off,A = some ⟨b,off,none⟩ /\ b < w.heap.size /\ ∀ i,i < l.length -> w.cell? ⟨b,off + i,none⟩ = some (.string (gD l i).s)):=by
 obtain ⟨k,A,c,rfl,h2,h3,h4,h5⟩:=h
 refine ⟨A,c,rfl,h2,fun hp => ?_⟩
 have hc : Tryz.prog.cellsOf 9 = 1:=by kernel_rfl
 have hu : Tryz.prog.underlying 9 = some .string:=by kernel_rfl
 obtain ⟨b,off,hA,hi⟩:=h5 hp (by rw [hc]; omega)
 refine ⟨b,off,hA,?_,fun i hil => ?_⟩
 . obtain ⟨ys,y1,y2,_⟩:=hi 0 hp
   exact block_lt_of_cell (y2 0 _ (List.getElem?_eq_getElem (by omega))).1
 . obtain ⟨ys,y1,y2,y3⟩:=hi i hil
   cases k with
   | zero => exact y3.elim
   | succ k =>
     unfold RepF at y3
     simp only [hu] at y3
     obtain ⟨rfl,-⟩:=y3
     have:=(y2 0 _ rfl).1
     rw [hc] at this
     simpa using this
theorem zBp (l : List D) (sep : List UInt8) (hn : l.length <= 100000000) (hl : (Lib.join (txs l) sep).length <= 100000000000) :
 AC EN Tryz.prog 98 [.sl 9 l,.c (.string (bs sep))] (.c (.string (bs (Lib.join (txs l) sep)))):=
 zHO fun s w us hus _ => by
  refine ⟨bs_ok (by omega),?_⟩
  obtain ⟨u,u2,rfl,h1,h2⟩:=zGn hus
  rw [rel] at h1
  rw [rel] at h2
  obtain ⟨rfl,-⟩:=h2
  obtain ⟨A,c,rfl,hc,hcells⟩:=str_cells h1
  have e1 : (l.map (·.s)).map (·.data.toList) = txs l:=by unfold txs tx; rw [List.map_map]; rfl
  have e2 : (bs sep).data.toList = sep:=zDS sep
  by_cases h0 : 0 < l.length
  . obtain ⟨g,off,rfl,hg,hj⟩:=hcells h0
    have hk:=Tryz.strings_Join g off c (l.map (·.s)) (bs sep) w (fun j x hx => by
     rw [List.getElem?_map,Option.map_eq_some_iff] at hx
     obtain ⟨d,hd,rfl⟩:=hx
     have hjl:=List.getElem?_eq_some_iff.1 hd
     rw [hj j hjl.1,zBd hjl.1,hjl.2]) hg (by simp; omega) (by simpa using hc) (by rw [e1,e2]; omega)
    rw [List.length_map] at hk
    refine hk.mono fun e w' h => ⟨?_,h.2⟩
    rw [h.1,e1,e2]; rfl
  . have hz : l = []:=List.eq_nil_of_length_eq_zero (by omega)
    subst hz
    exact (Tryz.strings_Join_none A c (bs sep) w).mono fun e w' h => ⟨by rw [h.1]; rfl,by rw [h.2]; exact Below.refl _ _⟩
theorem zBu (n : Int) (h0 : -9223372036854775808 <= n) (h1 : n <= 9223372036854775807) : (Lib.itoa n).length <= 21:=by
 unfold Lib.itoa
 split
 . have:=dec_len (u:=n.natAbs) (by omega)
   simp only [List.length_cons]; omega
 . have:=dec_len (u:=n.toNat) (by omega)
   omega
theorem zG0 (n : Int) (h0 : -9223372036854775808 <= n) (h1 : n <= 9223372036854775807) : AC EN Tryz.prog 97 [.c (.int .i64 n)] (.c (.string (bs (Lib.itoa n)))):=
 zHO fun s w us hus he => by
  refine ⟨bs_ok (by have:=zBu n h0 h1; omega),?_⟩
  obtain ⟨u,rfl,h⟩:=zD2 hus
  rw [rel] at h
  obtain ⟨rfl,-⟩:=h
  refine (Tryz.strconv_Itoa n h0 h1 w he).mono fun e w' h => ?_
  obtain ⟨q1,k,os,rfl⟩:=h
  exact ⟨by rw [q1]; rfl,zE2 w k os⟩
theorem zHB (n : Int) (h0 : -9223372036854775808 <= n) (h1 : n <= 9223372036854775807) : AC EN Tryz.prog 197 [.c (.int .i64 n)] (.c (.string (bs (Lib.itoa n)))):=
 zHO fun s w us hus he => by
  refine ⟨bs_ok (by have:=zBu n h0 h1; omega),?_⟩
  obtain ⟨u,rfl,h⟩:=zD2 hus
  rw [rel] at h
  obtain ⟨rfl,-⟩:=h
  have H:=Lib.hid (Tryz.strconv_Itoa n h0 h1 w he)
  clear he
  go_enter Tryz.func197,Tryz.ntmps197
  go_wp2_with fail
  refine H.out.mono ?_
  rintro e w2 ⟨rfl,k,os,rfl⟩
  have Hb:=Lib.hid (zE2 w k os)
  generalize Go.«Sort».grow (w.drewN k) os = w2 at *
  go_wp2
  go_ret
  exact ⟨rfl,Hb.out⟩
theorem quoteP_ac (s : ByteArray) (hs : s.size <= 1048576) : AC EN Tryz.prog 198 [.c (.string s)] (.c (.string (bs (zD3 (tx s))))):=
 zHO fun _ w us hus he => by
  refine ⟨bs_ok (by have:=zCs (tx s); have:=zAj s; simp only [zD3,List.length_append,List.length_cons,List.length_nil]; omega),?_⟩
  obtain ⟨u,rfl,h⟩:=zD2 hus
  rw [rel] at h
  obtain ⟨rfl,-⟩:=h
  exact quoteP s w hs
end Go.Proofs.YtdlnnlglmifceaaGreatDoor
