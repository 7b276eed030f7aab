import Derived.Lib.LaidTab
import Derived.Lib.SmallJoins
import Derived.Test.YtdlnnlglmifceaaGreatDoorQ22
set_option maxHeartbeats 4000000
set_option maxRecDepth 100000
set_option linter.unusedVariables false
set_option linter.unusedSimpArgs false
namespace Go.Proofs.YtdlnnlglmifceaaGreatDoor
open Go.RowKit
attribute [local irreducible] wpList Calls Code.wp
theorem zDy {P : Program} {w w' : World} {n : String} {cs : Array Value} (h : w.var? P n = some cs) (hb : Below w.heap.size w w') : w'.var? P n = some cs:=by
 unfold World.var? at h |-
 cases hg : P.globalNamed n with
 | none => rw [hg] at h; cases h
 | some g =>
   rw [hg] at h
   simp only [Option.bind_some] at h |-
   have hl : g < w.heap.size:=by
    rcases Nat.lt_or_ge g w.heap.size with h' | h'
    . exact h'
    . rw [Array.getElem?_eq_none h'] at h; cases h
   rw [hb.block g hl]; exact h
def Env (w : World) : Prop := Lib.TabIs Tryz.prog w "internal/strconv.uint64pow10" .u64 Lib.pow10Tab /\ (∃ tp p, w.var? Tryz.prog "strconv.ErrRange" = some #[.iface tp p]) /\ (∃ tp p, w.var? Tryz.prog "strconv.ErrSyntax" = some #[.iface tp p])
theorem Env.below {w w' : World} (h : Env w) (hb : Below w.heap.size w w') : Env w':=by
 obtain ⟨h1,⟨tp,p,h2⟩,⟨tp',p',h3⟩⟩:=h
 exact ⟨zDy h1 hb,⟨tp,p,zDy h2 hb⟩,⟨tp',p',zDy h3 hb⟩⟩
theorem zo {n : Int} (h : -9223372036854775808 <= n /\ n <= 9223372036854775807) : IntKind.i64.min <= n /\ n <= IntKind.i64.max:=h
theorem zCq {P : Program} {w w' : World} {n : String} {g G : Nat} {cs : Array Value} (hg : P.globalNamed n = some g) (hG : g < G) (h : w.var? P n = some cs) (hs : ∀ k,k < G -> w'.heap[k]? = w.heap[k]?) : w'.var? P n = some cs:=by
 unfold World.var? at h |-
 rw [hg] at h |-
 simp only [Option.bind_some] at h |-
 rw [hs g hG]; exact h
def EnvT (w : World) : Prop := Lib.TabIs Tryz.prog w "internal/strconv.uint64pow10" .u64 Lib.pow10Tab
def EN : Ge where
 G:=1 + 1
 E:=EnvT
 stays w w' h hs:=zCq (g:=1) (by kernel_rfl) (by omega) h hs
 le w h:=by
  have h1:=h
  unfold EnvT Lib.TabIs World.var? at h1
  rw [show Tryz.prog.globalNamed "internal/strconv.uint64pow10" = some 1 by kernel_rfl] at h1
  simp only [Option.bind_some] at h1
  rcases Nat.lt_or_ge 1 w.heap.size with h' | h'
  . exact h'
  . rw [Array.getElem?_eq_none h'] at h1; cases h1
theorem ac_ofV {f : FuncId} {args : List V} {r : V} {u : Value} (h : ∀ s w us,relL Tryz.prog s w args us.toList -> EnvT w -> (∀ s' w',rel Tryz.prog s' w' r u) /\ Calls Tryz.prog f us w fun e w' => e = .returned u /\ Below w.heap.size w w') : AC EN Tryz.prog f args r:=by
 intro s w us hus hfx he
 obtain ⟨hr,hc⟩:=h s w us hus he
 refine hc.mono ?_
 rintro e w' ⟨rfl,hb⟩
 have hc : ∀ b o,s.F b o -> w'.cell? ⟨b,o,none⟩ = w.cell? ⟨b,o,none⟩:=fun b o hF => by
  obtain ⟨x,hx⟩:=Option.isSome_iff_exists.1 (hfx b o hF)
  exact hb.cell (p:=⟨b,o,none⟩) (block_lt_of_cell hx)
 exact ⟨u,s.F,rfl,Frm.of_below hb,fun b o hF => ⟨hc b o hF,hF⟩,fun b o hF => by rw [hc b o hF]; exact hfx b o hF,fun _ _ _ h => h,hr _ _⟩
theorem ac_of {f : FuncId} {args : List V} {r : Value} (h : ∀ s w us,relL Tryz.prog s w args us.toList -> EnvT w -> okV r /\ Calls Tryz.prog f us w fun e w' => e = .returned r /\ Below w.heap.size w w') : AC EN Tryz.prog f args (.c r):=
 ac_ofV fun s w us hus he => ⟨fun s' w' => by rw [rel]; exact ⟨rfl,(h s w us hus he).1⟩,(h s w us hus he).2⟩
theorem zG1 {P : Program} {s : Sg} {w : World} {v : V} {us : Array Value} (h : relL P s w [v] us.toList) : ∃ u,us = #[u] /\ rel P s w v u:=by
 cases hl : us.toList with
 | nil => rw [hl] at h; simp [relL] at h
 | cons x xs =>
   rw [hl,relL] at h
   cases xs with
   | nil => exact ⟨x,by apply Array.ext'; simpa using hl,h.1⟩
   | cons y ys => simp [relL] at h
theorem rel_two {P : Program} {s : Sg} {w : World} {v v2 : V} {us : Array Value} (h : relL P s w [v,v2] us.toList) : ∃ u u2,us = #[u,u2] /\ rel P s w v u /\ rel P s w v2 u2:=by
 cases hl : us.toList with
 | nil => rw [hl] at h; simp [relL] at h
 | cons x xs =>
   rw [hl,relL] at h
   cases xs with
   | nil => simp [relL] at h
   | cons y ys =>
     rw [relL] at h
     cases ys with
     | nil => exact ⟨x,y,by apply Array.ext'; simpa using hl,h.1,h.2.1⟩
     | cons z zs => simp [relL] at h
def tx (s : ByteArray) : List UInt8:=s.data.toList
theorem tx_len (s : ByteArray) : (tx s).length = s.size:=by unfold tx; simp
theorem zEM : zAS Tryz.prog 28 = some (9,16):=by kernel_rfl
theorem itoa_size (n : Int) (h0 : -9223372036854775808 <= n) (h1 : n <= 9223372036854775807) : (Lib.itoa n).length <= 21:=by
 unfold Lib.itoa
 split
 . have:=dec_len (u:=n.natAbs) (by omega)
   simp only [List.length_cons]; omega
 . have:=dec_len (u:=n.toNat) (by omega)
   omega
theorem numU_empty {l : List UInt8} (h : magU l = []) : numU l = Lib.NumEnd.syntax:=by unfold numU; rw [if_pos (.inl h)]
theorem numU_zero {l : List UInt8} (h : (magU l).head? = some 48) (h1 : 1 < l.length) : numU l = Lib.NumEnd.syntax:=by unfold numU; rw [if_pos (.inr ⟨h,h1⟩)]
theorem numU_bad {l : List UInt8} (h : (magU l).all digU = false) : numU l = Lib.NumEnd.syntax:=by
 unfold numU
 by_cases h0 : magU l = [] \/ (magU l).head? = some 48 /\ 1 < l.length
 . rw [if_pos h0]
 . rw [if_neg h0,if_pos h]
theorem numU_val {l : List UInt8} (h0 : magU l ≠ []) (h1 : ¬ ((magU l).head? = some 48 /\ 1 < l.length)) (h : (magU l).all digU = true) : numU l = Lib.atoiAll l:=by
 rw [zIQ l h0 h]
 unfold numU
 rw [if_neg (fun e => e.elim h0 h1),if_neg (by rw [h]; simp)]
theorem atoi_ns {l : List UInt8} (h0 : magU l ≠ []) (h : (magU l).all digU = true) : Lib.atoiAll l ≠ Lib.NumEnd.syntax:=by
 rw [zIQ l h0 h]
 intro e
 split at e <;> split at e <;> cases e
theorem trim_mag (l : List UInt8) : Lib.trimPrefix l [45] = magU l:=by
 cases l with
 | nil => rfl
 | cons c r =>
   unfold Lib.trimPrefix Lib.hasPrefix magU
   by_cases h : c = 45
   . subst h; simp
   . have h' : ¬ (45 : UInt8) = c:=fun e => h e.symm
     simp [h,h']
theorem mag_length (l : List UInt8) : (magU l).length <= l.length:=by
 unfold magU; split
 . simp
 . exact Nat.le_refl _
theorem bV_bs {l : List UInt8} {k : Nat} (h : k < l.length) : bV (bs l) k = ((l[k]'h).toNat : Int):=by
 unfold bV
 rw [zA2]
 simp [List.getElem?_eq_getElem h]
theorem digB_U (c : UInt8) : digB (c.toNat : Int) = digU c:=by
 rw [Bool.eq_iff_iff,zBw]
 simp [digB]; omega
theorem all_dig {l : List UInt8} (h : ∀ k,k < l.length -> digB (bV (bs l) k) = true) : l.all digU = true:=by
 rw [List.all_eq_true]
 intro c hc
 obtain ⟨k,hk,rfl⟩:=List.mem_iff_getElem.1 hc
 rw [<- digB_U,<- bV_bs hk]; exact h k hk
theorem not_dig {l : List UInt8} {k : Nat} (hk : k < l.length) (h : digB (bV (bs l) k) = false) : l.all digU = false:=by
 rw [List.all_eq_false]
 refine ⟨l[k],List.getElem_mem hk,?_⟩
 rw [<- digB_U,<- bV_bs hk,h]; simp
theorem head_bs {l : List UInt8} (h : 0 < l.length) : l.head? = some 48 ↔ bV (bs l) 0 = 48:=by
 cases l with
 | nil => simp at h
 | cons c r =>
   rw [bV_bs h,List.head?_cons]
   constructor
   . intro e; rw [Option.some.inj e] at *; rfl
   . intro e
     have e : c.toNat = UInt8.toNat 48:=by have : UInt8.toNat 48 = 48:=rfl; simp at e; omega
     rw [UInt8.toNat_inj.1 e]
def numT : Lib.NumEnd Int -> Value
 | .ok v => .tuple #[.int .i64 v,.int .i64 0]
 | Lib.NumEnd.syntax => .tuple #[.int .i64 0,.int .i64 3]
 | .range => .tuple #[.int .i64 0,.int .i64 4]
def Nm (r : Lib.NumEnd Int) (w : World) (e : Ending) (w' : World) : Prop:=e = .returned (numT r) /\ Below w.heap.size w w'
theorem numberP (s : ByteArray) (w : World) (he : Env w) (hs : s.size <= 281474976710656) : Calls Tryz.prog 113 #[.string s] w (Nm (numU s.data.toList) w):=by
 have HT:=Lib.hid (Tryz.strings_TrimPrefix s (bs [45]) w)
 have HE:=Lib.hid he; clear he
 have hml:=mag_length s.data.toList
 have hsl : s.data.toList.length = s.size:=by simp
 rw [hsl] at hml
 have ht : (⟨(Lib.trimPrefix s.data.toList (bs [45]).data.toList).toArray⟩ : ByteArray) = bs (magU s.data.toList):=by rw [zA2,trim_mag]; rfl
 rw [ht] at HT
 have hds : (bs (magU s.data.toList)).size = (magU s.data.toList).length:=zAL _
 have Hlen:=Lib.hid hsl
 obtain ⟨l,hl⟩ : ∃ l,l = s.data.toList:=⟨_,rfl⟩
 rw [<- hl] at hml HT hds Hlen |-
 have Hl:=Lib.hid hl; clear hl ht hsl
 obtain ⟨d,hd⟩ : ∃ d,d = bs (magU l):=⟨_,rfl⟩
 rw [<- hd] at HT hds
 have Hd:=Lib.hid hd; clear hd
 have Hds:=Lib.hid hds
 have hdz : d.size <= s.size:=by omega
 clear hds hml
 by_cases h0 : d.size = 0
 . have Hn:=Lib.hid (numU_empty (l:=l) (List.eq_nil_of_length_eq_zero (by rw [<- Hds.out]; exact h0)))
   obtain ⟨q0,q00⟩:=zIB (s:=d) h0
   clear h0
   go_enter Tryz.func113,Tryz.ntmps113
   go_wp2_with fail
   refine HT.out.mono ?_
   rintro e w2 ⟨rfl,rfl⟩
   go_wp2
   go_ret2
   exact ⟨by rw [Hn.out]; rfl,Below.refl _ _⟩
 have hd0 : 0 < d.size:=by omega
 obtain ⟨q0,q00⟩:=zHs hd0
 have hi0 : (0 : Int) < (d.size : Int):=by omega
 have hb0:=zFr hd0
 have hr0:=zBz d 0
 have Hhead:=Lib.hid (head_bs (l:=magU l) (by rw [<- Hds.out]; exact hd0))
 rw [<- Hd.out] at Hhead
 by_cases hz : bV d 0 = 48 /\ 1 < s.size
 . have Hn:=Lib.hid (numU_zero (l:=l) (Hhead.out.2 hz.1) (by rw [Hlen.out]; exact hz.2))
   have q1 : decide ((s.size : Int) > 1) = true:=decide_eq_true (by omega)
   rw [hz.1] at hb0
   clear hz
   go_enter Tryz.func113,Tryz.ntmps113
   go_wp2_with fail
   refine HT.out.mono ?_
   rintro e w2 ⟨rfl,rfl⟩
   by_cases hd1 : 1 < d.size
   . have q2 : decide ((d.size : Int) > 1) = true:=decide_eq_true (by omega)
     go_wp2
     go_ret2
     exact ⟨by rw [Hn.out]; rfl,Below.refl _ _⟩
   . have q2 : decide ((d.size : Int) > 1) = false:=decide_eq_false (by omega)
     go_wp2
     go_ret2
     exact ⟨by rw [Hn.out]; rfl,Below.refl _ _⟩
 have Hne:=Lib.hid (show magU l ≠ [] from fun e => by have h:=Hds.out; rw [e] at h; exact h0 h)
 have Hnz:=Lib.hid (show ¬ ((magU l).head? = some 48 /\ 1 < l.length) from fun e => hz ⟨Hhead.out.1 e.1,by rw [<- Hlen.out]; exact e.2⟩)
 have Hz:=Lib.hid hz; clear hz Hhead
 have hpre : bV d 0 = 48 -> s.size <= 1:=fun e => by
  have h:=Hz.out
  rcases Nat.lt_or_ge 1 s.size with h1 | h1
  . exact absurd ⟨e,h1⟩ h
  . exact h1
 have Hds2:=Lib.hid (show d.size = (magU l).length from Hds.out)
 have Hbad:=Lib.hid (show ∀ x,x < d.size -> digB (bV d x) = false -> numU l = Lib.NumEnd.syntax from fun x hx h => numU_bad (not_dig (k:=x) (by rw [<- Hds2.out]; exact hx) (by rw [<- Hd.out]; exact h)))
 have Hgood:=Lib.hid (show (∀ k,k < d.size -> digB (bV d k) = true) -> numU l = Lib.atoiAll l /\ Lib.atoiAll l ≠ Lib.NumEnd.syntax from fun h => have ha : (magU l).all digU = true:=all_dig fun k hk => by (rw [<- Hd.out]; exact h k (by rw [Hds2.out]; exact hk))
  ⟨numU_val Hne.out Hnz.out ha,atoi_ns Hne.out ha⟩)
 have Hsl:=Lib.hid (show l = s.data.toList from Hl.out)
 clear Hne Hnz Hz Hds Hds2 Hd Hl Hlen
 have hcs : (bV d 0 = 48 /\ s.size <= 1) \/ ¬ bV d 0 = 48:=by
  by_cases e : bV d 0 = 48
  . exact .inl ⟨e,hpre e⟩
  . exact .inr e
 clear hpre
 obtain ⟨v0,hv0⟩ : ∃ v0,v0 = bV d 0:=⟨_,rfl⟩
 rw [<- hv0] at hb0 hr0 hcs
 clear hv0
 rcases hcs with ⟨hc,hc2⟩ | hc
 all_goals first
  | (subst hc
     have q1 : decide ((s.size : Int) > 1) = false:=decide_eq_false (by omega)
     have q2 : decide ((d.size : Int) > 1) = false:=decide_eq_false (by omega))
  | (have q1 : (v0 == 48) = false:=beq_false_of_ne hc)
 all_goals
  go_enter Tryz.func113,Tryz.ntmps113
  go_wp2_with fail
  refine HT.out.mono ?_
  rintro e w2 ⟨rfl,rfl⟩
  go_wp2
  go_loop [29] (fun i => ∃ m : Nat,m <= d.size /\ i = .int .i64 m /\ ∀ k,k < m -> digB (bV d k) = true) (fun i => d.size - (intOf i).toNat)
  case atStart => exact ⟨0,by omega,rfl,fun k hk => by omega⟩
  case round =>
   obtain ⟨x,hx,rfl,hall⟩:=hrel
   have Hall:=Lib.hid hall
   clear hall hb0 hr0
   by_cases hlt : x < d.size
   . have hb:=zFr hlt
     have hr:=zBz d x
     have Hat:=Lib.hid (Hbad.out x hlt)
     have Hstep:=Lib.hid (show digB (bV d x) = true -> ∀ k,k < x + 1 -> digB (bV d k) = true from fun h k hk => by
      by_cases e : k = x
      . rw [e]; exact h
      . exact Hall.out k (by omega))
     have hv : bV d x < 48 \/ (48 <= bV d x /\ bV d x <= 57) \/ 57 < bV d x:=by omega
     generalize bV d x = v at *
     rcases hv with h | h | h
     . have Hno:=Lib.hid (Hat.out (zBT (by omega)))
       go_wp2
       go_ret2
       exact ⟨by rw [Hno.out]; rfl,Below.refl _ _⟩
     . have Hok:=Lib.hid (Hstep.out (zC6 h))
       go_wp2
       go_round
       case rel => exact ⟨x + 1,by omega,by go_num,Hok.out⟩
       case measure => simp [intOf]; omega
     . have Hno:=Lib.hid (Hat.out (zBT (by omega)))
       go_wp2
       go_ret2
       exact ⟨by rw [Hno.out]; rfl,Below.refl _ _⟩
   . obtain rfl : x = d.size:=by omega
     have Hn:=Lib.hid (Hgood.out Hall.out).1
     cases hat : Lib.atoiAll l with
     | ok v =>
       have HA:=Lib.hid (Tryz.strconv_Atoi_ok s (by omega) v (by rw [<- Hsl.out]; exact hat) w2)
       rw [hat] at Hn
       clear hat
       go_wp2_with fail
       refine HA.out.mono ?_
       rintro e w3 ⟨rfl,hw⟩
       have hb : Below w2.heap.size w2 w3:=by
        rcases hw with rfl | ⟨t,rfl⟩
        . exact Below.refl _ _
        . exact Lib.bytesWorld_below _ _ _
       have Hb:=Lib.hid hb
       clear hb hw
       go_wp2
       go_ret2
       exact ⟨by rw [Hn.out]; rfl,Hb.out⟩
     | range =>
       obtain ⟨tp,p,hv⟩:=HE.out.2.1
       have HA:=Lib.hid (Tryz.strconv_Atoi_range_var s hs (by rw [<- Hsl.out]; exact hat) tp p w2 hv)
       rw [hat] at Hn
       clear hat hv
       go_wp2_with fail
       refine HA.out.mono ?_
       rintro e w3 ⟨N,rfl,hN,hc,hb⟩
       have Hb:=Lib.hid hb
       clear hb hc
       go_wp2
       go_ret2
       exact ⟨by rw [Hn.out]; rfl,Hb.out⟩
     | _ =>
       exfalso
       exact (Hgood.out Hall.out).2 hat
end Go.Proofs.YtdlnnlglmifceaaGreatDoor
