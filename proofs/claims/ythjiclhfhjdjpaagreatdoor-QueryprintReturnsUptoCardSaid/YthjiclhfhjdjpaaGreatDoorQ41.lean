import Derived.Test.YthjiclhfhjdjpaaGreatDoorQ40
set_option maxHeartbeats 8000000
set_option maxRecDepth 100000
set_option linter.unusedVariables false
set_option linter.unusedSimpArgs false
namespace Go.Proofs.YthjiclhfhjdjpaaGreatDoor
open Go.RowKit
set_option linter.unusedSectionVars false
attribute [local irreducible] wpList Calls Code.wp AW AWo OpOk seqK zx zAI loopK endK AC zm Yld Sub
attribute [local irreducible] ACB ACX ACE absLexG YldG
section
variable {s : List UInt8} {i : Nat} (hi : i < s.length) (hs : s.length <= 70000)
include hi hs
theorem read_open (h : s[i] = 34) (hn : litN (s.drop (i + 1)) = none) : AC EN5 Tryz.prog 85 [.c (.string (bs s)),.c (.int .i64 (i : Int))] failR:=by
 have hz:=zg s
 have hbt:=zBz hi
 have hgd:=zEC hi
 have hdr : s.drop i = s[i] :: s.drop (i + 1):=List.drop_eq_getElem_cons hi
 have q : ∀ n : Nat,n < 256 -> (zf (bs s) ((i : Int)).toNat == (n : Int)) = (s[i] == UInt8.ofNat n):=fun n hn => by rw [hbt]; exact zES _ n hn
 have hsg:=zAE ((bs s).data.toList.getD ((i : Int)).toNat 0)
 have f0 : zAc ((bs s).data.toList.getD ((i : Int)).toNat 0) = false:=by rw [Int.toNat_natCast,hgd,h]; rfl
 have f1 : (zf (bs s) ((i : Int)).toNat == 46) = false:=(q 46 (by omega)).trans (by rw [h]; rfl)
 have f2 : (zf (bs s) ((i : Int)).toNat == 45) = false:=(q 45 (by omega)).trans (by rw [h]; rfl)
 have f3 : decide (zf (bs s) ((i : Int)).toNat >= 48) = false:=by rw [hbt,h]; rfl
 have k1 : ((zf (bs s) ((i : Int)).toNat == 45) == false) = false -> False:=fun h2 => by rw [f2] at h2; cases h2
 have k2 : (decide (zf (bs s) ((i : Int)).toNat >= 48) == true) = true -> False:=fun h2 => by rw [f3] at h2; cases h2
 have hlt:=zBk ((bs s).data.toList.getD ((i : Int)).toNat 0)
 have f5 : wrdU ((bs s).data.toList.getD ((i : Int)).toNat 0) = false:=by rw [Int.toNat_natCast,hgd,h]; rfl
 have f6 : (zf (bs s) ((i : Int)).toNat == 34) = true:=(q 34 (by omega)).trans (by rw [h]; rfl)
 have hll:=zFS s i hi (by omega)
 have hv : litV s i = -1:=by unfold litV; rw [hn]
 rw [hv] at hll
 refine zG 116 Tryz.func85 rfl rfl rfl rfl ?_
 intro s0 w he
 repeat' (first
|apply zAN rfl rfl rfl
 . conv => lhs; whnf
 . first | rfl | assumption
 . conv => lhs; whnf
 . first | exact bF1 ‹_› | exact bF2 ‹_› | rfl
|apply zU
 . conv => lhs; whnf
 . assumption
|apply zL
 . conv => lhs; whnf
 . assumption
|exact (k1 ‹_›).elim
|exact (k2 ‹_›).elim
|refine zA ?_
|refine zB ?_
|refine zK ?_
|apply aw_1
 conv => whnf
 refine ⟨?_,trivial⟩
|apply zR rfl rfl
 . conv => lhs; whnf
 . conv => lhs; whnf
 . first | exact bF1 ‹_› | exact bF2 ‹_›
|apply s_1
 conv => whnf; arg 1; arg 4; arg 3; whnf
 refine ⟨?_,?_⟩
|apply zd rfl
 . conv => lhs; whnf
 . conv => lhs; whnf
 . first | exact hsg | exact hlt | exact hll
|apply zY rfl rfl rfl
 . conv => lhs; whnf
 . conv => lhs; whnf; arg 1; whnf
 . conv => lhs; whnf; arg 1; whnf
 . exact ⟨by kernel_rfl,by kernel_rfl⟩
 . rfl
|apply zD rfl
 . conv => lhs; whnf
 . conv => lhs; whnf
 . first | rfl | assumption
 . conv => lhs; whnf; arg 2; whnf
|apply ze rfl
 . conv => lhs; whnf
 . conv => lhs; whnf
 . first | rfl | assumption
|apply zJ rfl
 . conv => lhs; whnf
 . conv => lhs; whnf
 . conv => lhs; whnf; arg 2; whnf
|refine zM ?_
|refine zO ?_
|refine zC ?_
|exact trivial
|intro hg)
 . exact ⟨_,_,_,rfl,rfl,rfl,rfl⟩
 all_goals first
  | exact zT (by omega)
  | exact ⟨by kernel_rfl,by omega,by omega⟩
  | exact ⟨by kernel_rfl,by omega,by omega,by omega⟩
  | (rw [hbt]; exact zAT _)
  | exact (show Tryz.prog.underlying _ = some TypeDesc.string by kernel_rfl)
  | skip
theorem read_text (h : s[i] = 34) (n : Nat) (hn : litN (s.drop (i + 1)) = some n) : AC EN5 Tryz.prog 85 [.c (.string (bs s)),.c (.int .i64 (i : Int))] (tupR ⟨4,(unquoteU (s[i] :: (s.drop (i + 1)).take n)).getD [],i⟩ (i + 1 + n) (uqE (unquoteU (s[i] :: (s.drop (i + 1)).take n)))):=by
 have hz:=zg s
 have hbt:=zBz hi
 have hgd:=zEC hi
 have hdr : s.drop i = s[i] :: s.drop (i + 1):=List.drop_eq_getElem_cons hi
 have q : ∀ n : Nat,n < 256 -> (zf (bs s) ((i : Int)).toNat == (n : Int)) = (s[i] == UInt8.ofNat n):=fun n hn => by rw [hbt]; exact zES _ n hn
 have hsg:=zAE ((bs s).data.toList.getD ((i : Int)).toNat 0)
 have f0 : zAc ((bs s).data.toList.getD ((i : Int)).toNat 0) = false:=by rw [Int.toNat_natCast,hgd,h]; rfl
 have f1 : (zf (bs s) ((i : Int)).toNat == 46) = false:=(q 46 (by omega)).trans (by rw [h]; rfl)
 have f2 : (zf (bs s) ((i : Int)).toNat == 45) = false:=(q 45 (by omega)).trans (by rw [h]; rfl)
 have f3 : decide (zf (bs s) ((i : Int)).toNat >= 48) = false:=by rw [hbt,h]; rfl
 have k1 : ((zf (bs s) ((i : Int)).toNat == 45) == false) = false -> False:=fun h2 => by rw [f2] at h2; cases h2
 have k2 : (decide (zf (bs s) ((i : Int)).toNat >= 48) == true) = true -> False:=fun h2 => by rw [f3] at h2; cases h2
 have hlt:=zBk ((bs s).data.toList.getD ((i : Int)).toNat 0)
 have f5 : wrdU ((bs s).data.toList.getD ((i : Int)).toNat 0) = false:=by rw [Int.toNat_natCast,hgd,h]; rfl
 have f6 : (zf (bs s) ((i : Int)).toNat == 34) = true:=(q 34 (by omega)).trans (by rw [h]; rfl)
 have hll:=zFS s i hi (by omega)
 have hln:=zGE _ n hn
 rw [List.length_drop] at hln
 have hv : litV s i = ((i + 1 + n : Nat) : Int):=by unfold litV; rw [hn]
 rw [hv] at hll
 have f7 : decide (((i + 1 + n : Nat) : Int) < 0) = false:=decide_eq_false (by omega)
 have hx : (bs s).extract ((i : Int)).toNat (((i + 1 + n : Nat) : Int)).toNat = bs (s[i] :: (s.drop (i + 1)).take n):=by
  rw [Int.toNat_natCast,Int.toNat_natCast,zJk s (by omega) (by omega),hdr,show i + 1 + n - i = n + 1 by omega,List.take_succ_cons]
 have hsz : ((bs s).extract ((i : Int)).toNat (((i + 1 + n : Nat) : Int)).toNat).size <= 100000:=by rw [ByteArray.size_extract]; omega
 have huq:=zH5 _ hsz
 unfold uqVV at huq
 have htx : tx ((bs s).extract ((i : Int)).toNat (((i + 1 + n : Nat) : Int)).toNat) = s[i] :: (s.drop (i + 1)).take n:=by rw [hx]; exact zAi _
 rw [htx] at huq
 refine zG 116 Tryz.func85 rfl rfl rfl rfl ?_
 intro s0 w he
 repeat' (first
|apply zAN rfl rfl rfl
 . conv => lhs; whnf
 . first | rfl | assumption
 . conv => lhs; whnf
 . first | exact bF1 ‹_› | exact bF2 ‹_› | rfl
|apply zU
 . conv => lhs; whnf
 . assumption
|apply zL
 . conv => lhs; whnf
 . assumption
|exact (k1 ‹_›).elim
|exact (k2 ‹_›).elim
|refine zA ?_
|refine zB ?_
|refine zK ?_
|apply aw_1
 conv => whnf
 refine ⟨?_,trivial⟩
|apply zR rfl rfl
 . conv => lhs; whnf
 . conv => lhs; whnf
 . first | exact bF1 ‹_› | exact bF2 ‹_›
|apply s_1
 conv => whnf; arg 1; arg 4; arg 3; whnf
 refine ⟨?_,?_⟩
|apply zd rfl
 . conv => lhs; whnf
 . conv => lhs; whnf
 . first | exact hsg | exact hlt | exact hll | exact huq
|apply zY rfl rfl rfl
 . conv => lhs; whnf
 . conv => lhs; whnf; arg 1; whnf
 . conv => lhs; whnf; arg 1; whnf
 . exact ⟨by kernel_rfl,by kernel_rfl⟩
 . rfl
|apply zD rfl
 . conv => lhs; whnf
 . conv => lhs; whnf
 . first | rfl | assumption
 . conv => lhs; whnf; arg 2; whnf
|apply ze rfl
 . conv => lhs; whnf
 . conv => lhs; whnf
 . first | rfl | assumption
|apply zJ rfl
 . conv => lhs; whnf
 . conv => lhs; whnf
 . conv => lhs; whnf; arg 2; whnf
|refine zM ?_
|refine zO ?_
|refine zC ?_
|exact trivial
|intro hg)
 . exact ⟨_,_,_,rfl,rfl,rfl,rfl⟩
 all_goals first
  | exact zT (by omega)
  | exact ⟨by kernel_rfl,by omega,by omega⟩
  | exact ⟨by kernel_rfl,by omega,by omega,by omega⟩
  | (rw [hbt]; exact zAT _)
  | exact (show Tryz.prog.underlying _ = some TypeDesc.string by kernel_rfl)
  | skip
theorem read_ac : AC EN5 Tryz.prog 85 [.c (.string (bs s)),.c (.int .i64 (i : Int))] (readV (s.drop i) i):=by
 have hdr : s.drop i = s[i] :: s.drop (i + 1):=List.drop_eq_getElem_cons hi
 rw [hdr]
 unfold readV
 simp only []
 by_cases h0 : zAc s[i] = true
 . rw [if_pos h0]; exact read_sign hi hs h0
 rw [if_neg h0]
 have h0 : zAc s[i] = false:=by simpa using h0
 by_cases h46 : s[i] = 46
 . rw [if_pos (by simp [h46])]
   have hp : Lib.hasPrefix (s.drop i) [46,46,46] = decide ((s.drop (i + 1)).take 2 = [46,46]):=by
    rw [hdr,h46]
    show List.isPrefixOf [46,46] (s.drop (i + 1)) = _
    rw [Bool.eq_iff_iff]
    simp only [List.isPrefixOf_iff_prefix,decide_eq_true_eq,List.prefix_iff_eq_take]
    exact eq_comm
   have:=read_dots hi hs h0 h46 _ hp (fun hd => by
    have:=congrArg List.length (of_decide_eq_true hd)
    rw [List.length_take,List.length_drop] at this
    simp at this; omega)
   simpa using this
 rw [if_neg (by simpa using h46)]
 by_cases hd : (s[i] == 45 || digU s[i]) = true
 . rw [if_pos hd]
   refine read_num hi hs h0 h46 ?_
   by_cases h45 : s[i] = 45
   . exact .inl h45
   . exact .inr ⟨h45,by simpa [h45] using hd⟩
 rw [if_neg hd]
 have hd : (s[i] == 45 || digU s[i]) = false:=by simpa using hd
 rw [Bool.or_eq_false_iff] at hd
 have h45 : s[i] ≠ 45:=by simpa using hd.1
 have hr : s[i].toNat < 48 \/ 57 < s[i].toNat:=by
  have:=hd.2
  simp only [digU,decide_eq_false_iff_not] at this
  omega
 by_cases hw : wrdU s[i] = true
 . rw [if_pos hw]
   by_cases hl : spanN wrdU (s.drop (i + 1)) + 1 > 64
   . rw [if_pos hl]; exact read_long hi hs h0 h46 h45 hr hw (by omega)
   . rw [if_neg hl]; exact read_word hi hs h0 h46 h45 hr hw (by omega)
 rw [if_neg hw]
 have hw : wrdU s[i] = false:=by simpa using hw
 by_cases h34 : s[i] = 34
 . rw [if_pos (by simp [h34])]
   cases hn : litN (s.drop (i + 1)) with
   | none => exact read_open hi hs h34 hn
   | some n => exact read_text hi hs h34 n hn
 . rw [if_neg (by simpa using h34)]
   exact read_none hi hs h0 h46 h45 hr hw h34
end
theorem rd_split (c : UInt8) (r : List UInt8) (i : Nat) :
 (∀ k t n,readU (c :: r) = .ok (k,t,n) -> readV (c :: r) i = tupR ⟨k,t,i⟩ (i + n) 0) /\ (∀ e,readU (c :: r) = .error e -> e ≠ 0 /\ ∃ t k,readV (c :: r) i = tupR t k e):=by
 unfold readU readV
 simp only []
 have f3 : ∀ e : Int,(3 : Int) = e -> e ≠ 0 /\ ∃ t k,failR = tupR t k e:=fun e he => by subst he; exact ⟨by decide,_,_,rfl⟩
 by_cases h0 : zAc c = true
 . rw [if_pos h0,if_pos h0]
   exact ⟨fun k t n h => by cases h; rfl,fun e h => by cases h⟩
 rw [if_neg h0,if_neg h0]
 by_cases h46 : (c == 46) = true
 . rw [if_pos h46,if_pos h46]
   by_cases hp : r.take 2 = [46,46]
   . rw [if_pos hp,if_pos hp]
     exact ⟨fun k t n h => by cases h; rfl,fun e h => by cases h⟩
   . rw [if_neg hp,if_neg hp]
     exact ⟨fun k t n h => (by cases h),fun e h => by cases h; exact f3 _ rfl⟩
 rw [if_neg h46,if_neg h46]
 by_cases hd : (c == 45 || digU c) = true
 . rw [if_pos hd,if_pos hd]
   by_cases hn : nerU (numU (c :: r.take (spanN wrdU r))) = 0
   . rw [if_pos hn]
     refine ⟨fun k t n h => ?_,fun e h => by cases h⟩
     cases h
     rw [hn,show i + 1 + spanN wrdU r = i + (spanN wrdU r + 1) by omega]
   . rw [if_neg hn]
     exact ⟨fun k t n h => (by cases h),fun e h => by cases h; exact ⟨hn,_,_,rfl⟩⟩
 rw [if_neg hd,if_neg hd]
 have hd : (c == 45 || digU c) = false:=by simpa using hd
 rw [Bool.or_eq_false_iff] at hd
 have hwl : wrdU c = letU c:=by unfold wrdU; rw [hd.2,Bool.or_false]
 rw [hwl]
 by_cases hw : letU c = true
 . rw [if_pos hw,if_pos hw]
   by_cases hl : spanN wrdU r + 1 > 64
   . rw [if_pos hl,if_pos hl]
     exact ⟨fun k t n h => (by cases h),fun e h => by cases h; exact f3 _ rfl⟩
   . rw [if_neg hl,if_neg hl]
     refine ⟨fun k t n h => ?_,fun e h => by cases h⟩
     cases h
     rw [show i + 1 + spanN wrdU r = i + (spanN wrdU r + 1) by omega]
 rw [if_neg hw,if_neg hw]
 by_cases h34 : (c == 34) = true
 . rw [if_pos h34,if_pos h34]
   cases hn : litN r with
   | none => exact ⟨fun k t n h => (by cases h),fun e h => by cases h; exact f3 _ rfl⟩
   | some n =>
     dsimp only
     cases hu : unquoteU (c :: r.take n) with
     | none => exact ⟨fun k t n h => (by cases h),fun e h => by cases h; exact ⟨by decide,_,_,rfl⟩⟩
     | some t =>
       refine ⟨fun k t n h => ?_,fun e h => by cases h⟩
       cases h
       show tupR ⟨4,t,i⟩ (i + 1 + n) 0 = tupR ⟨4,t,i⟩ (i + (n + 1)) 0
       rw [show i + 1 + n = i + (n + 1) by omega]
 . rw [if_neg h34,if_neg h34]
   exact ⟨fun k t n h => (by cases h),fun e h => by cases h; exact f3 _ rfl⟩
theorem zGM : zy Tryz.prog 61 = some (143,32):=by kernel_rfl
def scanG (f : Nat) (l : List UInt8) (k : Nat) : Except (Nat × Int) (List Tok):=
 match l with
 | [] => .ok [⟨5,[],k⟩]
 | c :: r => match zD8 (c :: r) k with
   | .error e => .error (k,e)
   | .ok (t,n) => match scanF f ((c :: r).drop n) (k + n) with
     | .error e => .error e
     | .ok ts => .ok (t :: ts)
theorem scan_G (f : Nat) (l : List UInt8) (i : Nat) : scanF (f + 1) l i = scanG f (l.drop (skipM false l)) (i + skipM false l):=by
 have hle:=zA8 false l
 rw [scanF]
 unfold scanG
 cases h : l.drop (skipM false l) with
 | nil =>
   have:=congrArg List.length h
   rw [List.length_drop] at this
   have e : skipM false l = l.length:=by simp at this; omega
   rw [e]
 | cons c r => rfl
def ahead (acc : List Tok) : Except (Nat × Int) (List Tok) -> Except (Nat × Int) (List Tok)
 | .error e => .error e
 | .ok ts => .ok (acc ++ ts)
noncomputable def scanW : Except (Nat × Int) (List Tok) -> V
 | .ok ts => .tup [.sl 143 (ts.map tokD),.c (.int .i64 0),.c (.int .i64 0)]
 | .error x => .tup [.c (.slice none 0 0),.c (.int .i64 (x.1 : Int)),.c (.int .i64 x.2)]
theorem zFK (r : Except (Nat × Int) (List Tok)) : (scanW r).pure = true:=by cases r <;> rfl
noncomputable def HSn (s : List UInt8) (k : Nat) (acc : List Tok) : Vst 44:=
 stS 44 [(0,.c (.string (bs s))),(5,.own 5 143 (acc.map tokD)),(6,.c (.int .i64 (k : Int)))] [(5,.tok 143 (acc.map tokD).length)]
theorem scan_big (s : List UInt8) (hs : 65536 < s.length) (hs2 : s.length <= 4000000000) : AC EN5 Tryz.prog 37 [.c (.string (bs s))] (scanW (zCK s)):=by
 have hz:=zg s
 have e : zCK s = .error (65536,4):=by unfold zCK; rw [if_pos hs]
 have f0 : decide (((bs s).size : Int) > 65536) = true:=decide_eq_true (by omega)
 rw [e]
 refine zG 44 Tryz.func37 rfl rfl rfl (zFK _) ?_
 intro s0 w he
 repeat' (first
|apply zU
 . conv => lhs; whnf
 . assumption
|refine zA ?_
|refine zB ?_
|refine zK ?_
|apply aw_1
 conv => whnf
 refine ⟨?_,trivial⟩
|apply s_1
 conv => whnf; arg 1; arg 4; arg 3; whnf
 refine ⟨?_,?_⟩
|refine zM ?_
|refine zC ?_
|exact trivial)
 . exact ⟨_,_,_,rfl,rfl,rfl,rfl⟩
 all_goals exact (show Tryz.prog.underlying _ = some TypeDesc.string by kernel_rfl)
theorem scan_ac (s : List UInt8) (hs : s.length <= 4000000000) : AC EN5 Tryz.prog 37 [.c (.string (bs s))] (scanW (zCK s)):=by
 by_cases hbig : 65536 < s.length
 . exact scan_big s hbig hs
 have hz:=zg s
 have f0 : decide (((bs s).size : Int) > 65536) = false:=decide_eq_false (by omega)
 have hsk0:=skip_ac s 0 (by omega) (by omega)
 rw [Nat.zero_add,List.drop_zero] at hsk0
 have hkl:=zA8 false s
 have e0 : zCK s = ahead [] (scanG s.length (s.drop (skipM false s)) (skipM false s)):=by
  unfold zCK
  rw [if_neg hbig,scan_G,Nat.zero_add]
  cases scanG s.length (s.drop (skipM false s)) (skipM false s) <;> rfl
 refine zG 44 Tryz.func37 rfl rfl rfl (zFK _) ?_
 intro s0 w he
 repeat' (first
|apply zL
 . conv => lhs; whnf
 . assumption
|refine zA ?_
|refine zB ?_
|refine zK ?_
|apply aw_1
 conv => whnf
 refine ⟨?_,trivial⟩
|apply s_1
 conv => whnf; arg 1; arg 4; arg 3; whnf
 refine ⟨?_,?_⟩
|apply zd rfl
 . conv => lhs; whnf
 . conv => lhs; whnf
 . first | exact hsk0
|exact trivial)
 refine zW (Sub.own (t:=5) (e:=143) rfl rfl) ?_
 refine zV (fun j st => ∃ k acc f,k + j = s.length /\ acc.length <= k /\ s.length < f + k + 1 /\ zCK s = ahead acc (scanG f (s.drop k) k) /\ Sub (cx EN5 Tryz.prog s0 w he) st (HSn s k acc)) (s.length - skipM false s) ⟨skipM false s,[],s.length,by omega,by simp,by omega,e0,?_⟩ ?_
 . exact Sub.live ⟨rfl,rfl,rfl,trivial⟩ ⟨rfl,trivial⟩
 rintro j st ⟨k,acc,f,hkj,hacc,hf,hI,hs2⟩
 refine zW hs2 ?_
 clear hs2 hsk0
 rw [hI]
 clear hI e0
 by_cases hk : k < s.length
 . have f1 : decide ((k : Int) < ((bs s).size : Nat)) = true:=decide_eq_true (by omega)
   have hrd:=read_ac hk (by omega)
   have hdr : s.drop k = s[k] :: s.drop (k + 1):=List.drop_eq_getElem_cons hk
   obtain ⟨r1,r2⟩:=rd_split s[k] (s.drop (k + 1)) k
   rw [hdr] at hrd |-
   cases hr : readU (s[k] :: s.drop (k + 1)) with
   | error e =>
     obtain ⟨he0,t',k',ht⟩:=r2 e hr
     rw [ht] at hrd
     unfold tupR at hrd
     have hrt : zD8 (s[k] :: s.drop (k + 1)) k = .error e:=by unfold zD8; rw [hr]
     have eG : scanG f (s[k] :: s.drop (k + 1)) k = .error (k,e):=by unfold scanG; simp only [hrt]
     rw [eG]
     have f2 : (e != 0) = true:=by simpa using he0
     repeat' (first
|apply zU
 . conv => lhs; whnf
 . assumption
|refine zA ?_
|refine zB ?_
|refine zK ?_
|apply aw_1
 conv => whnf
 refine ⟨?_,trivial⟩
|apply s_1
 conv => whnf; arg 1; arg 4; arg 3; whnf
 refine ⟨?_,?_⟩
|apply zd rfl
 . conv => lhs; whnf
 . conv => lhs; whnf
 . first | exact hrd
|apply zY rfl rfl rfl
 . conv => lhs; whnf
 . conv => lhs; whnf; arg 1; whnf
 . conv => lhs; whnf; arg 1; whnf
 . exact ⟨by kernel_rfl,by kernel_rfl⟩
 . rfl
|refine zM ?_
|refine zO ?_
|refine zl ?_
|refine zC ?_
|exact trivial)
     . exact ⟨_,_,_,rfl,rfl,rfl,rfl⟩
     all_goals exact (show Tryz.prog.underlying _ = some TypeDesc.string by kernel_rfl)
   | ok p =>
     obtain ⟨kk,t,n⟩:=p
     have hn:=zEF hr
     have hdl : (s[k] :: s.drop (k + 1)).length = s.length - k:=by rw [<- hdr,List.length_drop]
     rw [hdl] at hn
     rw [r1 kk t n hr] at hrd
     unfold tupR at hrd
     have hsk:=skip_ac s (k + n) (by omega) (by omega)
     have hsl:=zA8 false (s.drop (k + n))
     rw [List.length_drop] at hsl
     have hrt : zD8 (s[k] :: s.drop (k + 1)) k = .ok (⟨kk,t,k⟩,n):=by unfold zD8; rw [hr]
     obtain ⟨f',rfl⟩ : ∃ f',f = f' + 1:=⟨f - 1,by omega⟩
     have hdn : (s[k] :: s.drop (k + 1)).drop n = s.drop (k + n):=by rw [<- hdr,List.drop_drop]
     have eG : ahead acc (scanG (f' + 1) (s[k] :: s.drop (k + 1)) k) = ahead (acc ++ [⟨kk,t,k⟩]) (scanG f' (s.drop (k + n + skipM false (s.drop (k + n)))) (k + n + skipM false (s.drop (k + n)))):=by
      conv => lhs; unfold scanG
      simp only [hrt,hdn]
      rw [scan_G,List.drop_drop]
      cases scanG f' (s.drop (k + n + skipM false (s.drop (k + n)))) (k + n + skipM false (s.drop (k + n))) with
      | error x => rfl
      | ok ts => show Except.ok (acc ++ _ :: ts) = Except.ok ((acc ++ [_]) ++ ts); rw [List.append_assoc]; rfl
     rw [eG]
     repeat' (first
|apply zD7 [tokD ⟨kk,t,k⟩] rfl rfl
 . conv => lhs; whnf
 . first | exact zGM | (conv => lhs; whnf; arg 1; whnf)
 . rfl
 . rfl
 . repeat' (first | exact trivial | apply And.intro | rfl)
|apply zU
 . conv => lhs; whnf
 . assumption
|refine zA ?_
|refine zB ?_
|refine zK ?_
|refine zb ?_
|apply aw_1
 conv => whnf
 refine ⟨?_,trivial⟩
|apply s_1
 conv => whnf; arg 1; arg 4; arg 3; whnf
 refine ⟨?_,?_⟩
|apply zd rfl
 . conv => lhs; whnf
 . conv => lhs; whnf
 . first | exact hrd | exact hsk
|apply zY rfl rfl rfl
 . conv => lhs; whnf
 . conv => lhs; whnf; arg 1; whnf
 . conv => lhs; whnf; arg 1; whnf
 . exact ⟨by kernel_rfl,by kernel_rfl⟩
 . rfl
|apply zDk rfl rfl
 . conv => lhs; whnf
 . first | exact zGM | (conv => lhs; whnf; arg 1; whnf)
 . first | exact fun _ => rfl | (intro _; kernel_rfl)
 . conv => lhs; whnf
 . conv => lhs; whnf; arg 1; whnf
 . conv => lhs; whnf
|exact trivial)
     . refine zH (j':=j - (n + skipM false (s.drop (k + n)))) (by omega) ⟨k + n + skipM false (s.drop (k + n)),acc ++ [⟨kk,t,k⟩],f',by omega,by rw [List.length_append]; simp only [List.length_cons,List.length_nil]; omega,by omega,rfl,Sub.live ⟨rfl,?_,rfl,trivial⟩ ⟨?_,trivial⟩⟩
       . show V.own 5 _ (acc.map tokD ++ [tokD ⟨kk,t,k⟩]) = V.own 5 _ ((acc ++ [(⟨kk,t,k⟩ : Tok)]).map tokD)
         rw [List.map_append]; rfl
       . show some (Res.tok _ ((acc.map tokD).length + 1)) = some (Res.tok _ ((acc ++ [(⟨kk,t,k⟩ : Tok)]).map tokD).length)
         simp
     . refine ⟨by simp,?_,?_⟩ <;> simp only [List.length_cons,List.length_nil,List.length_map,maxLen] <;> omega
     . exact (show Tryz.prog.underlying _ = some TypeDesc.string by kernel_rfl)
 . have f1 : decide ((k : Int) < ((bs s).size : Nat)) = false:=decide_eq_false (by omega)
   have hdr : s.drop k = []:=List.drop_of_length_le (by omega)
   rw [hdr]
   have ek : k = s.length:=by omega
   repeat' (first
|apply zD7 [tokD ⟨5,[],(bs s).size⟩] rfl rfl
 . conv => lhs; whnf
 . first | exact zGM | (conv => lhs; whnf; arg 1; whnf)
 . rfl
 . rfl
 . repeat' (first | exact trivial | apply And.intro | rfl)
|apply zL
 . conv => lhs; whnf
 . assumption
|refine zA ?_
|refine zB ?_
|refine zK ?_
|apply aw_1
 conv => whnf
 refine ⟨?_,trivial⟩
|apply s_1
 conv => whnf; arg 1; arg 4; arg 3; whnf
 refine ⟨?_,?_⟩
|apply zDk rfl rfl
 . conv => lhs; whnf
 . first | exact zGM | (conv => lhs; whnf; arg 1; whnf)
 . first | exact fun _ => rfl | (intro _; kernel_rfl)
 . conv => lhs; whnf
 . conv => lhs; whnf; arg 1; whnf
 . conv => lhs; whnf
|refine zI ?_
|refine zE rfl ?_
|refine zF ?_
|refine zC ?_
|exact trivial)
   . refine ⟨_,_,_,rfl,rfl,rfl,?_⟩
     show V.tup [.sl 143 ((acc ++ [(⟨5,[],k⟩ : Tok)]).map tokD),.c (.int .i64 0),.c (.int .i64 0)] = V.tup [.sl 143 (acc.map tokD ++ [tokD ⟨5,[],(bs s).size⟩]),.c (.int .i64 0),.c (.int .i64 0)]
     rw [ek,hz,List.map_append]; rfl
   . refine ⟨by simp,?_,?_⟩ <;> simp only [List.length_cons,List.length_nil,List.length_map,maxLen] <;> omega
   all_goals exact (show Tryz.prog.underlying _ = some TypeDesc.string by kernel_rfl)
 exact (show Tryz.prog.underlying _ = some TypeDesc.string by kernel_rfl)
end Go.Proofs.YthjiclhfhjdjpaaGreatDoor
namespace Go.Proofs.YthjiclhfhjdjpaaGreatDoor
open Go.RowKit
attribute [local irreducible] wpList Calls Code.wp AW AWo OpOk seqK zx zAI loopK endK AC zm Yld Sub
attribute [local irreducible] ACB ACX ACE absLexG YldG
section
variable {s : List UInt8}
theorem kq_1 (h : s = zHC) : zBK s = 1:=if_pos h
theorem kq_2 (h1 : s ≠ zHC) (h : s = mutT) : zBK s = 2:=(if_neg h1).trans (if_pos h)
theorem kq_3 (h1 : s ≠ zHC) (h2 : s ≠ mutT) (h : s = subT) : zBK s = 3:=(if_neg h1).trans ((if_neg h2).trans (if_pos h))
theorem kq_4 (h1 : s ≠ zHC) (h2 : s ≠ mutT) (h : s ≠ subT) : zBK s = 0:=(if_neg h1).trans ((if_neg h2).trans (if_neg h))
end
theorem kind_ac (s : List UInt8) : AC EN5 Tryz.prog 98 [.c (.string (bs s))] (.c (.int .i64 (zBK s))):=by
 refine zG 10 Tryz.func98 rfl rfl rfl rfl ?_
 intro s0 w he
 repeat' (first
|refine zA ?_
|refine zB ?_
|refine zK ?_
|refine zb ?_
|apply aw_1
 conv => whnf
 refine ⟨?_,trivial⟩
|apply s_1
 conv => whnf; arg 1; arg 4; arg 3; whnf
 refine ⟨?_,?_⟩
|refine zP (by conv => lhs; whnf) ?_ ?_ <;> intro hb
|refine zM ?_
|refine zO ?_
|refine zC ?_
|refine ⟨_,by conv => lhs; whnf; arg 2; whnf,?_⟩; conv => rhs; whnf
|exact trivial)
 . rw [kq_1 (zDi hb)]
 . rw [kq_2 (zBI ‹_›) (zDi hb)]
 . rw [kq_3 (zBI ‹_›) (zBI ‹_›) (zDi hb)]
 . rw [kq_4 (zBI ‹_›) (zBI ‹_›) (zBI hb)]
theorem zHa : zy Tryz.prog 38 = some (57,72):=by kernel_rfl
theorem zGN : zy Tryz.prog 39 = some (116,56):=by kernel_rfl
noncomputable def VQ (d : D) : V:=.agg (cellsV Tryz.prog 12 41 d)
noncomputable def HdQ (n : Nat) (ops frs : List D) (z : PS) : Vst 89:=
 stS 89 [(0,.bx (pn 0) 0),(2,.bx 2 0),(3,.bx 3 0),(4,.c (.int .i64 (n : Int)))] [(pn 0,boxP z),(2,.box 41 [.c (.slice none 0 0),.c (.slice none 0 0)]),(3,.box 41 [.own 903 57 ops,.own 904 116 frs]),(903,.tok 57 ops.length),(904,.tok 116 frs.length)]
section
variable {f n : Nat} {ops frs : List D} {x : PS}
def wordQ (x : PS) : Prop:=(hdT x).k = 2 /\ (0 < zBK (hdT x).s \/ (hdT x).s = zHS)
theorem dc_end (h : n ≠ 0 /\ (hdT x).k = 5) : docF (f + 1) n ops frs x = .ok ((ops,frs),x):=by rw [docF,if_pos h]
theorem dc_un (h : ¬ (n ≠ 0 /\ (hdT x).k = 5)) (hw : ¬ wordQ x) (hs : isS x [123] = false) : docF (f + 1) n ops frs x = .error ((hdT x).i,3):=by
 rw [docF,if_neg h]; exact if_pos ⟨hw,by rw [hs]; decide⟩
theorem dc_lim (h : ¬ (n ≠ 0 /\ (hdT x).k = 5)) (hw : wordQ x \/ isS x [123] = true) (hn : 64 <= n) : docF (f + 1) n ops frs x = .error ((hdT x).i,4):=by
 rw [docF,if_neg h]
 exact (if_neg (fun g => hw.elim g.1 g.2)).trans (if_pos hn)
theorem dc_set (h : ¬ (n ≠ 0 /\ (hdT x).k = 5)) (hw : ¬ wordQ x) (hs : isS x [123] = true) (hn : n < 64) : docF (f + 1) n ops frs x = thenQ (setQ x) fun ss y => docF f (n + 1) (ops ++ [opD 1 [] [] ss]) frs y:=by
 rw [docF,if_neg h]
 exact (if_neg (fun g => g.2 hs)).trans ((if_neg (by omega)).trans (if_pos hw))
theorem dc_op (h : ¬ (n ≠ 0 /\ (hdT x).k = 5)) (hw : wordQ x) (hn : n < 64) (hk : 0 < zBK (hdT x).s) : docF (f + 1) n ops frs x = thenQ (opQ (zBK (hdT x).s) (nxT x)) fun o y => docF f (n + 1) (ops ++ [o]) frs y:=by
 rw [docF,if_neg h]
 exact (if_neg (fun g => g.1 hw)).trans ((if_neg (by omega)).trans ((if_neg (fun g => g hw)).trans (if_pos hk)))
theorem dc_frag (h : ¬ (n ≠ 0 /\ (hdT x).k = 5)) (hw : wordQ x) (hn : n < 64) (hk : ¬ 0 < zBK (hdT x).s) : docF (f + 1) n ops frs x = thenQ (fragQ (nxT x)) fun o y => docF f (n + 1) ops (frs ++ [o]) y:=by
 rw [docF,if_neg h]
 exact (if_neg (fun g => g.1 hw)).trans ((if_neg (by omega)).trans ((if_neg (fun g => g hw)).trans (if_neg hk)))
end
theorem doc_ace (x : PS) (h : En x) (hlen : x.ts.length <= 100000) : ACE EN5 Tryz.prog 53 [.bx (pn 0) 0] [boxP x] (outQ (fun p => VQ (queD p.1 p.2)) (docF (x.ts.length + 1) 0 [] [] x)):=by
 refine zAF (fn:=Tryz.f53) 89 Tryz.func53 rfl rfl ?_
 intro pas w0 w he hp
 repeat' (first
|refine zA ?_
|refine zB ?_
|refine zK ?_
|apply aw_1
 conv => whnf
 refine ⟨?_,trivial⟩
|apply s_1
 conv => whnf; arg 1; arg 4; arg 3; whnf
 refine ⟨?_,?_⟩
|exact trivial)
 refine zW ((Sub.ownF (m:=3) (q:=903) (i:=0) (e:=57) rfl (by decide) rfl rfl rfl).trans (Sub.ownF (m:=3) (q:=904) (i:=1) (e:=116) rfl (by decide) rfl rfl rfl)) ?_
 refine zV (fun j st => ∃ z n ops frs,En z /\ z.ts.length < j /\ z.ts.length <= x.ts.length /\ ops.length + frs.length = n /\ n <= 64 /\ docF (x.ts.length + 1) 0 [] [] x = docF j n ops frs z /\ Sub (cxE EN5 Tryz.prog pas w0 w he hp (outQ (fun p => VQ (queD p.1 p.2)) (docF (x.ts.length + 1) 0 [] [] x))) st (HdQ n ops frs z)) (x.ts.length + 1) ⟨x,0,[],[],h,by omega,by omega,rfl,by omega,rfl,?_⟩ ?_
 . exact Sub.live ⟨rfl,rfl,rfl,rfl,trivial⟩ ⟨rfl,rfl,rfl,rfl,rfl,trivial⟩
 rintro j st ⟨z,n,ops,frs,hz,hzj,hzl,hof,hn64,hI,hsub⟩
 refine zW hsub ?_
 clear hsub
 rw [hI]
 clear hI
 cases j with
 | zero => omega
 | succ j =>
 have hs:=zAg hz [123]
 have hli:=zDp hz n 64
 have hf:=zAz (hdT z) 3
 have hnx:=zA3 hz
 have hse:=zF1 z hz (by omega)
 have hkd:=kind_ac
 have hop : ∀ k,ACE EN5 Tryz.prog 104 [.bx (pn 0) 0,.c (.int .i64 k)] [boxP (nxT z)] (outQ VO (opQ k (nxT z))):=fun k => op_ace k (nxT z) hz.nx0 (by have:=nx_len z; omega)
 have hfr:=frag_ace (nxT z) hz.nx0 (by have:=nx_len z; omega)
 obtain ⟨t,r,ht⟩:=hz.cons
 have hh:=zAe ht
 rw [hh] at hf
 by_cases hE : n ≠ 0 /\ (hdT z).k = 5
 . rw [dc_end hE]
   rw [hh] at hE
   have K1 : (((n : Int) == 0) == false) = false -> False:=fun h => hE.1 (by simpa using h)
   have K2 : (t.k != 5) = true -> False:=fun h => by rw [hE.2] at h; cases h
   obtain ⟨zts,zvr,znd⟩:=z
   cases ht
   repeat' (first
|apply zAW (VQ (queD ops frs)) rfl rfl
 . conv => lhs; whnf; arg 2; whnf
 . repeat' (first | exact VLe.refl _ | exact VLe.nil _ | exact VLe.lit _ _ | exact VLe.own _ _ _ | apply VLe.agg | apply VLeL.cons | exact VLeL.nil)
|exact (K1 ‹_›).elim
|exact (K2 ‹_›).elim
|refine zA ?_
|refine zB ?_
|refine zK ?_
|apply aw_1
 conv => whnf
 refine ⟨?_,trivial⟩
|apply zR rfl rfl
 . conv => lhs; whnf
 . conv => lhs; whnf
 . first | exact bF1 ‹_› | exact bF2 ‹_›
|apply s_1
 conv => whnf; arg 1; arg 4; arg 3; whnf
 refine ⟨?_,?_⟩
|apply zY rfl rfl rfl
 . conv => lhs; whnf
 . conv => lhs; whnf; arg 1; whnf
 . conv => lhs; whnf; arg 1; whnf
 . exact ⟨by kernel_rfl,by kernel_rfl⟩
 . rfl
|apply zD rfl
 . conv => lhs; whnf
 . conv => lhs; whnf
 . first | rfl | assumption
 . conv => lhs; whnf; arg 2; whnf
|apply zJ rfl
 . conv => lhs; whnf
 . conv => lhs; whnf
 . conv => lhs; whnf; arg 2; whnf
|refine zP (by conv => lhs; whnf) ?_ ?_ <;> intro hb
|refine zI ?_
|refine zE rfl ?_
|refine zF ?_
|apply zAK rfl
 . conv => lhs; whnf; arg 2; whnf
 . conv => lhs; whnf; arg 1; whnf
|exact trivial
|intro hg)
   all_goals first
    | exact zBT _ _
    | rfl
    | skip
 . have hE2 : ¬ (n ≠ 0 /\ t.k = 5):=by rw [<- hh]; exact hE
   have K0 : (((n : Int) == 0) == false) = true -> (t.k != 5) = false -> False:=fun h1 h2 => hE2 ⟨fun h => (by rw [h] at h1; cases h1),by simpa using h2⟩
   have hop:=hop (zBK t.s)
   by_cases hW : wordQ z
   . by_cases hK : 0 < zBK (hdT z).s
     . have e1 : n < 64 -> docF (j + 1) n ops frs z = thenQ (opQ (zBK (hdT z).s) (nxT z)) fun o y => docF j (n + 1) (ops ++ [o]) frs y:=fun hn => dc_op hE hW hn hK
       have e2 : 64 <= n -> docF (j + 1) n ops frs z = .error ((hdT z).i,4):=fun hn => dc_lim hE (.inl hW) hn
       have hW1:=hW.1
       rw [hh] at hW1 hK e1 e2
       have K1 : ((t.k == 2) == true) = false -> False:=fun h => by rw [hW1] at h; cases h
       have K2 : decide (zBK t.s > 0) = false -> False:=fun h => by simp at h; omega
       have K3 : (decide (zBK t.s > 0) == false) = true -> False:=fun h => by simp at h; omega
       obtain ⟨zts,zvr,znd⟩:=z
       cases ht
       repeat' (first
|apply zAM rfl rfl rfl
 . conv => lhs; whnf
 . first | rfl | assumption
 . conv => lhs; whnf
 . first | exact bT1 ‹_› | exact bT2 ‹_› | rfl
|apply zBR 9 ([(1,[3])]) ([(4,[1000000]),(6,[903]),(8,[3])]) rfl (by kernel_rfl) (by kernel_rfl) (by kernel_rfl)
|apply zEB
|apply zEA rfl
 . conv => lhs; whnf
 . conv => lhs; whnf; arg 2; whnf
|apply g_app rfl rfl
 . conv => lhs; whnf
 . first | exact zHa | (conv => lhs; whnf; arg 1; whnf)
 . first | exact fun _ => rfl | (intro _; kernel_rfl)
 . conv => lhs; whnf
 . rfl
 . conv => lhs; whnf; arg 1; whnf
 . conv => lhs; whnf
|apply zBw rfl rfl rfl
 . conv => lhs; whnf
 . rfl
 . conv => lhs; whnf; arg 1; whnf
 . conv => lhs; whnf; arg 1; whnf
 . exact ⟨by kernel_rfl,by kernel_rfl⟩
 . rfl
|exact Or.inl ⟨pn 0,_,rfl⟩
|refine Or.inr ?_
|apply g_pr zh zN (default : D) rfl
 . conv => lhs; whnf
 . conv => lhs; whnf
 . rfl
 . conv => lhs; whnf; arg 1; whnf
 . first | exact zv _
 . first | exact hop
 . exact fun _ => rfl
 . first | (intro _ _; simp only [renL,renV,ren_cells]; done) | exact fun _ _ => rfl
 . rfl
 refine fun ee hq tm rs => ?_
 change _ = Out.die _
 rotate_left 1
 refine fun aa xx hq => ?_
 rotate_left 1
 refine fun ee hq => ?_
|show inO _ _ = true; rfl
|apply zFB [aa] rfl rfl
 . conv => lhs; whnf
 . first | exact zHa | (conv => lhs; whnf; arg 1; whnf)
 . rfl
 . rfl
 . repeat' (first | exact trivial | apply And.intro | rfl)
|apply zFB [default] rfl rfl
 . conv => lhs; whnf
 . first | exact zHa | (conv => lhs; whnf; arg 1; whnf)
 . rfl
 . rfl
 . repeat' (first | exact trivial | apply And.intro | rfl)
|apply s_m zh zN rfl
 . conv => lhs; whnf
 . conv => lhs; whnf
 . rfl
 . conv => lhs; whnf; arg 1; whnf
 . first | exact zv _
 . first | exact hs | exact hnx
 . exact fun _ => rfl
 . exact fun _ => rfl
|apply ze rfl
 . conv => lhs; whnf
 . conv => lhs; whnf
 . first | rfl | assumption
|apply zEZ rfl
 . conv => lhs; whnf
 . rfl
 . rfl
|apply s_pr zh zN rfl
 . conv => lhs; whnf
 . conv => lhs; whnf
 . rfl
 . conv => lhs; whnf; arg 1; whnf
 . first | exact zv _
 . first | exact hli
 . exact fun _ => rfl
 . first | (intro _ _; simp only [renL,renV,ren_cells]; done) | exact fun _ _ => rfl
 refine fun ee hq => ?_
 change _ = Out.die _
 rotate_left 1
 refine fun aa xx hq => ?_
 first | (replace hq:=zAZ hq; obtain ⟨hq,rfl⟩:=hq) | (cases hq; have hq:=True.intro) | skip
|exact (K0 ‹_› ‹_›).elim
|exact (K1 ‹_›).elim
|exact (K2 ‹_›).elim
|exact (K3 ‹_›).elim
|refine zA ?_
|refine zB ?_
|refine zK ?_
|refine zb ?_
|apply aw_1
 conv => whnf
 refine ⟨?_,trivial⟩
|apply zX rfl rfl
 . conv => lhs; whnf
 . conv => lhs; whnf
 . first | exact bT1 ‹_› | exact bT2 ‹_›
|apply zR rfl rfl
 . conv => lhs; whnf
 . conv => lhs; whnf
 . first | exact bF1 ‹_› | exact bF2 ‹_›
|apply s_1
 conv => whnf; arg 1; arg 4; arg 3; whnf
 refine ⟨?_,?_⟩
|apply zd rfl
 . conv => lhs; whnf
 . conv => lhs; whnf
 . first | exact hkd _
|apply zY rfl rfl rfl
 . conv => lhs; whnf
 . conv => lhs; whnf; arg 1; whnf
 . conv => lhs; whnf; arg 1; whnf
 . exact ⟨by kernel_rfl,by kernel_rfl⟩
 . rfl
|apply zD rfl
 . conv => lhs; whnf
 . conv => lhs; whnf
 . first | rfl | assumption
 . conv => lhs; whnf; arg 2; whnf
|apply zJ rfl
 . conv => lhs; whnf
 . conv => lhs; whnf
 . conv => lhs; whnf; arg 2; whnf
|refine zP (by conv => lhs; whnf) ?_ ?_ <;> intro hb
|exact trivial
|intro hg)
       all_goals first
        | exact zBT _ _
        | exact zT (by omega)
        | (refine ⟨by simp,?_,?_⟩ <;> simp only [List.length_cons,List.length_nil,maxLen] <;> omega)
        | (rw [e2 (zAp hq).1,(zAp hq).2]; rfl)
        | (rw [e1 ‹_›,then_err hq]; rfl)
        | (have hx:=hz.nx0.op hq
           have hnl:=nx_len ⟨t :: r,zvr,znd⟩
           refine zH (j':=j) (by omega) ⟨xx,n + 1,ops ++ [aa],frs,hx.1,by omega,by omega,by rw [List.length_append]; simp only [List.length_cons,List.length_nil]; omega,by omega,by rw [e1 ‹_›,zS hq],Sub.live ⟨rfl,rfl,rfl,rfl,trivial⟩ ⟨rfl,rfl,rfl,?_,rfl,trivial⟩⟩
           show some (Res.tok _ (ops.length + 1)) = some (Res.tok _ (ops ++ [aa]).length)
           rw [List.length_append]; rfl)
        | skip
     . have e1 : n < 64 -> docF (j + 1) n ops frs z = thenQ (fragQ (nxT z)) fun o y => docF j (n + 1) ops (frs ++ [o]) y:=fun hn => dc_frag hE hW hn hK
       have e2 : 64 <= n -> docF (j + 1) n ops frs z = .error ((hdT z).i,4):=fun hn => dc_lim hE (.inl hW) hn
       have hW1:=hW.1
       have hW2 : (hdT z).s = zHS:=hW.2.resolve_left hK
       rw [hh] at hW1 hW2 hK e2
       have K1 : ((t.k == 2) == true) = false -> False:=fun h => by rw [hW1] at h; cases h
       have K2 : decide (zBK t.s > 0) = true -> False:=fun h => by simp at h; omega
       have K3 : (decide (zBK t.s > 0) == false) = false -> False:=fun h => by simp at h; omega
       have K4 : ((bs t.s).toList == (⟨#[102,114,97,103,109,101,110,116]⟩ : ByteArray).toList) = false -> False:=fun h => zBI h hW2
       have K5 : (!((bs t.s).toList == (⟨#[102,114,97,103,109,101,110,116]⟩ : ByteArray).toList)) = true -> False:=fun h => seq_nt h hW2
       have K6 : ((!((bs t.s).toList == (⟨#[102,114,97,103,109,101,110,116]⟩ : ByteArray).toList)) == true) = true -> False:=fun h => seq_nt (by simpa using h) hW2
       obtain ⟨zts,zvr,znd⟩:=z
       cases ht
       repeat' (first
|apply zAM rfl rfl rfl
 . conv => lhs; whnf
 . first | rfl | assumption
 . conv => lhs; whnf
 . first | exact bT1 ‹_› | exact bT2 ‹_› | rfl
|apply zAN rfl rfl rfl
 . conv => lhs; whnf
 . first | rfl | assumption
 . conv => lhs; whnf
 . first | exact bF1 ‹_› | exact bF2 ‹_› | rfl
|apply zBR 8 ([(1,[3])]) ([(3,[1000000]),(5,[904]),(7,[3])]) rfl (by kernel_rfl) (by kernel_rfl) (by kernel_rfl)
|apply zEB
|apply zEA rfl
 . conv => lhs; whnf
 . conv => lhs; whnf; arg 2; whnf
|apply g_app rfl rfl
 . conv => lhs; whnf
 . first | exact zGN | (conv => lhs; whnf; arg 1; whnf)
 . first | exact fun _ => rfl | (intro _; kernel_rfl)
 . conv => lhs; whnf
 . rfl
 . conv => lhs; whnf; arg 1; whnf
 . conv => lhs; whnf
|apply zBw rfl rfl rfl
 . conv => lhs; whnf
 . rfl
 . conv => lhs; whnf; arg 1; whnf
 . conv => lhs; whnf; arg 1; whnf
 . exact ⟨by kernel_rfl,by kernel_rfl⟩
 . rfl
|exact Or.inl ⟨pn 0,_,rfl⟩
|refine Or.inr ?_
|apply g_pr zh zN (default : D) rfl
 . conv => lhs; whnf
 . conv => lhs; whnf
 . rfl
 . conv => lhs; whnf; arg 1; whnf
 . first | exact zv _
 . first | exact hfr
 . exact fun _ => rfl
 . first | (intro _ _; simp only [renL,renV,ren_cells]; done) | exact fun _ _ => rfl
 . rfl
 refine fun ee hq tm rs => ?_
 change _ = Out.die _
 rotate_left 1
 refine fun aa xx hq => ?_
 rotate_left 1
 refine fun ee hq => ?_
|show inO _ _ = true; rfl
|apply zFB [aa] rfl rfl
 . conv => lhs; whnf
 . first | exact zGN | (conv => lhs; whnf; arg 1; whnf)
 . rfl
 . rfl
 . repeat' (first | exact trivial | apply And.intro | rfl)
|apply zFB [default] rfl rfl
 . conv => lhs; whnf
 . first | exact zGN | (conv => lhs; whnf; arg 1; whnf)
 . rfl
 . rfl
 . repeat' (first | exact trivial | apply And.intro | rfl)
|apply s_m zh zN rfl
 . conv => lhs; whnf
 . conv => lhs; whnf
 . rfl
 . conv => lhs; whnf; arg 1; whnf
 . first | exact zv _
 . first | exact hs | exact hnx
 . exact fun _ => rfl
 . exact fun _ => rfl
|apply zAV zh zN rfl
 . conv => lhs; whnf
 . conv => lhs; whnf
 . first | rfl | assumption
 . conv => lhs; whnf
 . rfl
 . conv => lhs; whnf; arg 1; whnf
 . first | exact zv _
 . first | exact hs | exact hnx
 . exact fun _ => rfl
 . exact fun _ => rfl
|apply ze rfl
 . conv => lhs; whnf
 . conv => lhs; whnf
 . first | rfl | assumption
|apply zEZ rfl
 . conv => lhs; whnf
 . rfl
 . rfl
|apply s_pr zh zN rfl
 . conv => lhs; whnf
 . conv => lhs; whnf
 . rfl
 . conv => lhs; whnf; arg 1; whnf
 . first | exact zv _
 . first | exact hli
 . exact fun _ => rfl
 . first | (intro _ _; simp only [renL,renV,ren_cells]; done) | exact fun _ _ => rfl
 refine fun ee hq => ?_
 change _ = Out.die _
 rotate_left 1
 refine fun aa xx hq => ?_
 first | (replace hq:=zAZ hq; obtain ⟨hq,rfl⟩:=hq) | (cases hq; have hq:=True.intro) | skip
|exact (K0 ‹_› ‹_›).elim
|exact (K1 ‹_›).elim
|exact (K2 ‹_›).elim
|exact (K3 ‹_›).elim
|exact (K5 ‹_›).elim
|exact (K6 ‹_›).elim
|refine zA ?_
|refine zB ?_
|refine zK ?_
|refine zb ?_
|apply aw_1
 conv => whnf
 refine ⟨?_,trivial⟩
|apply zX rfl rfl
 . conv => lhs; whnf
 . conv => lhs; whnf
 . first | exact bT1 ‹_› | exact bT2 ‹_›
|apply zR rfl rfl
 . conv => lhs; whnf
 . conv => lhs; whnf
 . first | exact bF1 ‹_› | exact bF2 ‹_›
|apply s_1
 conv => whnf; arg 1; arg 4; arg 3; whnf
 refine ⟨?_,?_⟩
|apply zd rfl
 . conv => lhs; whnf
 . conv => lhs; whnf
 . first | exact hkd _
|apply zY rfl rfl rfl
 . conv => lhs; whnf
 . conv => lhs; whnf; arg 1; whnf
 . conv => lhs; whnf; arg 1; whnf
 . exact ⟨by kernel_rfl,by kernel_rfl⟩
 . rfl
|apply zD rfl
 . conv => lhs; whnf
 . conv => lhs; whnf
 . first | rfl | assumption
 . conv => lhs; whnf; arg 2; whnf
|apply zJ rfl
 . conv => lhs; whnf
 . conv => lhs; whnf
 . conv => lhs; whnf; arg 2; whnf
|refine zP (by conv => lhs; whnf) ?_ ?_ <;> intro hb
|exact trivial
|intro hg)
       all_goals first
        | exact zBT _ _
        | exact zT (by omega)
        | (refine ⟨by simp,?_,?_⟩ <;> simp only [List.length_cons,List.length_nil,maxLen] <;> omega)
        | (rw [e2 (zAp hq).1,(zAp hq).2]; rfl)
        | (rw [e1 ‹_›,then_err hq]; rfl)
        | (have hx:=hz.nx0.frag hq
           have hnl:=nx_len ⟨t :: r,zvr,znd⟩
           refine zH (j':=j) (by omega) ⟨xx,n + 1,ops,frs ++ [aa],hx.1,by omega,by omega,by rw [List.length_append]; simp only [List.length_cons,List.length_nil]; omega,by omega,by rw [e1 ‹_›,zS hq],Sub.live ⟨rfl,rfl,rfl,rfl,trivial⟩ ⟨rfl,rfl,rfl,rfl,?_,trivial⟩⟩
           show some (Res.tok _ (frs.length + 1)) = some (Res.tok _ (frs ++ [aa]).length)
           rw [List.length_append]; rfl)
        | skip
   . have hW2 : ¬ (t.k = 2 /\ (0 < zBK t.s \/ t.s = zHS)):=by rw [<- hh]; exact hW
     have K1 : ((t.k == 2) == true) = true -> decide (zBK t.s > 0) = true -> False:=fun h1 h2 => hW2 ⟨by simpa using h1,.inl (by simpa using h2)⟩
     have K2 : ((t.k == 2) == true) = true -> (decide (zBK t.s > 0) == false) = false -> False:=fun h1 h2 => hW2 ⟨by simpa using h1,.inl (by simpa using h2)⟩
     have K3 : ((t.k == 2) == true) = true -> ((bs t.s).toList == (⟨#[102,114,97,103,109,101,110,116]⟩ : ByteArray).toList) = true -> False:=fun h1 h2 => hW2 ⟨by simpa using h1,.inr (zDi h2)⟩
     have K4 : ((t.k == 2) == true) = true -> (!((bs t.s).toList == (⟨#[102,114,97,103,109,101,110,116]⟩ : ByteArray).toList)) = false -> False:=fun h1 h2 => hW2 ⟨by simpa using h1,.inr (zG0 h2)⟩
     have K5 : ((t.k == 2) == true) = true -> ((!((bs t.s).toList == (⟨#[102,114,97,103,109,101,110,116]⟩ : ByteArray).toList)) == true) = false -> False:=fun h1 h2 => hW2 ⟨by simpa using h1,.inr (zG0 (by simpa using h2))⟩
     by_cases hS : isS z [123] = true
     . have e1 : n < 64 -> docF (j + 1) n ops frs z = thenQ (setQ z) fun ss y => docF j (n + 1) (ops ++ [opD 1 [] [] ss]) frs y:=fun hn => dc_set hE hW hS hn
       have e2 : 64 <= n -> docF (j + 1) n ops frs z = .error ((hdT z).i,4):=fun hn => dc_lim hE (.inr hS) hn
       have K6 : isS z [123] = false -> False:=fun h => by rw [hS] at h; cases h
       have K7 : (!isS z [123]) = true -> False:=fun h => by rw [hS] at h; cases h
       rw [hh] at e2
       obtain ⟨zts,zvr,znd⟩:=z
       cases ht
       repeat' (first
|apply zAM rfl rfl rfl
 . conv => lhs; whnf
 . first | rfl | assumption
 . conv => lhs; whnf
 . first | exact bT1 ‹_› | exact bT2 ‹_› | rfl
|apply zAN rfl rfl rfl
 . conv => lhs; whnf
 . first | rfl | assumption
 . conv => lhs; whnf
 . first | exact bF1 ‹_› | exact bF2 ‹_› | rfl
|apply g_valW (VO (opD 1 [] [] _)) rfl rfl
 . conv => lhs; whnf; arg 2; whnf
 . repeat' (first | exact VLe.refl _ | exact VLe.nil _ | exact VLe.lit _ _ | exact VLe.own _ _ _ | apply VLe.agg | apply VLeL.cons | exact VLeL.nil)
|apply zBR 9 ([(1,[3])]) ([(3,[1000000]),(6,[903]),(8,[3])]) rfl (by kernel_rfl) (by kernel_rfl) (by kernel_rfl)
|apply zEB
|apply zEA rfl
 . conv => lhs; whnf
 . conv => lhs; whnf; arg 2; whnf
|apply g_app rfl rfl
 . conv => lhs; whnf
 . first | exact zHa | (conv => lhs; whnf; arg 1; whnf)
 . first | exact fun _ => rfl | (intro _; kernel_rfl)
 . conv => lhs; whnf
 . rfl
 . conv => lhs; whnf; arg 1; whnf
 . conv => lhs; whnf
|apply zBw rfl rfl rfl
 . conv => lhs; whnf
 . rfl
 . conv => lhs; whnf; arg 1; whnf
 . conv => lhs; whnf; arg 1; whnf
 . exact ⟨by kernel_rfl,by kernel_rfl⟩
 . rfl
|exact Or.inl ⟨pn 0,_,rfl⟩
|refine Or.inr ?_
|apply g_pr zh zN ([] : List D) rfl
 . conv => lhs; whnf
 . conv => lhs; whnf
 . rfl
 . conv => lhs; whnf; arg 1; whnf
 . first | exact zv _
 . first | exact hse
 . exact fun _ => rfl
 . first | (intro _ _; simp only [renL,renV,ren_cells]; done) | exact fun _ _ => rfl
 . rfl
 refine fun ee hq tm rs => ?_
 change _ = Out.die _
 rotate_left 1
 refine fun aa xx hq => ?_
 rotate_left 1
 refine fun ee hq => ?_
|show inO _ _ = true; rfl
|apply zFB [opD 1 [] [] _] rfl rfl
 . conv => lhs; whnf
 . first | exact zHa | (conv => lhs; whnf; arg 1; whnf)
 . rfl
 . rfl
 . repeat' (first | exact trivial | apply And.intro | rfl)
|apply zAV zh zN rfl
 . conv => lhs; whnf
 . conv => lhs; whnf
 . first | rfl | assumption
 . conv => lhs; whnf
 . rfl
 . conv => lhs; whnf; arg 1; whnf
 . first | exact zv _
 . first | exact hs | exact hnx
 . exact fun _ => rfl
 . exact fun _ => rfl
|apply ze rfl
 . conv => lhs; whnf
 . conv => lhs; whnf
 . first | rfl | assumption
|apply zEZ rfl
 . conv => lhs; whnf
 . rfl
 . rfl
|apply s_pr zh zN rfl
 . conv => lhs; whnf
 . conv => lhs; whnf
 . rfl
 . conv => lhs; whnf; arg 1; whnf
 . first | exact zv _
 . first | exact hli
 . exact fun _ => rfl
 . first | (intro _ _; simp only [renL,renV,ren_cells]; done) | exact fun _ _ => rfl
 refine fun ee hq => ?_
 change _ = Out.die _
 rotate_left 1
 refine fun aa xx hq => ?_
 first | (replace hq:=zAZ hq; obtain ⟨hq,rfl⟩:=hq) | (cases hq; have hq:=True.intro) | skip
|exact (K0 ‹_› ‹_›).elim
|exact (K2 ‹_› ‹_›).elim
|exact (K4 ‹_› ‹_›).elim
|exact (K5 ‹_› ‹_›).elim
|exact (K7 ‹_›).elim
|refine zA ?_
|refine zB ?_
|refine zK ?_
|refine zb ?_
|apply aw_1
 conv => whnf
 refine ⟨?_,trivial⟩
|apply zX rfl rfl
 . conv => lhs; whnf
 . conv => lhs; whnf
 . first | exact bT1 ‹_› | exact bT2 ‹_›
|apply zR rfl rfl
 . conv => lhs; whnf
 . conv => lhs; whnf
 . first | exact bF1 ‹_› | exact bF2 ‹_›
|apply s_1
 conv => whnf; arg 1; arg 4; arg 3; whnf
 refine ⟨?_,?_⟩
|apply zd rfl
 . conv => lhs; whnf
 . conv => lhs; whnf
 . first | exact hkd _
|apply zY rfl rfl rfl
 . conv => lhs; whnf
 . conv => lhs; whnf; arg 1; whnf
 . conv => lhs; whnf; arg 1; whnf
 . exact ⟨by kernel_rfl,by kernel_rfl⟩
 . rfl
|apply zD rfl
 . conv => lhs; whnf
 . conv => lhs; whnf
 . first | rfl | assumption
 . conv => lhs; whnf; arg 2; whnf
|apply zJ rfl
 . conv => lhs; whnf
 . conv => lhs; whnf
 . conv => lhs; whnf; arg 2; whnf
|refine zP (by conv => lhs; whnf) ?_ ?_ <;> intro hb
|exact trivial
|intro hg)
       all_goals first
        | exact zBT _ _
        | exact zT (by omega)
        | (refine ⟨by simp,?_,?_⟩ <;> simp only [List.length_cons,List.length_nil,maxLen] <;> omega)
        | (rw [e2 (zAp hq).1,(zAp hq).2]; rfl)
        | (rw [e1 ‹_›,then_err hq]; rfl)
        | (have hx:=hz.sels hq
           have hnl:=nx_len ⟨t :: r,zvr,znd⟩
           refine zH (j':=j) (by omega) ⟨xx,n + 1,ops ++ [opD 1 [] [] aa],frs,hx.1,by omega,by omega,by rw [List.length_append]; simp only [List.length_cons,List.length_nil]; omega,by omega,by rw [e1 ‹_›,zS hq],Sub.live ⟨rfl,rfl,rfl,rfl,trivial⟩ ⟨rfl,rfl,rfl,?_,rfl,trivial⟩⟩
           show some (Res.tok _ (ops.length + 1)) = some (Res.tok _ (ops ++ [opD 1 [] [] aa]).length)
           rw [List.length_append]; rfl)
        | skip
     . have hS : isS z [123] = false:=by simpa using hS
       have e1:=dc_un (f:=j) (n:=n) (ops:=ops) (frs:=frs) hE hW hS
       have K6 : isS z [123] = true -> False:=fun h => by rw [hS] at h; cases h
       have K7 : (!isS z [123]) = false -> False:=fun h => by rw [hS] at h; cases h
       rw [e1,hh]
       obtain ⟨zts,zvr,znd⟩:=z
       cases ht
       repeat' (first
|apply zAM rfl rfl rfl
 . conv => lhs; whnf
 . first | rfl | assumption
 . conv => lhs; whnf
 . first | exact bT1 ‹_› | exact bT2 ‹_› | rfl
|apply zAN rfl rfl rfl
 . conv => lhs; whnf
 . first | rfl | assumption
 . conv => lhs; whnf
 . first | exact bF1 ‹_› | exact bF2 ‹_› | rfl
|apply zAV zh zN rfl
 . conv => lhs; whnf
 . conv => lhs; whnf
 . first | rfl | assumption
 . conv => lhs; whnf
 . rfl
 . conv => lhs; whnf; arg 1; whnf
 . first | exact zv _
 . first | exact hs | exact hnx
 . exact fun _ => rfl
 . exact fun _ => rfl
|apply ze rfl
 . conv => lhs; whnf
 . conv => lhs; whnf
 . first | rfl | assumption
|apply zEZ rfl
 . conv => lhs; whnf
 . rfl
 . rfl
|apply zCM rfl
 . conv => lhs; whnf
 . first | exact hf
 . first | exact fun _ => rfl | (intro _; simp only [renL,renV,ren_cells])
 change _ = Out.die _
|exact (K0 ‹_› ‹_›).elim
|exact (K2 ‹_› ‹_›).elim
|exact (K5 ‹_› ‹_›).elim
|exact (K7 ‹_›).elim
|refine zA ?_
|refine zB ?_
|refine zK ?_
|apply aw_1
 conv => whnf
 refine ⟨?_,trivial⟩
|apply zX rfl rfl
 . conv => lhs; whnf
 . conv => lhs; whnf
 . first | exact bT1 ‹_› | exact bT2 ‹_›
|apply zR rfl rfl
 . conv => lhs; whnf
 . conv => lhs; whnf
 . first | exact bF1 ‹_› | exact bF2 ‹_›
|apply s_1
 conv => whnf; arg 1; arg 4; arg 3; whnf
 refine ⟨?_,?_⟩
|apply zd rfl
 . conv => lhs; whnf
 . conv => lhs; whnf
 . first | exact hkd _
|apply zY rfl rfl rfl
 . conv => lhs; whnf
 . conv => lhs; whnf; arg 1; whnf
 . conv => lhs; whnf; arg 1; whnf
 . exact ⟨by kernel_rfl,by kernel_rfl⟩
 . rfl
|apply zD rfl
 . conv => lhs; whnf
 . conv => lhs; whnf
 . first | rfl | assumption
 . conv => lhs; whnf; arg 2; whnf
|apply zJ rfl
 . conv => lhs; whnf
 . conv => lhs; whnf
 . conv => lhs; whnf; arg 2; whnf
|refine zP (by conv => lhs; whnf) ?_ ?_ <;> intro hb
|exact trivial
|intro hg)
       all_goals first
        | exact zBT _ _
        | rfl
        | skip
end Go.Proofs.YthjiclhfhjdjpaaGreatDoor
