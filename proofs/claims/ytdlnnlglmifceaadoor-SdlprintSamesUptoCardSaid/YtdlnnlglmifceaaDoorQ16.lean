import Derived.Shelf.Strings.Builder1
import Derived.Shelf.Strings.Builder2
import Derived.Shelf.Strings.OnBuilder
import Derived.Shelf.Small.Strs
import Derived.Shelf.Small.Wraps
import Derived.Shelf.Strings.BuilderF
import Derived.Shelf.Strings.BuilderK
import Derived.Shelf.Strings.Builder2Cap
import Derived.Shelf.Strconv.Itoa0
import Derived.Shelf.Strconv.Itoa1
import Derived.Shelf.LaysM
import Derived.Shelf.Strconv.Itoa2
import Derived.Shelf.Strconv.Itoa3
import Derived.Shelf.Strings.BuilderCap
import Derived.Shelf.Slices.Equal
import Derived.Ground.Names2Prog
import Derived.Shelf.Slices.SearchI
import Derived.Test.YtdlnnlglmifceaaDoorProg
import Derived.Test.YtdlnnlglmifceaaDoorQ15
set_option linter.unusedVariables false
set_option linter.unusedSimpArgs false
namespace Go.Proofs
open Go.Shelf
def Tryd.lays169_ren : Go.Shelf.Ren:=⟨fun | 169 => 50 | n => n,fun | 70 => 86 | 9 => 9 | 0 => 0 | 72 => 89 | 37 => 87 | 127 => 104 | 3 => 3 | 5 => 5 | n => n,fun | n => n⟩
theorem Tryd.lays169 : Go.Proofs.Lays.n169 Tryd.prog Tryd.lays169_ren:={
 mixed:=by kernel_rfl
 f169:=Tryd.func50.trans (congrArg some (by kernel_rfl))
 t0:=Tryd.underlying0
 a0:=Tryd.isAgg0
 z0:=Tryd.sizeOf0
 v0:=Tryd.zeroValue0
 t3:=Tryd.underlying3
 a3:=Tryd.isAgg3
 z3:=Tryd.sizeOf3
 v3:=Tryd.zeroValue3
 t9:=Tryd.underlying9
 a9:=Tryd.isAgg9
 z9:=Tryd.sizeOf9
 v9:=Tryd.zeroValue9
 t37:=Tryd.underlying87
 a37:=Tryd.isAgg87
 z37:=Tryd.sizeOf87
 v37:=Tryd.zeroValue87
 t70:=Tryd.underlying86
 a70:=Tryd.isAgg86
 z70:=Tryd.sizeOf86
 v70:=Tryd.zeroValue86
 t72:=Tryd.underlying89
 a72:=Tryd.isAgg89
 z72:=Tryd.sizeOf89
 v72:=Tryd.zeroValue89
 t127:=Tryd.underlying104
 a127:=Tryd.isAgg104
 z127:=Tryd.sizeOf104
 v127:=Tryd.zeroValue104 }
theorem Tryd.Builder_Extra_169 : Builder.Extra Tryd.prog Tryd.lays169_ren:={
 sizeBuilder:=by kernel_rfl
 liesBuilder:=by kernel_rfl
 t5:=Tryd.underlying5
 a5:=Tryd.isAgg5
 z5:=Tryd.sizeOf5
 v5:=Tryd.zeroValue5
 infoByte:=by kernel_rfl
 cellsByte:=by kernel_rfl
 sizeByte:=by kernel_rfl
 neB5:=by decide }
def Tryd.lays156_ren : Go.Shelf.Ren:=⟨fun | 156 => 23 | 165 => 48 | 166 => 49 | 169 => 50 | 240 => 65 | 241 => 66 | 276 => 75 | 277 => 76 | n => n,fun | 31 => 29 | 9 => 9 | 3 => 3 | 4 => 4 | 0 => 0 | 20 => 20 | 72 => 89 | 76 => 93 | 70 => 86 | 37 => 87 | 75 => 92 | 127 => 104 | 164 => 110 | 5 => 5 | 80 => 95 | n => n,fun | n => n⟩
theorem Tryd.lays156 : Go.Proofs.Lays.n156 Tryd.prog Tryd.lays156_ren:={
 mixed:=by kernel_rfl
 f156:=Tryd.func23.trans (congrArg some (by kernel_rfl))
 f165:=Tryd.func48.trans (congrArg some (by kernel_rfl))
 f166:=Tryd.func49.trans (congrArg some (by kernel_rfl))
 f169:=Tryd.func50.trans (congrArg some (by kernel_rfl))
 f240:=Tryd.func65.trans (congrArg some (by kernel_rfl))
 f241:=Tryd.func66.trans (congrArg some (by kernel_rfl))
 f276:=Tryd.func75.trans (congrArg some (by kernel_rfl))
 f277:=Tryd.func76.trans (congrArg some (by kernel_rfl))
 t0:=Tryd.underlying0
 a0:=Tryd.isAgg0
 z0:=Tryd.sizeOf0
 v0:=Tryd.zeroValue0
 t3:=Tryd.underlying3
 a3:=Tryd.isAgg3
 z3:=Tryd.sizeOf3
 v3:=Tryd.zeroValue3
 t4:=Tryd.underlying4
 a4:=Tryd.isAgg4
 z4:=Tryd.sizeOf4
 v4:=Tryd.zeroValue4
 t9:=Tryd.underlying9
 a9:=Tryd.isAgg9
 z9:=Tryd.sizeOf9
 v9:=Tryd.zeroValue9
 t20:=Tryd.underlying20
 a20:=Tryd.isAgg20
 z20:=Tryd.sizeOf20
 v20:=Tryd.zeroValue20
 t31:=Tryd.underlying29
 a31:=Tryd.isAgg29
 z31:=Tryd.sizeOf29
 v31:=Tryd.zeroValue29
 t37:=Tryd.underlying87
 a37:=Tryd.isAgg87
 z37:=Tryd.sizeOf87
 v37:=Tryd.zeroValue87
 t70:=Tryd.underlying86
 a70:=Tryd.isAgg86
 z70:=Tryd.sizeOf86
 v70:=Tryd.zeroValue86
 t72:=Tryd.underlying89
 a72:=Tryd.isAgg89
 z72:=Tryd.sizeOf89
 v72:=Tryd.zeroValue89
 t75:=Tryd.underlying92
 a75:=Tryd.isAgg92
 z75:=Tryd.sizeOf92
 v75:=Tryd.zeroValue92
 t76:=Tryd.underlying93
 a76:=Tryd.isAgg93
 z76:=Tryd.sizeOf93
 v76:=Tryd.zeroValue93
 t127:=Tryd.underlying104
 a127:=Tryd.isAgg104
 z127:=Tryd.sizeOf104
 v127:=Tryd.zeroValue104
 t164:=Tryd.underlying110
 a164:=Tryd.isAgg110
 z164:=Tryd.sizeOf110
 v164:=Tryd.zeroValue110 }
theorem Tryd.Builder_Extra_156 : Builder.Extra Tryd.prog Tryd.lays156_ren:={
 sizeBuilder:=by kernel_rfl
 liesBuilder:=by kernel_rfl
 t5:=Tryd.underlying5
 a5:=Tryd.isAgg5
 z5:=Tryd.sizeOf5
 v5:=Tryd.zeroValue5
 infoByte:=by kernel_rfl
 cellsByte:=by kernel_rfl
 sizeByte:=by kernel_rfl
 neB5:=by decide }
open Go.RowKit in
theorem Tryd.strings_Join_none (a : Option Addr) (c : Nat) (sep : ByteArray) (w : World) :
 Calls Tryd.prog 23 #[.slice a 0 c,.string sep] w fun e w' => e = .returned (.string ⟨#[]⟩) /\ w' = w:=Any.strings_Join_none Tryd.lays156 Tryd.Builder_Extra_156 a c sep w
open Go.RowKit in
theorem Tryd.strings_Join (bk o c : Nat) (xs : List ByteArray) (sep : ByteArray) (w : World) (hcells : ∀ (j : Nat) x,xs[j]? = some x -> w.cell? ⟨bk,o + j,none⟩ = some (.string x)) (hbk : bk < w.heap.size) (hN : xs.length <= 140737488355328) (hcap : xs.length <= c) (hlen : (Lib.join (xs.map (·.data.toList)) sep.data.toList).length <= 140737488355328) :
 Calls Tryd.prog 23 #[.slice (some ⟨bk,o,none⟩) xs.length c,.string sep] w fun e w' => e = .returned (.string ⟨(Lib.join (xs.map (·.data.toList)) sep.data.toList).toArray⟩) /\ Below w.heap.size w w':=Any.strings_Join Tryd.lays156 Tryd.Builder_Extra_156 bk o c xs sep w hcells hbk hN hcap hlen
open Go.RowKit in
theorem Tryd.Builder_String_any_k (B b : Nat) (l : List UInt8) (w : World) (h : Lib.IsBuilderF 89 5 B b (Lib.byteCells l) w) (hBw : B <= w.heap.size) :
 Calls Tryd.prog 50 #[.pointer (some ⟨b,0,none⟩)] w fun e w' => e = .returned (.string ⟨l.toArray⟩) /\ (Lib.IsBuilderF 89 5 B b (Lib.byteCells l) w' /\ Below B w w' /\ Lib.OthersKept 5 (some b) w w'):=Any.Builder_String_any_k Tryd.lays169 Tryd.Builder_Extra_169 B b l w h hBw
def Tryd.laysM171_ren : Go.Shelf.Ren:=⟨fun | 171 => 51 | 243 => 67 | 246 => 77 | 283 => 84 | 284 => 85 | 285 => 86 | 286 => 87 | 129 => 91 | 317 => 90 | 318 => 92 | 319 => 93 | 320 => 94 | 337 => 95 | 338 => 96 | n => n,fun | 3 => 3 | 9 => 9 | 2 => 2 | 4 => 4 | 171 => 115 | 0 => 0 | 53 => 116 | 37 => 87 | 5 => 5 | 173 => 119 | 212 => 124 | 51 => 125 | 20 => 20 | 213 => 126 | 46 => 97 | 232 => 129 | 233 => 130 | n => n,fun | 17 => 1 | 18 => 2 | 19 => 3 | n => n⟩
theorem Tryd.laysM171 : Go.Proofs.LaysM.n171 Tryd.prog Tryd.laysM171_ren:={
 mixed:=by kernel_rfl
 f129:=Tryd.func91.trans (congrArg some (by kernel_rfl))
 f171:=Tryd.func51.trans (congrArg some (by kernel_rfl))
 f243:=Tryd.func67.trans (congrArg some (by kernel_rfl))
 f246:=Tryd.func77.trans (congrArg some (by kernel_rfl))
 f283:=Tryd.func84.trans (congrArg some (by kernel_rfl))
 f284:=Tryd.func85.trans (congrArg some (by kernel_rfl))
 f285:=Tryd.func86.trans (congrArg some (by kernel_rfl))
 f286:=Tryd.func87.trans (congrArg some (by kernel_rfl))
 f317:=Tryd.func90.trans (congrArg some (by kernel_rfl))
 f318:=Tryd.func92.trans (congrArg some (by kernel_rfl))
 f319:=Tryd.func93.trans (congrArg some (by kernel_rfl))
 f320:=Tryd.func94.trans (congrArg some (by kernel_rfl))
 f337:=Tryd.func95.trans (congrArg some (by kernel_rfl))
 f338:=Tryd.func96.trans (congrArg some (by kernel_rfl))
 t0:=Tryd.underlying0
 a0:=Tryd.isAgg0
 z0:=Tryd.sizeOf0
 v0:=Tryd.zeroValue0
 t2:=Tryd.underlying2
 a2:=Tryd.isAgg2
 z2:=Tryd.sizeOf2
 v2:=Tryd.zeroValue2
 t3:=Tryd.underlying3
 a3:=Tryd.isAgg3
 z3:=Tryd.sizeOf3
 v3:=Tryd.zeroValue3
 t4:=Tryd.underlying4
 a4:=Tryd.isAgg4
 z4:=Tryd.sizeOf4
 v4:=Tryd.zeroValue4
 t5:=Tryd.underlying5
 a5:=Tryd.isAgg5
 z5:=Tryd.sizeOf5
 v5:=Tryd.zeroValue5
 t9:=Tryd.underlying9
 a9:=Tryd.isAgg9
 z9:=Tryd.sizeOf9
 v9:=Tryd.zeroValue9
 t20:=Tryd.underlying20
 a20:=Tryd.isAgg20
 z20:=Tryd.sizeOf20
 v20:=Tryd.zeroValue20
 t37:=Tryd.underlying87
 a37:=Tryd.isAgg87
 z37:=Tryd.sizeOf87
 v37:=Tryd.zeroValue87
 t46:=Tryd.underlying97
 a46:=Tryd.isAgg97
 z46:=Tryd.sizeOf97
 v46:=Tryd.zeroValue97
 t51:=Tryd.underlying125
 a51:=Tryd.isAgg125
 z51:=Tryd.sizeOf125
 v51:=Tryd.zeroValue125
 t53:=Tryd.underlying116
 a53:=Tryd.isAgg116
 z53:=Tryd.sizeOf116
 v53:=Tryd.zeroValue116
 t171:=Tryd.underlying115
 a171:=Tryd.isAgg115
 z171:=Tryd.sizeOf115
 v171:=Tryd.zeroValue115
 t173:=Tryd.underlying119
 a173:=Tryd.isAgg119
 z173:=Tryd.sizeOf119
 v173:=Tryd.zeroValue119
 t212:=Tryd.underlying124
 a212:=Tryd.isAgg124
 z212:=Tryd.sizeOf124
 v212:=Tryd.zeroValue124
 t213:=Tryd.underlying126
 a213:=Tryd.isAgg126
 z213:=Tryd.sizeOf126
 t232:=Tryd.underlying129
 a232:=Tryd.isAgg129
 z232:=Tryd.sizeOf129
 v232:=Tryd.zeroValue129
 t233:=Tryd.underlying130
 a233:=Tryd.isAgg130
 z233:=Tryd.sizeOf130
 v233:=Tryd.zeroValue130
 g17:=by kernel_rfl
 g18:=by kernel_rfl
 g19:=by kernel_rfl
 i0:=by kernel_rfl
 i2:=by kernel_rfl
 i3:=by kernel_rfl
 i4:=by kernel_rfl
 i5:=by kernel_rfl
 i9:=by kernel_rfl
 i20:=by kernel_rfl
 i37:=by kernel_rfl
 i46:=by kernel_rfl
 i51:=by kernel_rfl
 i53:=by kernel_rfl
 i171:=by kernel_rfl
 i173:=by kernel_rfl
 i212:=by kernel_rfl
 i232:=by kernel_rfl
 i233:=by kernel_rfl
 m17:=by kernel_rfl
 m18:=by kernel_rfl
 m19:=by kernel_rfl }
open Go.RowKit Go.Sort Go.Lib in
theorem Tryd.strconv_Itoa (n : Int) (h0 : -9223372036854775808 <= n) (h1 : n <= 9223372036854775807) (w : World) (htab : Lib.TabIs Tryd.prog w "internal/strconv.uint64pow10" .u64 Lib.pow10Tab) :
 Calls Tryd.prog 51 #[.int .i64 n] w fun e w' => e = .returned (.string ⟨(Lib.itoa n).toArray⟩) /\ ∃ k os,w' = grow (w.drewN k) os:=Any.strconv_Itoa Tryd.laysM171 n h0 h1 w htab
end Go.Proofs
