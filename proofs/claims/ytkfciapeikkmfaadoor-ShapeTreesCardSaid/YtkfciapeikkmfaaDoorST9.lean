/-
  Part 9 of a proof: Shelf.
-/
import Derived.Shelf.Strings.Builder1
import Derived.Shelf.Strings.Builder2
import Derived.Shelf.Strings.OnBuilder
import Derived.Shelf.Strings.BuilderF
import Derived.Shelf.Strings.BuilderK
import Derived.Shelf.Strings.Builder2Cap
import Derived.Shelf.Strconv.Itoa0
import Derived.Shelf.Strconv.Itoa1
import Derived.Shelf.LaysM
import Derived.Shelf.Strconv.Itoa2
import Derived.Shelf.Strconv.Itoa3
import Derived.Shelf.Strings.Prefix
import Derived.Shelf.Bits.Mul64
import Derived.Shelf.Strings.Repeat
import Derived.Shelf.Strings.BuilderCap
import Derived.Test.YtkfciapeikkmfaaDoorProg
import Derived.Test.YtkfciapeikkmfaaDoorST8
section
namespace Go.Proofs
open Go.Shelf
def Tryd.lays169_ren:Go.Shelf.Ren:=⟨fun | 169=>43 | n=>n,fun | 70=>83 | 9=>9 | 0=>0 | 72=>85 | 37=>68 | 127=>112 | 3=>3 | 5=>5 | n=>n,fun | n=>n⟩
theorem Tryd.lays169:Go.Proofs.Lays.n169 Tryd.prog Tryd.lays169_ren:={
 mixed:=by kernel_rfl
 f169:=Tryd.func43.trans (congrArg some (by kernel_rfl))
 t0:=Tryd.underlying0
 a0:=Tryd.isAgg0
 z0:=Tryd.sizeOf0
 v0:=Tryd.zeroValue0
 t3:=Tryd.underlying3
 a3:=Tryd.isAgg3
 z3:=Tryd.sizeOf3
 v3:=Tryd.zeroValue3
 t9:=Tryd.underlying9
 a9:=Tryd.isAgg9
 z9:=Tryd.sizeOf9
 v9:=Tryd.zeroValue9
 t37:=Tryd.underlying68
 a37:=Tryd.isAgg68
 z37:=Tryd.sizeOf68
 v37:=Tryd.zeroValue68
 t70:=Tryd.underlying83
 a70:=Tryd.isAgg83
 z70:=Tryd.sizeOf83
 v70:=Tryd.zeroValue83
 t72:=Tryd.underlying85
 a72:=Tryd.isAgg85
 z72:=Tryd.sizeOf85
 v72:=Tryd.zeroValue85
 t127:=Tryd.underlying112
 a127:=Tryd.isAgg112
 z127:=Tryd.sizeOf112
 v127:=Tryd.zeroValue112 }
theorem Tryd.Builder_Extra_169:Builder.Extra Tryd.prog Tryd.lays169_ren:={
 sizeBuilder:=by kernel_rfl
 liesBuilder:=by kernel_rfl
 t5:=Tryd.underlying5
 a5:=Tryd.isAgg5
 z5:=Tryd.sizeOf5
 v5:=Tryd.zeroValue5
 infoByte:=by kernel_rfl
 cellsByte:=by kernel_rfl
 sizeByte:=by kernel_rfl
 neB5:=by decide }
open Go.RowKit in
theorem Tryd.Builder_String_any (B b:Nat) (l:List UInt8) (w:World) (h:Lib.IsBuilder 85 5 B b (Lib.byteCells l) w) (hBw:B≤w.heap.size) :
  Calls Tryd.prog 43 #[.pointer (some ⟨b,0,none⟩)] w fun e w'=>e = .returned (.string ⟨l.toArray⟩)∧Below B w w':=Any.Builder_String_any Tryd.lays169 Tryd.Builder_Extra_169 B b l w h hBw
def Tryd.lays156_ren:Go.Shelf.Ren:=⟨fun | 156=>25 | 165=>40 | 166=>41 | 169=>43 | 240=>62 | 241=>63 | 276=>74 | 277=>75 | n=>n,fun | 31=>22 | 9=>9 | 3=>3 | 4=>4 | 0=>0 | 20=>20 | 72=>85 | 76=>89 | 70=>83 | 37=>68 | 75=>88 | 127=>112 | 164=>119 | 5=>5 | 80=>92 | n=>n,fun | n=>n⟩
theorem Tryd.lays156:Go.Proofs.Lays.n156 Tryd.prog Tryd.lays156_ren:={
 mixed:=by kernel_rfl
 f156:=Tryd.func25.trans (congrArg some (by kernel_rfl))
 f165:=Tryd.func40.trans (congrArg some (by kernel_rfl))
 f166:=Tryd.func41.trans (congrArg some (by kernel_rfl))
 f169:=Tryd.func43.trans (congrArg some (by kernel_rfl))
 f240:=Tryd.func62.trans (congrArg some (by kernel_rfl))
 f241:=Tryd.func63.trans (congrArg some (by kernel_rfl))
 f276:=Tryd.func74.trans (congrArg some (by kernel_rfl))
 f277:=Tryd.func75.trans (congrArg some (by kernel_rfl))
 t0:=Tryd.underlying0
 a0:=Tryd.isAgg0
 z0:=Tryd.sizeOf0
 v0:=Tryd.zeroValue0
 t3:=Tryd.underlying3
 a3:=Tryd.isAgg3
 z3:=Tryd.sizeOf3
 v3:=Tryd.zeroValue3
 t4:=Tryd.underlying4
 a4:=Tryd.isAgg4
 z4:=Tryd.sizeOf4
 v4:=Tryd.zeroValue4
 t9:=Tryd.underlying9
 a9:=Tryd.isAgg9
 z9:=Tryd.sizeOf9
 v9:=Tryd.zeroValue9
 t20:=Tryd.underlying20
 a20:=Tryd.isAgg20
 z20:=Tryd.sizeOf20
 v20:=Tryd.zeroValue20
 t31:=Tryd.underlying22
 a31:=Tryd.isAgg22
 z31:=Tryd.sizeOf22
 v31:=Tryd.zeroValue22
 t37:=Tryd.underlying68
 a37:=Tryd.isAgg68
 z37:=Tryd.sizeOf68
 v37:=Tryd.zeroValue68
 t70:=Tryd.underlying83
 a70:=Tryd.isAgg83
 z70:=Tryd.sizeOf83
 v70:=Tryd.zeroValue83
 t72:=Tryd.underlying85
 a72:=Tryd.isAgg85
 z72:=Tryd.sizeOf85
 v72:=Tryd.zeroValue85
 t75:=Tryd.underlying88
 a75:=Tryd.isAgg88
 z75:=Tryd.sizeOf88
 v75:=Tryd.zeroValue88
 t76:=Tryd.underlying89
 a76:=Tryd.isAgg89
 z76:=Tryd.sizeOf89
 v76:=Tryd.zeroValue89
 t127:=Tryd.underlying112
 a127:=Tryd.isAgg112
 z127:=Tryd.sizeOf112
 v127:=Tryd.zeroValue112
 t164:=Tryd.underlying119
 a164:=Tryd.isAgg119
 z164:=Tryd.sizeOf119
 v164:=Tryd.zeroValue119 }
theorem Tryd.Builder_Extra_156:Builder.Extra Tryd.prog Tryd.lays156_ren:={
 sizeBuilder:=by kernel_rfl
 liesBuilder:=by kernel_rfl
 t5:=Tryd.underlying5
 a5:=Tryd.isAgg5
 z5:=Tryd.sizeOf5
 v5:=Tryd.zeroValue5
 infoByte:=by kernel_rfl
 cellsByte:=by kernel_rfl
 sizeByte:=by kernel_rfl
 neB5:=by decide }
open Go.RowKit in
theorem Tryd.strings_Join_none (a:Option Addr) (c:Nat) (sep:ByteArray) (w:World) :
  Calls Tryd.prog 25 #[.slice a 0 c,.string sep] w fun e w'=>e = .returned (.string ⟨#[]⟩)∧w' = w:=Any.strings_Join_none Tryd.lays156 Tryd.Builder_Extra_156 a c sep w
open Go.RowKit in
theorem Tryd.strings_Join (bk o c:Nat) (xs:List ByteArray) (sep:ByteArray) (w:World) (hcells:∀ (j:Nat) x,xs[j]? = some x->w.cell? ⟨bk,o + j,none⟩ = some (.string x)) (hbk:bk < w.heap.size) (hN:xs.length≤140737488355328) (hcap:xs.length≤c) (hlen:(Lib.join (xs.map (·.data.toList)) sep.data.toList).length≤140737488355328) :
  Calls Tryd.prog 25 #[.slice (some ⟨bk,o,none⟩) xs.length c,.string sep] w fun e w'=>e = .returned (.string ⟨(Lib.join (xs.map (·.data.toList)) sep.data.toList).toArray⟩)∧Below w.heap.size w w':=Any.strings_Join Tryd.lays156 Tryd.Builder_Extra_156 bk o c xs sep w hcells hbk hN hcap hlen
def Tryd.laysM171_ren:Go.Shelf.Ren:=⟨fun | 171=>44 | 243=>64 | 246=>76 | 283=>82 | 284=>83 | 285=>84 | 286=>85 | 129=>89 | 317=>88 | 318=>90 | 319=>91 | 320=>92 | 337=>93 | 338=>94 | n=>n,fun | 3=>3 | 9=>9 | 2=>2 | 4=>4 | 171=>127 | 0=>0 | 53=>109 | 37=>68 | 5=>5 | 173=>130 | 212=>136 | 51=>106 | 20=>20 | 213=>137 | 46=>79 | 232=>141 | 233=>142 | n=>n,fun | 17=>1 | 18=>2 | 19=>3 | n=>n⟩
theorem Tryd.laysM171:Go.Proofs.LaysM.n171 Tryd.prog Tryd.laysM171_ren:={
 mixed:=by kernel_rfl
 f129:=Tryd.func89.trans (congrArg some (by kernel_rfl))
 f171:=Tryd.func44.trans (congrArg some (by kernel_rfl))
 f243:=Tryd.func64.trans (congrArg some (by kernel_rfl))
 f246:=Tryd.func76.trans (congrArg some (by kernel_rfl))
 f283:=Tryd.func82.trans (congrArg some (by kernel_rfl))
 f284:=Tryd.func83.trans (congrArg some (by kernel_rfl))
 f285:=Tryd.func84.trans (congrArg some (by kernel_rfl))
 f286:=Tryd.func85.trans (congrArg some (by kernel_rfl))
 f317:=Tryd.func88.trans (congrArg some (by kernel_rfl))
 f318:=Tryd.func90.trans (congrArg some (by kernel_rfl))
 f319:=Tryd.func91.trans (congrArg some (by kernel_rfl))
 f320:=Tryd.func92.trans (congrArg some (by kernel_rfl))
 f337:=Tryd.func93.trans (congrArg some (by kernel_rfl))
 f338:=Tryd.func94.trans (congrArg some (by kernel_rfl))
 t0:=Tryd.underlying0
 a0:=Tryd.isAgg0
 z0:=Tryd.sizeOf0
 v0:=Tryd.zeroValue0
 t2:=Tryd.underlying2
 a2:=Tryd.isAgg2
 z2:=Tryd.sizeOf2
 v2:=Tryd.zeroValue2
 t3:=Tryd.underlying3
 a3:=Tryd.isAgg3
 z3:=Tryd.sizeOf3
 v3:=Tryd.zeroValue3
 t4:=Tryd.underlying4
 a4:=Tryd.isAgg4
 z4:=Tryd.sizeOf4
 v4:=Tryd.zeroValue4
 t5:=Tryd.underlying5
 a5:=Tryd.isAgg5
 z5:=Tryd.sizeOf5
 v5:=Tryd.zeroValue5
 t9:=Tryd.underlying9
 a9:=Tryd.isAgg9
 z9:=Tryd.sizeOf9
 v9:=Tryd.zeroValue9
 t20:=Tryd.underlying20
 a20:=Tryd.isAgg20
 z20:=Tryd.sizeOf20
 v20:=Tryd.zeroValue20
 t37:=Tryd.underlying68
 a37:=Tryd.isAgg68
 z37:=Tryd.sizeOf68
 v37:=Tryd.zeroValue68
 t46:=Tryd.underlying79
 a46:=Tryd.isAgg79
 z46:=Tryd.sizeOf79
 v46:=Tryd.zeroValue79
 t51:=Tryd.underlying106
 a51:=Tryd.isAgg106
 z51:=Tryd.sizeOf106
 v51:=Tryd.zeroValue106
 t53:=Tryd.underlying109
 a53:=Tryd.isAgg109
 z53:=Tryd.sizeOf109
 v53:=Tryd.zeroValue109
 t171:=Tryd.underlying127
 a171:=Tryd.isAgg127
 z171:=Tryd.sizeOf127
 v171:=Tryd.zeroValue127
 t173:=Tryd.underlying130
 a173:=Tryd.isAgg130
 z173:=Tryd.sizeOf130
 v173:=Tryd.zeroValue130
 t212:=Tryd.underlying136
 a212:=Tryd.isAgg136
 z212:=Tryd.sizeOf136
 v212:=Tryd.zeroValue136
 t213:=Tryd.underlying137
 a213:=Tryd.isAgg137
 z213:=Tryd.sizeOf137
 t232:=Tryd.underlying141
 a232:=Tryd.isAgg141
 z232:=Tryd.sizeOf141
 v232:=Tryd.zeroValue141
 t233:=Tryd.underlying142
 a233:=Tryd.isAgg142
 z233:=Tryd.sizeOf142
 v233:=Tryd.zeroValue142
 g17:=by kernel_rfl
 g18:=by kernel_rfl
 g19:=by kernel_rfl
 i0:=by kernel_rfl
 i2:=by kernel_rfl
 i3:=by kernel_rfl
 i4:=by kernel_rfl
 i5:=by kernel_rfl
 i9:=by kernel_rfl
 i20:=by kernel_rfl
 i37:=by kernel_rfl
 i46:=by kernel_rfl
 i51:=by kernel_rfl
 i53:=by kernel_rfl
 i171:=by kernel_rfl
 i173:=by kernel_rfl
 i212:=by kernel_rfl
 i232:=by kernel_rfl
 i233:=by kernel_rfl
 m17:=by kernel_rfl
 m18:=by kernel_rfl
 m19:=by kernel_rfl }
open Go.RowKit Go.Sort Go.Lib in
theorem Tryd.strconv_Itoa (n:Int) (h0:-9223372036854775808≤n) (h1:n≤9223372036854775807) (w:World) (htab:Lib.TabIs Tryd.prog w "internal/strconv.uint64pow10" .u64 Lib.pow10Tab) :
  Calls Tryd.prog 44 #[.int .i64 n] w fun e w'=>e = .returned (.string ⟨(Lib.itoa n).toArray⟩)∧∃ k os,w' = grow (w.drewN k) os:=Any.strconv_Itoa Tryd.laysM171 n h0 h1 w htab
def Tryd.lays105_ren:Go.Shelf.Ren:=⟨fun | 105=>21 | 212=>38 | 99=>39 | 165=>40 | 166=>41 | 170=>42 | 169=>43 | 263=>59 | 264=>60 | 206=>61 | 240=>62 | 241=>63 | 276=>74 | 277=>75 | n=>n,fun | 9=>9 | 3=>3 | 4=>4 | 20=>20 | 0=>0 | 46=>79 | 109=>80 | 5=>5 | 72=>85 | 76=>89 | 51=>106 | 146=>107 | 53=>109 | 148=>110 | 70=>83 | 37=>68 | 75=>88 | 127=>112 | 164=>119 | 80=>92 | n=>n,fun | n=>n⟩
theorem Tryd.lays105:Go.Proofs.Lays.n105 Tryd.prog Tryd.lays105_ren:={
 mixed:=by kernel_rfl
 f99:=Tryd.func39.trans (congrArg some (by kernel_rfl))
 f105:=Tryd.func21.trans (congrArg some (by kernel_rfl))
 f165:=Tryd.func40.trans (congrArg some (by kernel_rfl))
 f166:=Tryd.func41.trans (congrArg some (by kernel_rfl))
 f169:=Tryd.func43.trans (congrArg some (by kernel_rfl))
 f170:=Tryd.func42.trans (congrArg some (by kernel_rfl))
 f206:=Tryd.func61.trans (congrArg some (by kernel_rfl))
 f212:=Tryd.func38.trans (congrArg some (by kernel_rfl))
 f240:=Tryd.func62.trans (congrArg some (by kernel_rfl))
 f241:=Tryd.func63.trans (congrArg some (by kernel_rfl))
 f263:=Tryd.func59.trans (congrArg some (by kernel_rfl))
 f264:=Tryd.func60.trans (congrArg some (by kernel_rfl))
 f276:=Tryd.func74.trans (congrArg some (by kernel_rfl))
 f277:=Tryd.func75.trans (congrArg some (by kernel_rfl))
 t0:=Tryd.underlying0
 a0:=Tryd.isAgg0
 z0:=Tryd.sizeOf0
 v0:=Tryd.zeroValue0
 t3:=Tryd.underlying3
 a3:=Tryd.isAgg3
 z3:=Tryd.sizeOf3
 v3:=Tryd.zeroValue3
 t4:=Tryd.underlying4
 a4:=Tryd.isAgg4
 z4:=Tryd.sizeOf4
 v4:=Tryd.zeroValue4
 t5:=Tryd.underlying5
 a5:=Tryd.isAgg5
 z5:=Tryd.sizeOf5
 v5:=Tryd.zeroValue5
 t9:=Tryd.underlying9
 a9:=Tryd.isAgg9
 z9:=Tryd.sizeOf9
 v9:=Tryd.zeroValue9
 t20:=Tryd.underlying20
 a20:=Tryd.isAgg20
 z20:=Tryd.sizeOf20
 v20:=Tryd.zeroValue20
 t37:=Tryd.underlying68
 a37:=Tryd.isAgg68
 z37:=Tryd.sizeOf68
 v37:=Tryd.zeroValue68
 t46:=Tryd.underlying79
 a46:=Tryd.isAgg79
 z46:=Tryd.sizeOf79
 v46:=Tryd.zeroValue79
 t51:=Tryd.underlying106
 a51:=Tryd.isAgg106
 z51:=Tryd.sizeOf106
 v51:=Tryd.zeroValue106
 t53:=Tryd.underlying109
 a53:=Tryd.isAgg109
 z53:=Tryd.sizeOf109
 v53:=Tryd.zeroValue109
 t70:=Tryd.underlying83
 a70:=Tryd.isAgg83
 z70:=Tryd.sizeOf83
 v70:=Tryd.zeroValue83
 t72:=Tryd.underlying85
 a72:=Tryd.isAgg85
 z72:=Tryd.sizeOf85
 v72:=Tryd.zeroValue85
 t75:=Tryd.underlying88
 a75:=Tryd.isAgg88
 z75:=Tryd.sizeOf88
 v75:=Tryd.zeroValue88
 t76:=Tryd.underlying89
 a76:=Tryd.isAgg89
 z76:=Tryd.sizeOf89
 v76:=Tryd.zeroValue89
 t109:=Tryd.underlying80
 a109:=Tryd.isAgg80
 z109:=Tryd.sizeOf80
 v109:=Tryd.zeroValue80
 t127:=Tryd.underlying112
 a127:=Tryd.isAgg112
 z127:=Tryd.sizeOf112
 v127:=Tryd.zeroValue112
 t146:=Tryd.underlying107
 a146:=Tryd.isAgg107
 z146:=Tryd.sizeOf107
 v146:=Tryd.zeroValue107
 t148:=Tryd.underlying110
 a148:=Tryd.isAgg110
 z148:=Tryd.sizeOf110
 v148:=Tryd.zeroValue110
 t164:=Tryd.underlying119
 a164:=Tryd.isAgg119
 z164:=Tryd.sizeOf119
 v164:=Tryd.zeroValue119 }
theorem Tryd.Builder_Extra_105:Builder.Extra Tryd.prog Tryd.lays105_ren:={
 sizeBuilder:=by kernel_rfl
 liesBuilder:=by kernel_rfl
 t5:=Tryd.underlying5
 a5:=Tryd.isAgg5
 z5:=Tryd.sizeOf5
 v5:=Tryd.zeroValue5
 infoByte:=by kernel_rfl
 cellsByte:=by kernel_rfl
 sizeByte:=by kernel_rfl
 neB5:=by decide }
open Go.RowKit Go.Lib in
theorem Tryd.strings_Repeat (s:ByteArray) (c:Nat) (w:World) (hc:c≤9223372036854775807) (hlen:s.size * c≤140737488355328) :
  Calls Tryd.prog 21 #[.string s,.int .i64 c] w fun e w'=>e = .returned (.string ⟨(Lib.repeatL s.data.toList c).toArray⟩)∧Below w.heap.size w w':=Any.strings_Repeat Tryd.lays105 Tryd.Builder_Extra_105 s c w hc hlen
end Go.Proofs
end
