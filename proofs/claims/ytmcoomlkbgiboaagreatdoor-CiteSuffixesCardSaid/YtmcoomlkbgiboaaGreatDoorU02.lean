/-
  DERIVED: THE SHELF's CONTRACTS AT THIS DUMP, IN PLAIN WORDS (tools/lay-plain.mjs out of 'TryzShelf.lean', which tools/lay-shelf.mjs wrote): THE SAME DECLARATIONS UNDER THE SAME NAMES: 'import', 'namespace', 'open', 'def', 'theorem' AND NOTHING ELSE: no command of the shelf's: FOR A HAND-IN. Each laying: the table of numbers ('.._ren') and one theorem, a field a fact of the dump's own or the kernel's comparison; each contract: ONE APPLICATION.
-/
import Derived.Test.YtmcoomlkbgiboaaGreatDoorProg
import Derived.Test.YtmcoomlkbgiboaaGreatDoorU01
import Derived.Shelf.Strings.Builder1
import Derived.Shelf.Strings.Builder2
import Derived.Shelf.Strings.OnBuilder
import Derived.Shelf.Small.Utf8
import Derived.Shelf.Small.Strs
import Derived.Shelf.Small.Wraps
import Derived.Shelf.Strings.BuilderF
import Derived.Shelf.Strings.BuilderK
import Derived.Shelf.Strconv.Itoa0
import Derived.Shelf.Strconv.Itoa1
import Derived.Shelf.LaysM
import Derived.Shelf.Strconv.Itoa2
import Derived.Shelf.Strconv.Itoa3
import Derived.Shelf.Strings.Search1
import Derived.Shelf.Strings.Search2
import Derived.Shelf.Strings.Search3
import Derived.Shelf.Strings.Cut
import Derived.Shelf.Strings.Count
import Derived.Shelf.Strings.Shaped
import Derived.Shelf.Strings.Split
import Derived.Shelf.Strings.Fields
import Derived.Shelf.Strings.SplitShaped
import Derived.Shelf.Unicode.Latin
import Derived.Shelf.Strings.Runes
import Derived.Shelf.Strings.IndexAny
import Derived.Shelf.Strings.AsciiSet
import Derived.Shelf.Strings.IndexAnyAll
import Derived.Shelf.Unicode.DecodeSlow
import Derived.Shelf.Unicode.Is16White
import Derived.Shelf.Unicode.IsSpaceAny
import Derived.Shelf.Unicode.Is16WhiteD
import Derived.Shelf.Unicode.IsSpaceAnyD
import Derived.Shelf.Strings.FieldsAny
import Derived.Shelf.Strings.FieldsFuncAny
import Derived.Shelf.Unicode.Is16Any
import Derived.Shelf.Unicode.Is32Any
import Derived.Shelf.Unicode.ExclAny
set_option linter.all false
set_option maxRecDepth 100000
set_option maxHeartbeats 3200000
namespace Go.Proofs
open Go.Shelf
def Tryz.lays169_ren:Go.Shelf.Ren:=⟨fun|169=>64|n=>n,fun|70=>119|9=>9|0=>0|72=>122|37=>120|127=>173|3=>3|5=>5|n=>n,fun|n=>n⟩
theorem Tryz.lays169:Go.Proofs.Lays.n169 Tryz.prog Tryz.lays169_ren:={
 mixed:=by kernel_rfl
 f169:=Tryz.func64.trans (congrArg some (by kernel_rfl))
 t0:=Tryz.underlying0
 a0:=Tryz.isAgg0
 z0:=Tryz.sizeOf0
 v0:=Tryz.zeroValue0
 t3:=Tryz.underlying3
 a3:=Tryz.isAgg3
 z3:=Tryz.sizeOf3
 v3:=Tryz.zeroValue3
 t9:=Tryz.underlying9
 a9:=Tryz.isAgg9
 z9:=Tryz.sizeOf9
 v9:=Tryz.zeroValue9
 t37:=Tryz.underlying120
 a37:=Tryz.isAgg120
 z37:=Tryz.sizeOf120
 v37:=Tryz.zeroValue120
 t70:=Tryz.underlying119
 a70:=Tryz.isAgg119
 z70:=Tryz.sizeOf119
 v70:=Tryz.zeroValue119
 t72:=Tryz.underlying122
 a72:=Tryz.isAgg122
 z72:=Tryz.sizeOf122
 v72:=Tryz.zeroValue122
 t127:=Tryz.underlying173
 a127:=Tryz.isAgg173
 z127:=Tryz.sizeOf173
 v127:=Tryz.zeroValue173 }
theorem Tryz.Builder_Extra_169:Builder.Extra Tryz.prog Tryz.lays169_ren:={
 sizeBuilder:=by kernel_rfl
 liesBuilder:=by kernel_rfl
 t5:=Tryz.underlying5
 a5:=Tryz.isAgg5
 z5:=Tryz.sizeOf5
 v5:=Tryz.zeroValue5
 infoByte:=by kernel_rfl
 cellsByte:=by kernel_rfl
 sizeByte:=by kernel_rfl
 neB5:=by decide }
open Go.RowKit in
theorem Tryz.Builder_String_any (B b:Nat) (l:List UInt8) (w:World) (h:Lib.IsBuilder 122 5 B b (Lib.byteCells l) w) (hBw:B<=w.heap.size) :
  Calls Tryz.prog 64 #[.pointer (some ⟨b,0,none⟩)] w fun e w'=>e=.returned (.string ⟨l.toArray⟩)/\Below B w w':=Any.Builder_String_any Tryz.lays169 Tryz.Builder_Extra_169 B b l w h hBw
def Tryz.lays156_ren:Go.Shelf.Ren:=⟨fun|156=>88|165=>137|166=>63|169=>64|240=>120|241=>184|276=>165|277=>225|n=>n,fun|31=>29|9=>9|3=>3|4=>4|0=>0|20=>20|72=>122|76=>125|70=>119|37=>120|75=>124|127=>173|164=>219|5=>5|80=>127|n=>n,fun|n=>n⟩
theorem Tryz.lays156:Go.Proofs.Lays.n156 Tryz.prog Tryz.lays156_ren:={
 mixed:=by kernel_rfl
 f156:=Tryz.func88.trans (congrArg some (by kernel_rfl))
 f165:=Tryz.func137.trans (congrArg some (by kernel_rfl))
 f166:=Tryz.func63.trans (congrArg some (by kernel_rfl))
 f169:=Tryz.func64.trans (congrArg some (by kernel_rfl))
 f240:=Tryz.func120.trans (congrArg some (by kernel_rfl))
 f241:=Tryz.func184.trans (congrArg some (by kernel_rfl))
 f276:=Tryz.func165.trans (congrArg some (by kernel_rfl))
 f277:=Tryz.func225.trans (congrArg some (by kernel_rfl))
 t0:=Tryz.underlying0
 a0:=Tryz.isAgg0
 z0:=Tryz.sizeOf0
 v0:=Tryz.zeroValue0
 t3:=Tryz.underlying3
 a3:=Tryz.isAgg3
 z3:=Tryz.sizeOf3
 v3:=Tryz.zeroValue3
 t4:=Tryz.underlying4
 a4:=Tryz.isAgg4
 z4:=Tryz.sizeOf4
 v4:=Tryz.zeroValue4
 t9:=Tryz.underlying9
 a9:=Tryz.isAgg9
 z9:=Tryz.sizeOf9
 v9:=Tryz.zeroValue9
 t20:=Tryz.underlying20
 a20:=Tryz.isAgg20
 z20:=Tryz.sizeOf20
 v20:=Tryz.zeroValue20
 t31:=Tryz.underlying29
 a31:=Tryz.isAgg29
 z31:=Tryz.sizeOf29
 v31:=Tryz.zeroValue29
 t37:=Tryz.underlying120
 a37:=Tryz.isAgg120
 z37:=Tryz.sizeOf120
 v37:=Tryz.zeroValue120
 t70:=Tryz.underlying119
 a70:=Tryz.isAgg119
 z70:=Tryz.sizeOf119
 v70:=Tryz.zeroValue119
 t72:=Tryz.underlying122
 a72:=Tryz.isAgg122
 z72:=Tryz.sizeOf122
 v72:=Tryz.zeroValue122
 t75:=Tryz.underlying124
 a75:=Tryz.isAgg124
 z75:=Tryz.sizeOf124
 v75:=Tryz.zeroValue124
 t76:=Tryz.underlying125
 a76:=Tryz.isAgg125
 z76:=Tryz.sizeOf125
 v76:=Tryz.zeroValue125
 t127:=Tryz.underlying173
 a127:=Tryz.isAgg173
 z127:=Tryz.sizeOf173
 v127:=Tryz.zeroValue173
 t164:=Tryz.underlying219
 a164:=Tryz.isAgg219
 z164:=Tryz.sizeOf219
 v164:=Tryz.zeroValue219 }
theorem Tryz.Builder_Extra_156:Builder.Extra Tryz.prog Tryz.lays156_ren:={
 sizeBuilder:=by kernel_rfl
 liesBuilder:=by kernel_rfl
 t5:=Tryz.underlying5
 a5:=Tryz.isAgg5
 z5:=Tryz.sizeOf5
 v5:=Tryz.zeroValue5
 infoByte:=by kernel_rfl
 cellsByte:=by kernel_rfl
 sizeByte:=by kernel_rfl
 neB5:=by decide }
open Go.RowKit in
theorem Tryz.strings_Join_none (a:Option Addr) (c:Nat) (sep:ByteArray) (w:World) :
  Calls Tryz.prog 88 #[.slice a 0 c,.string sep] w fun e w'=>e=.returned (.string ⟨#[]⟩)/\w'=w:=Any.strings_Join_none Tryz.lays156 Tryz.Builder_Extra_156 a c sep w
open Go.RowKit in
theorem Tryz.strings_Join (bk o c:Nat) (xs:List ByteArray) (sep:ByteArray) (w:World) (hcells:∀ (j:Nat) x,xs[j]? = some x->w.cell? ⟨bk,o+j,none⟩=some (.string x)) (hbk:bk<w.heap.size) (hN:xs.length<=140737488355328) (hcap:xs.length<=c) (hlen:(Lib.join (xs.map (·.data.toList)) sep.data.toList).length<=140737488355328) :
  Calls Tryz.prog 88 #[.slice (some ⟨bk,o,none⟩) xs.length c,.string sep] w fun e w'=>e=.returned (.string ⟨(Lib.join (xs.map (·.data.toList)) sep.data.toList).toArray⟩)/\Below w.heap.size w w':=Any.strings_Join Tryz.lays156 Tryz.Builder_Extra_156 bk o c xs sep w hcells hbk hN hcap hlen
def Tryz.lays119_ren:Go.Shelf.Ren:=⟨fun|119=>206|n=>n,fun|21=>21|4=>4|n=>n,fun|n=>n⟩
theorem Tryz.lays119:Go.Proofs.Lays.n119 Tryz.prog Tryz.lays119_ren:={
 mixed:=by kernel_rfl
 f119:=Tryz.func206.trans (congrArg some (by kernel_rfl))
 t4:=Tryz.underlying4
 a4:=Tryz.isAgg4
 z4:=Tryz.sizeOf4
 v4:=Tryz.zeroValue4
 t21:=Tryz.underlying21
 a21:=Tryz.isAgg21
 z21:=Tryz.sizeOf21
 v21:=Tryz.zeroValue21 }
theorem Tryz.utf8_ValidRune (r:Int) (w:World) :
  Calls Tryz.prog 206 #[.int .i32 r] w fun e w'=>e=.returned (.bool (Lib.validRune r))/\w'=w:=Any.utf8_ValidRune Tryz.lays119 r w
def Tryz.lays106_ren:Go.Shelf.Ren:=⟨fun|106=>97|213=>148|265=>194|n=>n,fun|9=>9|3=>3|n=>n,fun|n=>n⟩
theorem Tryz.lays106:Go.Proofs.Lays.n106 Tryz.prog Tryz.lays106_ren:={
 mixed:=by kernel_rfl
 f106:=Tryz.func97.trans (congrArg some (by kernel_rfl))
 f213:=Tryz.func148.trans (congrArg some (by kernel_rfl))
 f265:=Tryz.func194.trans (congrArg some (by kernel_rfl))
 t3:=Tryz.underlying3
 a3:=Tryz.isAgg3
 z3:=Tryz.sizeOf3
 v3:=Tryz.zeroValue3
 t9:=Tryz.underlying9
 a9:=Tryz.isAgg9
 z9:=Tryz.sizeOf9
 v9:=Tryz.zeroValue9 }
open Go.RowKit in
theorem Tryz.strings_Compare (a b:ByteArray) (w:World) :
  Calls Tryz.prog 97 #[.string a,.string b] w fun e w'=>e=.returned (.int .i64 (Lib.compareBytes a.data.toList b.data.toList))/\w'=w:=Any.strings_Compare Tryz.lays106 a b w
def Tryz.lays137_ren:Go.Shelf.Ren:=⟨fun|137=>131|217=>179|266=>222|n=>n,fun|9=>9|5=>5|3=>3|n=>n,fun|n=>n⟩
theorem Tryz.lays137:Go.Proofs.Lays.n137 Tryz.prog Tryz.lays137_ren:={
 mixed:=by kernel_rfl
 f137:=Tryz.func131.trans (congrArg some (by kernel_rfl))
 f217:=Tryz.func179.trans (congrArg some (by kernel_rfl))
 f266:=Tryz.func222.trans (congrArg some (by kernel_rfl))
 t3:=Tryz.underlying3
 a3:=Tryz.isAgg3
 z3:=Tryz.sizeOf3
 v3:=Tryz.zeroValue3
 t5:=Tryz.underlying5
 a5:=Tryz.isAgg5
 z5:=Tryz.sizeOf5
 v5:=Tryz.zeroValue5
 t9:=Tryz.underlying9
 a9:=Tryz.isAgg9
 z9:=Tryz.sizeOf9
 v9:=Tryz.zeroValue9 }
open Go.RowKit in
theorem Tryz.strings_IndexByte (s:ByteArray) (c:Int) (w:World) :
  Calls Tryz.prog 131 #[.string s,.int .u8 c] w fun e w'=>e=.returned (.int .i64 (Lib.indexByte s.data.toList c.toNat.toUInt8))/\w'=w:=Any.strings_IndexByte Tryz.lays137 s c w
def Tryz.lays122_ren:Go.Shelf.Ren:=⟨fun|122=>96|215=>147|n=>n,fun|3=>3|4=>4|n=>n,fun|n=>n⟩
theorem Tryz.lays122:Go.Proofs.Lays.n122 Tryz.prog Tryz.lays122_ren:={
 mixed:=by kernel_rfl
 f122:=Tryz.func96.trans (congrArg some (by kernel_rfl))
 f215:=Tryz.func147.trans (congrArg some (by kernel_rfl))
 t3:=Tryz.underlying3
 a3:=Tryz.isAgg3
 z3:=Tryz.sizeOf3
 v3:=Tryz.zeroValue3
 t4:=Tryz.underlying4
 a4:=Tryz.isAgg4
 z4:=Tryz.sizeOf4
 v4:=Tryz.zeroValue4 }
open Go.RowKit in
theorem Tryz.cmp_Compare_int (x y:Int) (w:World) :
  Calls Tryz.prog 96 #[.int .i64 x,.int .i64 y] w fun e w'=>e=.returned (.int .i64 (Lib.compareInt x y))/\w'=w:=Any.cmp_Compare_int Tryz.lays122 x y w
def Tryz.laysM171_ren:Go.Shelf.Ren:=⟨fun|171=>89|243=>138|246=>185|283=>226|284=>227|285=>228|286=>229|129=>264|317=>263|318=>265|319=>266|320=>267|337=>279|338=>280|n=>n,fun|3=>3|9=>9|2=>2|4=>4|171=>266|0=>0|53=>267|37=>120|5=>5|173=>270|212=>285|51=>188|20=>20|213=>286|46=>245|232=>306|233=>307|n=>n,fun|17=>3|18=>6|19=>7|n=>n⟩
theorem Tryz.laysM171:Go.Proofs.LaysM.n171 Tryz.prog Tryz.laysM171_ren:={
 mixed:=by kernel_rfl
 f129:=Tryz.func264.trans (congrArg some (by kernel_rfl))
 f171:=Tryz.func89.trans (congrArg some (by kernel_rfl))
 f243:=Tryz.func138.trans (congrArg some (by kernel_rfl))
 f246:=Tryz.func185.trans (congrArg some (by kernel_rfl))
 f283:=Tryz.func226.trans (congrArg some (by kernel_rfl))
 f284:=Tryz.func227.trans (congrArg some (by kernel_rfl))
 f285:=Tryz.func228.trans (congrArg some (by kernel_rfl))
 f286:=Tryz.func229.trans (congrArg some (by kernel_rfl))
 f317:=Tryz.func263.trans (congrArg some (by kernel_rfl))
 f318:=Tryz.func265.trans (congrArg some (by kernel_rfl))
 f319:=Tryz.func266.trans (congrArg some (by kernel_rfl))
 f320:=Tryz.func267.trans (congrArg some (by kernel_rfl))
 f337:=Tryz.func279.trans (congrArg some (by kernel_rfl))
 f338:=Tryz.func280.trans (congrArg some (by kernel_rfl))
 t0:=Tryz.underlying0
 a0:=Tryz.isAgg0
 z0:=Tryz.sizeOf0
 v0:=Tryz.zeroValue0
 t2:=Tryz.underlying2
 a2:=Tryz.isAgg2
 z2:=Tryz.sizeOf2
 v2:=Tryz.zeroValue2
 t3:=Tryz.underlying3
 a3:=Tryz.isAgg3
 z3:=Tryz.sizeOf3
 v3:=Tryz.zeroValue3
 t4:=Tryz.underlying4
 a4:=Tryz.isAgg4
 z4:=Tryz.sizeOf4
 v4:=Tryz.zeroValue4
 t5:=Tryz.underlying5
 a5:=Tryz.isAgg5
 z5:=Tryz.sizeOf5
 v5:=Tryz.zeroValue5
 t9:=Tryz.underlying9
 a9:=Tryz.isAgg9
 z9:=Tryz.sizeOf9
 v9:=Tryz.zeroValue9
 t20:=Tryz.underlying20
 a20:=Tryz.isAgg20
 z20:=Tryz.sizeOf20
 v20:=Tryz.zeroValue20
 t37:=Tryz.underlying120
 a37:=Tryz.isAgg120
 z37:=Tryz.sizeOf120
 v37:=Tryz.zeroValue120
 t46:=Tryz.underlying245
 a46:=Tryz.isAgg245
 z46:=Tryz.sizeOf245
 v46:=Tryz.zeroValue245
 t51:=Tryz.underlying188
 a51:=Tryz.isAgg188
 z51:=Tryz.sizeOf188
 v51:=Tryz.zeroValue188
 t53:=Tryz.underlying267
 a53:=Tryz.isAgg267
 z53:=Tryz.sizeOf267
 v53:=Tryz.zeroValue267
 t171:=Tryz.underlying266
 a171:=Tryz.isAgg266
 z171:=Tryz.sizeOf266
 v171:=Tryz.zeroValue266
 t173:=Tryz.underlying270
 a173:=Tryz.isAgg270
 z173:=Tryz.sizeOf270
 v173:=Tryz.zeroValue270
 t212:=Tryz.underlying285
 a212:=Tryz.isAgg285
 z212:=Tryz.sizeOf285
 v212:=Tryz.zeroValue285
 t213:=Tryz.underlying286
 a213:=Tryz.isAgg286
 z213:=Tryz.sizeOf286
 t232:=Tryz.underlying306
 a232:=Tryz.isAgg306
 z232:=Tryz.sizeOf306
 v232:=Tryz.zeroValue306
 t233:=Tryz.underlying307
 a233:=Tryz.isAgg307
 z233:=Tryz.sizeOf307
 v233:=Tryz.zeroValue307
 g17:=by kernel_rfl
 g18:=by kernel_rfl
 g19:=by kernel_rfl
 i0:=by kernel_rfl
 i2:=by kernel_rfl
 i3:=by kernel_rfl
 i4:=by kernel_rfl
 i5:=by kernel_rfl
 i9:=by kernel_rfl
 i20:=by kernel_rfl
 i37:=by kernel_rfl
 i46:=by kernel_rfl
 i51:=by kernel_rfl
 i53:=by kernel_rfl
 i171:=by kernel_rfl
 i173:=by kernel_rfl
 i212:=by kernel_rfl
 i232:=by kernel_rfl
 i233:=by kernel_rfl
 m17:=by kernel_rfl
 m18:=by kernel_rfl
 m19:=by kernel_rfl }
open Go.RowKit Go.Sort Go.Lib in
theorem Tryz.strconv_Itoa (n:Int) (h0 : -9223372036854775808<=n) (h1:n<=9223372036854775807) (w:World) (htab:Lib.TabIs Tryz.prog w "internal/strconv.uint64pow10" .u64 Lib.pow10Tab) :
  Calls Tryz.prog 89 #[.int .i64 n] w fun e w'=>e=.returned (.string ⟨(Lib.itoa n).toArray⟩)/\∃ k os,w'=grow (w.drewN k) os:=Any.strconv_Itoa Tryz.laysM171 n h0 h1 w htab
def Tryz.lays144_ren:Go.Shelf.Ren:=⟨fun|144=>134|143=>182|219=>188|217=>179|225=>208|224=>207|267=>233|266=>222|314=>269|n=>n,fun|9=>9|4=>4|3=>3|5=>5|46=>245|146=>288|51=>188|n=>n,fun|1=>2|n=>n⟩
theorem Tryz.lays144:Go.Proofs.Lays.n144 Tryz.prog Tryz.lays144_ren:={
 mixed:=by kernel_rfl
 f143:=Tryz.func182.trans (congrArg some (by kernel_rfl))
 f144:=Tryz.func134.trans (congrArg some (by kernel_rfl))
 f217:=Tryz.func179.trans (congrArg some (by kernel_rfl))
 f219:=Tryz.func188.trans (congrArg some (by kernel_rfl))
 f224:=Tryz.func207.trans (congrArg some (by kernel_rfl))
 f225:=Tryz.func208.trans (congrArg some (by kernel_rfl))
 f266:=Tryz.func222.trans (congrArg some (by kernel_rfl))
 f267:=Tryz.func233.trans (congrArg some (by kernel_rfl))
 f314:=Tryz.func269.trans (congrArg some (by kernel_rfl))
 t3:=Tryz.underlying3
 a3:=Tryz.isAgg3
 z3:=Tryz.sizeOf3
 v3:=Tryz.zeroValue3
 t4:=Tryz.underlying4
 a4:=Tryz.isAgg4
 z4:=Tryz.sizeOf4
 v4:=Tryz.zeroValue4
 t5:=Tryz.underlying5
 a5:=Tryz.isAgg5
 z5:=Tryz.sizeOf5
 v5:=Tryz.zeroValue5
 t9:=Tryz.underlying9
 a9:=Tryz.isAgg9
 z9:=Tryz.sizeOf9
 v9:=Tryz.zeroValue9
 t46:=Tryz.underlying245
 a46:=Tryz.isAgg245
 z46:=Tryz.sizeOf245
 v46:=Tryz.zeroValue245
 t51:=Tryz.underlying188
 a51:=Tryz.isAgg188
 z51:=Tryz.sizeOf188
 v51:=Tryz.zeroValue188
 t146:=Tryz.underlying288
 a146:=Tryz.isAgg288
 z146:=Tryz.sizeOf288
 v146:=Tryz.zeroValue288
 g1:=by kernel_rfl }
open Go.RowKit Go.Lib in
theorem Tryz.strings_Contains_one (s:ByteArray) (c:UInt8) (w:World) :
  Calls Tryz.prog 134 #[.string s,.string ⟨#[c]⟩] w fun e w'=>e=.returned (.bool (decide (0<=Lib.indexByte s.data.toList c)))/\w'=w:=Any.strings_Contains_one Tryz.lays144 s c w
def Tryz.lays145_ren:Go.Shelf.Ren:=⟨fun|145=>91|220=>140|219=>188|217=>179|225=>208|224=>207|267=>233|266=>222|314=>269|n=>n,fun|9=>9|4=>4|59=>153|3=>3|5=>5|46=>245|146=>288|51=>188|n=>n,fun|1=>2|n=>n⟩
theorem Tryz.lays145:Go.Proofs.Lays.n145 Tryz.prog Tryz.lays145_ren:={
 mixed:=by kernel_rfl
 f145:=Tryz.func91.trans (congrArg some (by kernel_rfl))
 f217:=Tryz.func179.trans (congrArg some (by kernel_rfl))
 f219:=Tryz.func188.trans (congrArg some (by kernel_rfl))
 f220:=Tryz.func140.trans (congrArg some (by kernel_rfl))
 f224:=Tryz.func207.trans (congrArg some (by kernel_rfl))
 f225:=Tryz.func208.trans (congrArg some (by kernel_rfl))
 f266:=Tryz.func222.trans (congrArg some (by kernel_rfl))
 f267:=Tryz.func233.trans (congrArg some (by kernel_rfl))
 f314:=Tryz.func269.trans (congrArg some (by kernel_rfl))
 t3:=Tryz.underlying3
 a3:=Tryz.isAgg3
 z3:=Tryz.sizeOf3
 v3:=Tryz.zeroValue3
 t4:=Tryz.underlying4
 a4:=Tryz.isAgg4
 z4:=Tryz.sizeOf4
 v4:=Tryz.zeroValue4
 t5:=Tryz.underlying5
 a5:=Tryz.isAgg5
 z5:=Tryz.sizeOf5
 v5:=Tryz.zeroValue5
 t9:=Tryz.underlying9
 a9:=Tryz.isAgg9
 z9:=Tryz.sizeOf9
 v9:=Tryz.zeroValue9
 t46:=Tryz.underlying245
 a46:=Tryz.isAgg245
 z46:=Tryz.sizeOf245
 v46:=Tryz.zeroValue245
 t51:=Tryz.underlying188
 a51:=Tryz.isAgg188
 z51:=Tryz.sizeOf188
 v51:=Tryz.zeroValue188
 t59:=Tryz.underlying153
 a59:=Tryz.isAgg153
 z59:=Tryz.sizeOf153
 v59:=Tryz.zeroValue153
 t146:=Tryz.underlying288
 a146:=Tryz.isAgg288
 z146:=Tryz.sizeOf288
 v146:=Tryz.zeroValue288
 g1:=by kernel_rfl }
open Go.RowKit Go.Lib in
theorem Tryz.strings_Cut (s sep:ByteArray) (m:Int) (w:World) (hs:s.size<4294967281) (hm:w.cell? ⟨2,0,none⟩=some (.int .i64 m)) :
  Calls Tryz.prog 91 #[.string s,.string sep] w fun e w'=>e=.returned (.tuple #[.string ⟨(Lib.cut s.data.toList sep.data.toList).1.toArray⟩,.string ⟨(Lib.cut s.data.toList sep.data.toList).2.1.toArray⟩,.bool (Lib.cut s.data.toList sep.data.toList).2.2])/\∃ n,w'=w.drewN n:=Any.strings_Cut Tryz.lays145 s sep m w hs hm
def Tryz.lays146_ren:Go.Shelf.Ren:=⟨fun|146=>90|221=>139|268=>186|138=>187|143=>182|195=>230|197=>231|218=>232|219=>188|260=>268|217=>179|225=>208|224=>207|267=>233|266=>222|314=>269|n=>n,fun|9=>9|31=>29|3=>3|4=>4|0=>0|105=>272|21=>21|5=>5|46=>245|119=>155|139=>303|138=>302|146=>288|51=>188|n=>n,fun|1=>2|3=>4|4=>5|n=>n⟩
theorem Tryz.lays146:Go.Proofs.Lays.n146 Tryz.prog Tryz.lays146_ren:={
 mixed:=by kernel_rfl
 f138:=Tryz.func187.trans (congrArg some (by kernel_rfl))
 f143:=Tryz.func182.trans (congrArg some (by kernel_rfl))
 f146:=Tryz.func90.trans (congrArg some (by kernel_rfl))
 f195:=Tryz.func230.trans (congrArg some (by kernel_rfl))
 f197:=Tryz.func231.trans (congrArg some (by kernel_rfl))
 f217:=Tryz.func179.trans (congrArg some (by kernel_rfl))
 f218:=Tryz.func232.trans (congrArg some (by kernel_rfl))
 f219:=Tryz.func188.trans (congrArg some (by kernel_rfl))
 f221:=Tryz.func139.trans (congrArg some (by kernel_rfl))
 f224:=Tryz.func207.trans (congrArg some (by kernel_rfl))
 f225:=Tryz.func208.trans (congrArg some (by kernel_rfl))
 f260:=Tryz.func268.trans (congrArg some (by kernel_rfl))
 f266:=Tryz.func222.trans (congrArg some (by kernel_rfl))
 f267:=Tryz.func233.trans (congrArg some (by kernel_rfl))
 f268:=Tryz.func186.trans (congrArg some (by kernel_rfl))
 f314:=Tryz.func269.trans (congrArg some (by kernel_rfl))
 t0:=Tryz.underlying0
 a0:=Tryz.isAgg0
 z0:=Tryz.sizeOf0
 v0:=Tryz.zeroValue0
 t3:=Tryz.underlying3
 a3:=Tryz.isAgg3
 z3:=Tryz.sizeOf3
 v3:=Tryz.zeroValue3
 t4:=Tryz.underlying4
 a4:=Tryz.isAgg4
 z4:=Tryz.sizeOf4
 v4:=Tryz.zeroValue4
 t5:=Tryz.underlying5
 a5:=Tryz.isAgg5
 z5:=Tryz.sizeOf5
 v5:=Tryz.zeroValue5
 t9:=Tryz.underlying9
 a9:=Tryz.isAgg9
 z9:=Tryz.sizeOf9
 v9:=Tryz.zeroValue9
 t21:=Tryz.underlying21
 a21:=Tryz.isAgg21
 z21:=Tryz.sizeOf21
 v21:=Tryz.zeroValue21
 t31:=Tryz.underlying29
 a31:=Tryz.isAgg29
 z31:=Tryz.sizeOf29
 v31:=Tryz.zeroValue29
 t46:=Tryz.underlying245
 a46:=Tryz.isAgg245
 z46:=Tryz.sizeOf245
 v46:=Tryz.zeroValue245
 t51:=Tryz.underlying188
 a51:=Tryz.isAgg188
 z51:=Tryz.sizeOf188
 v51:=Tryz.zeroValue188
 t105:=Tryz.underlying272
 a105:=Tryz.isAgg272
 z105:=Tryz.sizeOf272
 v105:=Tryz.zeroValue272
 t119:=Tryz.underlying155
 a119:=Tryz.isAgg155
 z119:=Tryz.sizeOf155
 t138:=Tryz.underlying302
 a138:=Tryz.isAgg302
 z138:=Tryz.sizeOf302
 v138:=Tryz.zeroValue302
 t139:=Tryz.underlying303
 a139:=Tryz.isAgg303
 z139:=Tryz.sizeOf303
 v139:=Tryz.zeroValue303
 t146:=Tryz.underlying288
 a146:=Tryz.isAgg288
 z146:=Tryz.sizeOf288
 v146:=Tryz.zeroValue288
 g1:=by kernel_rfl
 g3:=by kernel_rfl
 g4:=by kernel_rfl }
open Go.RowKit Go.Lib in
theorem Tryz.strings_Split (s sep:ByteArray) (m:Int) (w:World) (hs:s.size<4294967281) (hm:w.cell? ⟨2,0,none⟩=some (.int .i64 m)) (h1:1<=sep.size) :
  Calls Tryz.prog 90 #[.string s,.string sep] w fun e w' =>
   e=.returned (.slice (some ⟨w.heap.size,0,none⟩) (Lib.countB s sep+1) (Lib.countB s sep+1))/\w'=w.alloc (.cells ((Lib.splitB sep 0 (Lib.countB s sep) s).map Value.string).toArray 9):=Any.strings_Split Tryz.lays146 (by kernel_rfl) s sep m w hs hm h1
def Tryz.laysM157_ren:Go.Shelf.Ren:=⟨fun|157=>39|229=>92|199=>93|261=>141|311=>189|312=>190|n=>n,fun|9=>9|31=>29|3=>3|5=>5|4=>4|119=>155|0=>0|40=>157|152=>185|21=>21|154=>187|51=>188|141=>190|196=>237|193=>234|198=>240|49=>238|194=>235|201=>243|226=>274|46=>245|227=>275|n=>n,fun|0=>0|6=>1|n=>n⟩
theorem Tryz.laysM157:Go.Proofs.LaysM.n157 Tryz.prog Tryz.laysM157_ren:={
 mixed:=by kernel_rfl
 f157:=Tryz.func39.trans (congrArg some (by kernel_rfl))
 f199:=Tryz.func93.trans (congrArg some (by kernel_rfl))
 f229:=Tryz.func92.trans (congrArg some (by kernel_rfl))
 f261:=Tryz.func141.trans (congrArg some (by kernel_rfl))
 f311:=Tryz.func189.trans (congrArg some (by kernel_rfl))
 f312:=Tryz.func190.trans (congrArg some (by kernel_rfl))
 t0:=Tryz.underlying0
 a0:=Tryz.isAgg0
 z0:=Tryz.sizeOf0
 v0:=Tryz.zeroValue0
 t3:=Tryz.underlying3
 a3:=Tryz.isAgg3
 z3:=Tryz.sizeOf3
 v3:=Tryz.zeroValue3
 t4:=Tryz.underlying4
 a4:=Tryz.isAgg4
 z4:=Tryz.sizeOf4
 v4:=Tryz.zeroValue4
 t5:=Tryz.underlying5
 a5:=Tryz.isAgg5
 z5:=Tryz.sizeOf5
 v5:=Tryz.zeroValue5
 t9:=Tryz.underlying9
 a9:=Tryz.isAgg9
 z9:=Tryz.sizeOf9
 v9:=Tryz.zeroValue9
 t21:=Tryz.underlying21
 a21:=Tryz.isAgg21
 z21:=Tryz.sizeOf21
 v21:=Tryz.zeroValue21
 t31:=Tryz.underlying29
 a31:=Tryz.isAgg29
 z31:=Tryz.sizeOf29
 v31:=Tryz.zeroValue29
 t40:=Tryz.underlying157
 a40:=Tryz.isAgg157
 z40:=Tryz.sizeOf157
 v40:=Tryz.zeroValue157
 t46:=Tryz.underlying245
 a46:=Tryz.isAgg245
 z46:=Tryz.sizeOf245
 v46:=Tryz.zeroValue245
 t49:=Tryz.underlying238
 a49:=Tryz.isAgg238
 z49:=Tryz.sizeOf238
 v49:=Tryz.zeroValue238
 t51:=Tryz.underlying188
 a51:=Tryz.isAgg188
 z51:=Tryz.sizeOf188
 v51:=Tryz.zeroValue188
 t119:=Tryz.underlying155
 a119:=Tryz.isAgg155
 z119:=Tryz.sizeOf155
 t141:=Tryz.underlying190
 a141:=Tryz.isAgg190
 z141:=Tryz.sizeOf190
 v141:=Tryz.zeroValue190
 t152:=Tryz.underlying185
 a152:=Tryz.isAgg185
 z152:=Tryz.sizeOf185
 v152:=Tryz.zeroValue185
 t154:=Tryz.underlying187
 a154:=Tryz.isAgg187
 z154:=Tryz.sizeOf187
 v154:=Tryz.zeroValue187
 t193:=Tryz.underlying234
 a193:=Tryz.isAgg234
 z193:=Tryz.sizeOf234
 v193:=Tryz.zeroValue234
 t194:=Tryz.underlying235
 a194:=Tryz.isAgg235
 z194:=Tryz.sizeOf235
 v194:=Tryz.zeroValue235
 t196:=Tryz.underlying237
 a196:=Tryz.isAgg237
 z196:=Tryz.sizeOf237
 v196:=Tryz.zeroValue237
 t198:=Tryz.underlying240
 a198:=Tryz.isAgg240
 z198:=Tryz.sizeOf240
 v198:=Tryz.zeroValue240
 t201:=Tryz.underlying243
 a201:=Tryz.isAgg243
 z201:=Tryz.sizeOf243
 v201:=Tryz.zeroValue243
 t226:=Tryz.underlying274
 a226:=Tryz.isAgg274
 z226:=Tryz.sizeOf274
 v226:=Tryz.zeroValue274
 t227:=Tryz.underlying275
 a227:=Tryz.isAgg275
 z227:=Tryz.sizeOf275
 v227:=Tryz.zeroValue275
 g0:=by kernel_rfl
 g6:=by kernel_rfl
 i0:=by kernel_rfl
 i3:=by kernel_rfl
 i4:=by kernel_rfl
 i5:=by kernel_rfl
 i9:=by kernel_rfl
 i21:=by kernel_rfl
 i31:=by kernel_rfl
 i40:=by kernel_rfl
 i46:=by kernel_rfl
 i49:=by kernel_rfl
 i51:=by kernel_rfl
 i141:=by kernel_rfl
 i152:=by kernel_rfl
 i154:=by kernel_rfl
 i193:=by kernel_rfl
 i194:=by kernel_rfl
 i196:=by kernel_rfl
 i198:=by kernel_rfl
 i201:=by kernel_rfl
 i226:=by kernel_rfl
 i227:=by kernel_rfl
 m0:=by kernel_rfl
 m6:=by kernel_rfl }
open Go.RowKit Go.Lib in
theorem Tryz.strings_Fields_laid (s:ByteArray) (w:World) (hs:s.size<4294967281) (hascii:∀ (j:Nat) b,s.data.toList[j]? = some b->b.toNat<128) (htab:Lib.TabIs Tryz.prog w "strings.asciiSpace" .u8 Lib.asciiSpaceTab) :
  Calls Tryz.prog 39 #[.string s] w fun e w' =>
   e=.returned (.slice (some ⟨w.heap.size,0,none⟩) (Lib.fields s.data.toList).length (Lib.fields s.data.toList).length)/\w'=w.alloc (.cells ((Lib.fields s.data.toList).map fun l=>Value.string ⟨l.toArray⟩).toArray 9):=Any.strings_Fields_laid Tryz.laysM157 s w hs hascii htab
def Tryz.lays152_ren:Go.Shelf.Ren:=⟨fun|152=>158|137=>131|119=>206|224=>207|225=>208|217=>179|266=>222|n=>n,fun|9=>9|21=>21|3=>3|4=>4|5=>5|0=>0|46=>245|n=>n,fun|n=>n⟩
theorem Tryz.lays152:Go.Proofs.Lays.n152 Tryz.prog Tryz.lays152_ren:={
 mixed:=by kernel_rfl
 f119:=Tryz.func206.trans (congrArg some (by kernel_rfl))
 f137:=Tryz.func131.trans (congrArg some (by kernel_rfl))
 f152:=Tryz.func158.trans (congrArg some (by kernel_rfl))
 f217:=Tryz.func179.trans (congrArg some (by kernel_rfl))
 f224:=Tryz.func207.trans (congrArg some (by kernel_rfl))
 f225:=Tryz.func208.trans (congrArg some (by kernel_rfl))
 f266:=Tryz.func222.trans (congrArg some (by kernel_rfl))
 t0:=Tryz.underlying0
 a0:=Tryz.isAgg0
 z0:=Tryz.sizeOf0
 v0:=Tryz.zeroValue0
 t3:=Tryz.underlying3
 a3:=Tryz.isAgg3
 z3:=Tryz.sizeOf3
 v3:=Tryz.zeroValue3
 t4:=Tryz.underlying4
 a4:=Tryz.isAgg4
 z4:=Tryz.sizeOf4
 v4:=Tryz.zeroValue4
 t5:=Tryz.underlying5
 a5:=Tryz.isAgg5
 z5:=Tryz.sizeOf5
 v5:=Tryz.zeroValue5
 t9:=Tryz.underlying9
 a9:=Tryz.isAgg9
 z9:=Tryz.sizeOf9
 v9:=Tryz.zeroValue9
 t21:=Tryz.underlying21
 a21:=Tryz.isAgg21
 z21:=Tryz.sizeOf21
 v21:=Tryz.zeroValue21
 t46:=Tryz.underlying245
 a46:=Tryz.isAgg245
 z46:=Tryz.sizeOf245
 v46:=Tryz.zeroValue245 }
open Go.RowKit Go.Lib in
theorem Tryz.strings_IndexRune_ascii (s:ByteArray) (r:Int) (w:World) (h0:0<=r) (h1:r<128) :
  Calls Tryz.prog 158 #[.string s,.int .i32 r] w fun e w'=>e=.returned (.int .i64 (Lib.indexByte s.data.toList r.toNat.toUInt8))/\w'=w:=Any.strings_IndexRune_ascii Tryz.lays152 s r w h0 h1
def Tryz.lays226_ren:Go.Shelf.Ren:=⟨fun|226=>159|n=>n,fun|3=>3|4=>4|n=>n,fun|n=>n⟩
theorem Tryz.lays226:Go.Proofs.Lays.n226 Tryz.prog Tryz.lays226_ren:={
 mixed:=by kernel_rfl
 f226:=Tryz.func159.trans (congrArg some (by kernel_rfl))
 t3:=Tryz.underlying3
 a3:=Tryz.isAgg3
 z3:=Tryz.sizeOf3
 v3:=Tryz.zeroValue3
 t4:=Tryz.underlying4
 a4:=Tryz.isAgg4
 z4:=Tryz.sizeOf4
 v4:=Tryz.zeroValue4 }
open Go.RowKit Go.Lib in
theorem Tryz.strings_shouldUseASCIISet (n:Int) (w:World) :
  Calls Tryz.prog 159 #[.int .i64 n] w fun e w'=>e=.returned (.bool (decide (8<n)))/\w'=w:=Any.strings_shouldUseASCIISet Tryz.lays226 n w
def Tryz.lays153_ren:Go.Shelf.Ren:=⟨fun|153=>118|152=>158|226=>159|227=>160|228=>161|137=>131|119=>206|224=>207|225=>208|217=>179|266=>222|n=>n,fun|9=>9|3=>3|4=>4|5=>5|21=>21|117=>215|116=>214|0=>0|46=>245|124=>253|n=>n,fun|n=>n⟩
theorem Tryz.lays153:Go.Proofs.Lays.n153 Tryz.prog Tryz.lays153_ren:={
 mixed:=by kernel_rfl
 f119:=Tryz.func206.trans (congrArg some (by kernel_rfl))
 f137:=Tryz.func131.trans (congrArg some (by kernel_rfl))
 f152:=Tryz.func158.trans (congrArg some (by kernel_rfl))
 f153:=Tryz.func118.trans (congrArg some (by kernel_rfl))
 f217:=Tryz.func179.trans (congrArg some (by kernel_rfl))
 f224:=Tryz.func207.trans (congrArg some (by kernel_rfl))
 f225:=Tryz.func208.trans (congrArg some (by kernel_rfl))
 f226:=Tryz.func159.trans (congrArg some (by kernel_rfl))
 f227:=Tryz.func160.trans (congrArg some (by kernel_rfl))
 f228:=Tryz.func161.trans (congrArg some (by kernel_rfl))
 f266:=Tryz.func222.trans (congrArg some (by kernel_rfl))
 t0:=Tryz.underlying0
 a0:=Tryz.isAgg0
 z0:=Tryz.sizeOf0
 v0:=Tryz.zeroValue0
 t3:=Tryz.underlying3
 a3:=Tryz.isAgg3
 z3:=Tryz.sizeOf3
 v3:=Tryz.zeroValue3
 t4:=Tryz.underlying4
 a4:=Tryz.isAgg4
 z4:=Tryz.sizeOf4
 v4:=Tryz.zeroValue4
 t5:=Tryz.underlying5
 a5:=Tryz.isAgg5
 z5:=Tryz.sizeOf5
 v5:=Tryz.zeroValue5
 t9:=Tryz.underlying9
 a9:=Tryz.isAgg9
 z9:=Tryz.sizeOf9
 v9:=Tryz.zeroValue9
 t21:=Tryz.underlying21
 a21:=Tryz.isAgg21
 z21:=Tryz.sizeOf21
 v21:=Tryz.zeroValue21
 t46:=Tryz.underlying245
 a46:=Tryz.isAgg245
 z46:=Tryz.sizeOf245
 v46:=Tryz.zeroValue245
 t116:=Tryz.underlying214
 a116:=Tryz.isAgg214
 z116:=Tryz.sizeOf214
 t117:=Tryz.underlying215
 a117:=Tryz.isAgg215
 z117:=Tryz.sizeOf215
 v117:=Tryz.zeroValue215
 t124:=Tryz.underlying253
 a124:=Tryz.isAgg253
 z124:=Tryz.sizeOf253
 v124:=Tryz.zeroValue253 }
open Go.RowKit Go.Lib in
theorem Tryz.strings_IndexAny_long (hv116:∀ w,(zeroValue 214).run Tryz.prog w=.ok (.agg (Array.replicate 256 (.bool false))) w) (s chars:ByteArray) (w:World) (h2:2<=chars.size) (h8:8<s.size) (hs:s.size<4294967281) (hcs:chars.size<4294967281) (hascii:∀ (j:Nat) b,chars.data.toList[j]? = some b->b.toNat<128) :
  Calls Tryz.prog 118 #[.string s,.string chars] w fun e w'=>e=.returned (.int .i64 (Lib.indexAny s.data.toList chars.data.toList))/\w'=((w.alloc (.cells (Lib.setCells chars.data.toList) 214)).alloc (.cells (Lib.setCells chars.data.toList) 214)):=Any.strings_IndexAny_long Tryz.lays153 hv116 (by kernel_rfl) s chars w h2 h8 hs hcs hascii
end Go.Proofs
namespace Go.Proofs.YtmcoomlkbgiboaaGreatDoor
open Go.RowKit
def zaH (xs:List Bs):List Value:=xs.map fun x=>.string (bs x)
theorem zgC (xs:List Bs):(zaH xs).length=xs.length:=by simp [zaH]
theorem zaT (xs:List Bs) (x:Bs):zaH (xs ++ [x])=zaH xs ++ [.string (bs x)]:=by simp [zaH]
theorem zhH (xs:List Bs) (j:Nat) (x:Bs) (h:xs[j]? = some x):(zaH xs)[j]? = some (.string (bs x)):=by simp [zaH,h]
def Strs (w:World) (v:Value) (xs:List Bs):Prop :=
 ∃ a c,v=.slice a xs.length c/\xs.length<=c/\(0<xs.length->∃ g o,a=some ⟨g,o,none⟩/\g<w.heap.size/\∀ j x,xs[j]? = some x->w.cell? ⟨g,o+j,none⟩=some (.string (bs x)))
theorem Strs.kept {w w':World} {v:Value} {xs:List Bs} (h:Strs w v xs) (k:Kept w w'):Strs w' v xs:=by
 obtain ⟨a,c,hv,hc,h3⟩:=h;refine ⟨a,c,hv,hc,fun q=>?_⟩;obtain ⟨g,o,ha,hg,hcell⟩:=h3 q;exact ⟨g,o,ha,Nat.lt_of_lt_of_le hg k.size,fun j x hx=>(k.cell (p:=⟨g,o+j,none⟩) hg).trans (hcell j x hx)⟩
theorem Strs.own {w:World} {base:Nat} {e:TypeId} {v:Value} {xs:List Bs} (h:w.ownsRow base e 1 v xs.length (zaH xs)):Strs w v xs:=by
 obtain ⟨a,c,hv,hc,_,h3⟩:=za1 h;refine ⟨a,c,hv,hc,fun q=>?_⟩;obtain ⟨g,ha,_,hg,hcell⟩:=h3 q;exact ⟨g,0,ha,hg,fun j x hx=>by rw[Nat.zero_add];exact hcell j _ (zhH xs j x hx)⟩
theorem Strs.none_ (w:World):Strs w (.slice none 0 0) []:=⟨none,0,rfl,Nat.le_refl _,fun q=>absurd q (by simp)⟩
theorem Tryz.infoStr:(Tryz.prog.info? 9).map (fun i=>(i.zero,i.size,i.bytes))=some (some (.string ⟨#[]⟩),1,16):=by kernel_rfl
theorem zw8:∀ (xs:List ByteArray) (ys:List Bs),xs.map (·.data.toList)=ys->xs=ys.map bs
 | [],ys,h=>by subst h;rfl
 | x :: xs,ys,h=>by
  subst h;simp only[List.map_cons];rw[<- zw8 xs _ rfl];rfl
theorem zpX (l:Bs) (c:UInt8) (w:World) (hg:Gnd w) (hl:l.length<=1000000000) :
  Calls Tryz.prog 90 #[.string (bs l),.string (bs [c])] w fun e w'=>e=.returned (.slice (some ⟨w.heap.size,0,none⟩) (za4 c l).length (za4 c l).length)/\w'=w.alloc (.cells (zaH (za4 c l)).toArray 9):=by
 obtain ⟨m,hm⟩:=hg;refine (Tryz.strings_Split (bs l) (bs [c]) m w (by simp;omega) hm (by simp)).mono ?_;rintro e w' ⟨rfl,rfl⟩;have e1:Lib.countB (bs l) (bs [c])+1=(za4 c l).length:=(by rw[zc5];congr 1;exact zuN (bs l) c);have e2:(Lib.splitB (bs [c]) 0 (Lib.countB (bs l) (bs [c])) (bs l))=(za4 c l).map bs:=zw8 _ _ (zuM (bs l) c);rw[e1,e2];refine ⟨rfl,?_⟩;rw[List.map_map];rfl
theorem zd5 (v:Value) (xs:List Bs) (sep:Bs) (w:World) (hv:Strs w v xs) (hN:xs.length<=1000000000) (hlen:(Lib.join xs sep).length<=1000000000) :
  Calls Tryz.prog 88 #[v,.string (bs sep)] w fun e w'=>e=.returned (.string (bs (Lib.join xs sep)))/\Kept w w':=by
 obtain ⟨a,c,rfl,hc,h3⟩:=hv;rcases Nat.eq_zero_or_pos xs.length with h0|h0
 ·obtain rfl:xs=[]:=List.length_eq_zero_iff.1 h0;refine (Tryz.strings_Join_none a c (bs sep) w).mono ?_;rintro e w' ⟨rfl,rfl⟩;exact ⟨rfl,Kept.refl _⟩
 ·obtain ⟨g,o,rfl,hg,hcell⟩:=h3 h0;have hm:(xs.map bs).map (·.data.toList)=xs:=by
   rw[List.map_map];exact List.map_id xs
  have h:=Tryz.strings_Join g o c (xs.map bs) (bs sep) w (fun j x hx=>by
   rw[List.getElem?_map] at hx;cases hj:xs[j]? with
   | none=>rw[hj] at hx;cases hx
   | some y=>rw[hj] at hx;cases hx;exact hcell j y hj) hg (by simp;omega) (by simpa using hc) (by rw[hm];simp;omega)
  rw[hm] at h;simp only[List.length_map] at h;exact h
abbrev Word:=Bs × Bs × Bs
def zk4 (x:Word) (i:Nat):MapEntry:={ key:=.string (bs x.1),val:=.agg #[.string (bs x.2.1),.string (bs x.2.2)],born:=i }
def zfZ (l:List Word):Array MapEntry:=(l.mapIdx fun i x=>zk4 x i).toArray
def zpQ (w:World) (l:List Word):World:=w.alloc (.map (zfZ l) l.length)
theorem zk5 (w:World) (l:List Word):(zpQ w l).heap[w.heap.size]? = some (.map (zfZ l) l.length):=by
 unfold zpQ;exact heap_alloc_new w _
theorem zr5 (l:List Word) (x:Word):zfZ (l ++ [x])=(zfZ l).push (zk4 x l.length):=by
 unfold zfZ;rw[List.mapIdx_append];simp
theorem zjP (a b:Bs):(bs a == bs b)=(a == b):=by
 show ((bs a).data == (bs b).data)=_;rw[Bool.eq_iff_iff,beq_iff_eq,beq_iff_eq];exact ⟨fun h=>by have:=congrArg Array.toList h;exact this,fun h=>by rw[h]⟩
theorem zjQ (k:Bs):∀ (l:List Word) (i j:Nat),(∀ x∈l,x.1≠k)->Instr.findNow .string (.string (bs k)) (l.mapIdx fun i' x=>zk4 x (i'+i)) j=some none
 | [],_,_,_=>rfl
 | x :: l,i,j,h=>by
  have hx:(bs k == bs x.1)=false:=(by rw[zjP,beq_eq_false_iff_ne];exact fun e=>h x (by simp) e.symm);rw[List.mapIdx_cons];unfold Instr.findNow;simp only[zk4,Instr.sameNow,hx];have:=zjQ k l (i+1) (j+1) (fun y hy=>h y (by simp [hy]));simp only[zk4] at this;rw[<- this];congr 1;apply List.ext_getElem?;intro m;simp [List.getElem?_mapIdx];cases l[m]? <;> simp;omega
theorem zjR (k a b:Bs):∀ (l:List Word) (i j:Nat),l.find? (fun x=>x.1 == k)=some (k,a,b)->∃ m,Instr.findNow .string (.string (bs k)) (l.mapIdx fun i' x=>zk4 x (i'+i)) j=some (some (m,.agg #[.string (bs a),.string (bs b)]))
 | [],_,_,h=>by cases h
 | x :: l,i,j,h=>by
  rw[List.mapIdx_cons];unfold Instr.findNow;by_cases q:x.1=k
  ·have hx:(bs k == bs x.1)=true:=(by rw[zjP,beq_iff_eq];exact q.symm);rw[List.find?_cons_of_pos (by simpa using q)] at h;cases h;simp only[zk4,Instr.sameNow,hx];exact ⟨_,rfl⟩
  ·have hx:(bs k == bs x.1)=false:=(by rw[zjP,beq_eq_false_iff_ne];exact fun e=>q e.symm);rw[List.find?_cons_of_neg (by simpa using q)] at h;simp only[zk4,Instr.sameNow,hx];obtain ⟨m,hm⟩:=zjR k a b l (i+1) (j+1) h;refine ⟨m,?_⟩;simp only[zk4] at hm;rw[<- hm];congr 1;apply List.ext_getElem?;intro m;simp [List.getElem?_mapIdx];cases l[m]? <;> simp;omega
theorem zk6 (l:List Word):(zfZ l).toList=l.mapIdx fun i' x=>zk4 x (i'+0):=by simp [zfZ]
theorem zkI (w:World):(Instr.makeMap 256 none).run Tryz.prog w=.ok (.map (some w.heap.size)) (zpQ w []):=by
 rw[run_makeMap];rfl
theorem zeX (e:Bool) (s:ByteArray) (w:World):(Instr.checkKey e 10000 9 (.string s)).run Tryz.prog w=.ok () w:=by
 show (Instr.checkKey e (9999+1) 9 (.string s)).run Tryz.prog w=.ok () w;rw[Instr.checkKey];simp only[Sem.run_bind,run_underlying Tryz.underlying9,Result.andThen];simp [Sem.run_pure]
theorem zhY (w:World) (l:List Word) (k:Bs) (hk:∀ x∈l,x.1≠k):(Instr.findKey 9 (.string (bs k)) (zfZ l).toList).run Tryz.prog w=.ok none w:=by
 unfold Instr.findKey;simp only[Sem.run_bind,run_underlying Tryz.underlying9,Result.andThen,zk6,zjQ k l 0 0 hk];simp [Sem.run_pure]
theorem zn9 (w:World) (l:List Word) (k a b:Bs) (hk:l.find? (fun x=>x.1 == k)=some (k,a,b)):∃ m,(Instr.findKey 9 (.string (bs k)) (zfZ l).toList).run Tryz.prog w=.ok (some (m,.agg #[.string (bs a),.string (bs b)])) w:=by
 obtain ⟨m,hm⟩:=zjR k a b l 0 0 hk;refine ⟨m,?_⟩;unfold Instr.findKey;simp only[Sem.run_bind,run_underlying Tryz.underlying9,Result.andThen,zk6,hm];simp [Sem.run_pure]
theorem zAS (w:World) (l:List Word) (x:Word):{ zpQ w l with heap:=(zpQ w l).heap.setIfInBounds w.heap.size (.map ((zfZ l).push (zk4 x l.length)) (l.length+1)) }=zpQ w (l ++ [x]):=by
 unfold zpQ;rw[zr5];simp only[World.alloc,List.length_append,List.length_cons,List.length_nil];congr 1;apply Array.ext';simp [Array.setIfInBounds,Array.toList_push]
theorem zDa (w:World) (l:List Word) (k a b:Bs) (hk:∀ x∈l,x.1≠k) :
  (Instr.mapUpdate 256 (.map (some w.heap.size)) (.string (bs k)) (.agg #[.string (bs a),.string (bs b)])).run Tryz.prog (zpQ w l)=.ok () (zpQ w (l ++ [(k,a,b)])):=by
 have hu:Tryz.prog.underlying 256=some (.map 9 254):=Tryz.underlying256;unfold Instr.mapUpdate;simp only[Sem.run_bind,run_underlying hu,Result.andThen];simp only[getObj,Sem.run_bind,Sem.run,zk5,Result.andThen,Sem.run_pure,zeX,zhY _ l k hk,setObj];exact congrArg (Result.ok ()) (zAS w l (k,a,b))
theorem ztJ (w:World) (r:Nat) (l:List Word) (k a b:Bs) (hm:w.heap[r]? = some (.map (zfZ l) l.length)) (hk:l.find? (fun x=>x.1 == k)=some (k,a,b)) :
  (Instr.lookup 256 (.map (some r)) (.string (bs k)) true).run Tryz.prog w=.ok (.tuple #[.agg #[.string (bs a),.string (bs b)],.bool true]) w:=by
 have hu:Tryz.prog.underlying 256=some (.map 9 254):=Tryz.underlying256;obtain ⟨m,hf⟩:=zn9 w l k a b hk;unfold Instr.lookup;simp only[Sem.run_bind,run_underlying hu,Result.andThen];simp only[getObj,Sem.run_bind,Sem.run,hm,Result.andThen,Sem.run_pure,zeX,hf];simp [Sem.run_pure]
def zbT:List Word:=[([115,101,99,116,105,111,110],[83,101,99,116,105,111,110],[83,101,99,116,105,111,110,115]),([102,105,103,117,114,101],[70,105,103,117,114,101],[70,105,103,117,114,101,115]),([116,97,98,108,101],[84,97,98,108,101],[84,97,98,108,101,115]),([101,113,117,97,116,105,111,110],[69,113,117,97,116,105,111,110],[69,113,117,97,116,105,111,110,115]),([112,97,103,101],[80,97,103,101],[80,97,103,101,115]),([97,110,100],[97,110,100],[97,110,100]),([111,116,104,101,114,115],[111,116,104,101,114,115],[111,116,104,101,114,115]),([101,100,105,116,101,100],[101,100,105,116,101,100,32,98,121],[101,100,105,116,101,100,32,98,121]),([99,111,110,116,101,110,116,115],[67,111,110,116,101,110,116,115],[67,111,110,116,101,110,116,115]),([105,110,100,101,120],[73,110,100,101,120],[73,110,100,101,120,101,115]),([114,101,102,101,114,101,110,99,101,115],[82,101,102,101,114,101,110,99,101,115],[82,101,102,101,114,101,110,99,101,115]),([103,108,111,115,115,97,114,121],[71,108,111,115,115,97,114,121],[71,108,111,115,115,97,114,105,101,115]),([110,111,116,101],[78,111,116,101],[78,111,116,101,115]),([99,104,97,112,116,101,114],[67,104,97,112,116,101,114],[67,104,97,112,116,101,114,115])]
def zbU:List Word:=[([115,101,99,116,105,111,110],[65,98,115,99,104,110,105,116,116],[65,98,115,99,104,110,105,116,116,101]),([102,105,103,117,114,101],[65,98,98,105,108,100,117,110,103],[65,98,98,105,108,100,117,110,103,101,110]),([116,97,98,108,101],[84,97,98,101,108,108,101],[84,97,98,101,108,108,101,110]),([101,113,117,97,116,105,111,110],[71,108,101,105,99,104,117,110,103],[71,108,101,105,99,104,117,110,103,101,110]),([112,97,103,101],[83,101,105,116,101],[83,101,105,116,101,110]),([97,110,100],[117,110,100],[117,110,100]),([111,116,104,101,114,115],[97,110,100,101,114,101],[97,110,100,101,114,101]),([101,100,105,116,101,100],[104,101,114,97,117,115,103,101,103,101,98,101,110,32,118,111,110],[104,101,114,97,117,115,103,101,103,101,98,101,110,32,118,111,110]),([99,111,110,116,101,110,116,115],[73,110,104,97,108,116],[73,110,104,97,108,116]),([105,110,100,101,120],[82,101,103,105,115,116,101,114],[82,101,103,105,115,116,101,114]),([114,101,102,101,114,101,110,99,101,115],[76,105,116,101,114,97,116,117,114],[76,105,116,101,114,97,116,117,114]),([103,108,111,115,115,97,114,121],[71,108,111,115,115,97,114],[71,108,111,115,115,97,114,101]),([110,111,116,101],[65,110,109,101,114,107,117,110,103],[65,110,109,101,114,107,117,110,103,101,110]),([99,104,97,112,116,101,114],[75,97,112,105,116,101,108],[75,97,112,105,116,101,108])]
def zbO:List Word:=[([115,101,99,116,105,111,110],[83,101,99,116,105,111,110],[83,101,99,116,105,111,110,115]),([102,105,103,117,114,101],[70,105,103,117,114,101],[70,105,103,117,114,101,115]),([116,97,98,108,101],[84,97,98,108,101,97,117],[84,97,98,108,101,97,117,120]),([101,113,117,97,116,105,111,110],[195,137,113,117,97,116,105,111,110],[195,137,113,117,97,116,105,111,110,115]),([112,97,103,101],[80,97,103,101],[80,97,103,101,115]),([97,110,100],[101,116],[101,116]),([111,116,104,101,114,115],[97,117,116,114,101,115],[97,117,116,114,101,115]),([101,100,105,116,101,100],[195,169,100,105,116,195,169,32,112,97,114],[195,169,100,105,116,195,169,32,112,97,114]),([99,111,110,116,101,110,116,115],[84,97,98,108,101,32,100,101,115,32,109,97,116,105,195,168,114,101,115],[84,97,98,108,101,32,100,101,115,32,109,97,116,105,195,168,114,101,115]),([105,110,100,101,120],[73,110,100,101,120],[73,110,100,101,120]),([114,101,102,101,114,101,110,99,101,115],[82,195,169,102,195,169,114,101,110,99,101,115],[82,195,169,102,195,169,114,101,110,99,101,115]),([103,108,111,115,115,97,114,121],[71,108,111,115,115,97,105,114,101],[71,108,111,115,115,97,105,114,101,115]),([110,111,116,101],[78,111,116,101],[78,111,116,101,115]),([99,104,97,112,116,101,114],[67,104,97,112,105,116,114,101],[67,104,97,112,105,116,114,101,115])]
def zbP:List Word:=[([115,101,99,116,105,111,110],[83,101,99,99,105,195,179,110],[83,101,99,99,105,111,110,101,115]),([102,105,103,117,114,101],[70,105,103,117,114,97],[70,105,103,117,114,97,115]),([116,97,98,108,101],[84,97,98,108,97],[84,97,98,108,97,115]),([101,113,117,97,116,105,111,110],[69,99,117,97,99,105,195,179,110],[69,99,117,97,99,105,111,110,101,115]),([112,97,103,101],[80,195,161,103,105,110,97],[80,195,161,103,105,110,97,115]),([97,110,100],[121],[121]),([111,116,104,101,114,115],[111,116,114,111,115],[111,116,114,111,115]),([101,100,105,116,101,100],[101,100,105,116,97,100,111,32,112,111,114],[101,100,105,116,97,100,111,32,112,111,114]),([99,111,110,116,101,110,116,115],[67,111,110,116,101,110,105,100,111],[67,111,110,116,101,110,105,100,111]),([105,110,100,101,120],[195,141,110,100,105,99,101],[195,141,110,100,105,99,101,115]),([114,101,102,101,114,101,110,99,101,115],[82,101,102,101,114,101,110,99,105,97,115],[82,101,102,101,114,101,110,99,105,97,115]),([103,108,111,115,115,97,114,121],[71,108,111,115,97,114,105,111],[71,108,111,115,97,114,105,111,115]),([110,111,116,101],[78,111,116,97],[78,111,116,97,115]),([99,104,97,112,116,101,114],[67,97,112,195,173,116,117,108,111],[67,97,112,195,173,116,117,108,111,115])]
theorem zaJ (w:World) (L:List Word) (i:Nat) (x:Word) (h:L[i]? = some x) (hd:∀ y∈L.take i,y.1≠x.1) :
  (Instr.mapUpdate 256 (.map (some w.heap.size)) (.string (bs x.1)) (.agg #[.string (bs x.2.1),.string (bs x.2.2)])).run Tryz.prog (zpQ w (L.take i))=.ok () (zpQ w (L.take (i+1))):=by
 have e:L.take (i+1)=L.take i ++ [x]:=(by rw[List.take_succ,h];rfl);rw[e];exact zDa w _ x.1 x.2.1 x.2.2 hd
theorem zjS (w:World):Calls Tryz.prog 209 #[.string (bs [101,110])] w fun e w'=>e=.returned (.map (some w.heap.size))/\w'=zpQ w zbT:=by
 have mk:=zkI w;have n0:=zaJ w zbT 0 _ rfl (by decide);have n1:=zaJ w zbT 1 _ rfl (by decide);have n2:=zaJ w zbT 2 _ rfl (by decide);have n3:=zaJ w zbT 3 _ rfl (by decide);have n4:=zaJ w zbT 4 _ rfl (by decide);have n5:=zaJ w zbT 5 _ rfl (by decide);have n6:=zaJ w zbT 6 _ rfl (by decide);have n7:=zaJ w zbT 7 _ rfl (by decide);have n8:=zaJ w zbT 8 _ rfl (by decide);have n9:=zaJ w zbT 9 _ rfl (by decide);have n10:=zaJ w zbT 10 _ rfl (by decide);have n11:=zaJ w zbT 11 _ rfl (by decide);have n12:=zaJ w zbT 12 _ rfl (by decide);have n13:=zaJ w zbT 13 _ rfl (by decide);simp only[zbT,List.take_zero,List.take_succ_cons] at n0 n1 n2 n3 n4 n5 n6 n7 n8 n9 n10 n11 n12 n13;go_enter Tryz.func209,Tryz.ntmps209;go_wp2_with fail;go_ret;exact ⟨rfl,rfl⟩
theorem zjT (w:World):Calls Tryz.prog 209 #[.string (bs [100,101])] w fun e w'=>e=.returned (.map (some w.heap.size))/\w'=zpQ w zbU:=by
 have mk:=zkI w;have n0:=zaJ w zbU 0 _ rfl (by decide);have n1:=zaJ w zbU 1 _ rfl (by decide);have n2:=zaJ w zbU 2 _ rfl (by decide);have n3:=zaJ w zbU 3 _ rfl (by decide);have n4:=zaJ w zbU 4 _ rfl (by decide);have n5:=zaJ w zbU 5 _ rfl (by decide);have n6:=zaJ w zbU 6 _ rfl (by decide);have n7:=zaJ w zbU 7 _ rfl (by decide);have n8:=zaJ w zbU 8 _ rfl (by decide);have n9:=zaJ w zbU 9 _ rfl (by decide);have n10:=zaJ w zbU 10 _ rfl (by decide);have n11:=zaJ w zbU 11 _ rfl (by decide);have n12:=zaJ w zbU 12 _ rfl (by decide);have n13:=zaJ w zbU 13 _ rfl (by decide);simp only[zbU,List.take_zero,List.take_succ_cons] at n0 n1 n2 n3 n4 n5 n6 n7 n8 n9 n10 n11 n12 n13;go_enter Tryz.func209,Tryz.ntmps209;go_wp2_with fail;go_ret;exact ⟨rfl,rfl⟩
theorem zuP (w:World):Calls Tryz.prog 248 #[.string (bs [102,114])] w fun e w'=>e=.returned (.map (some w.heap.size))/\w'=zpQ w zbO:=by
 have mk:=zkI w;have n0:=zaJ w zbO 0 _ rfl (by decide);have n1:=zaJ w zbO 1 _ rfl (by decide);have n2:=zaJ w zbO 2 _ rfl (by decide);have n3:=zaJ w zbO 3 _ rfl (by decide);have n4:=zaJ w zbO 4 _ rfl (by decide);have n5:=zaJ w zbO 5 _ rfl (by decide);have n6:=zaJ w zbO 6 _ rfl (by decide);have n7:=zaJ w zbO 7 _ rfl (by decide);have n8:=zaJ w zbO 8 _ rfl (by decide);have n9:=zaJ w zbO 9 _ rfl (by decide);have n10:=zaJ w zbO 10 _ rfl (by decide);have n11:=zaJ w zbO 11 _ rfl (by decide);have n12:=zaJ w zbO 12 _ rfl (by decide);have n13:=zaJ w zbO 13 _ rfl (by decide);simp only[zbO,List.take_zero,List.take_succ_cons] at n0 n1 n2 n3 n4 n5 n6 n7 n8 n9 n10 n11 n12 n13;go_enter Tryz.func248,Tryz.ntmps248;go_wp2_with fail;go_ret;exact ⟨rfl,rfl⟩
theorem zuQ (w:World):Calls Tryz.prog 248 #[.string (bs [101,115])] w fun e w'=>e=.returned (.map (some w.heap.size))/\w'=zpQ w zbP:=by
 have mk:=zkI w;have n0:=zaJ w zbP 0 _ rfl (by decide);have n1:=zaJ w zbP 1 _ rfl (by decide);have n2:=zaJ w zbP 2 _ rfl (by decide);have n3:=zaJ w zbP 3 _ rfl (by decide);have n4:=zaJ w zbP 4 _ rfl (by decide);have n5:=zaJ w zbP 5 _ rfl (by decide);have n6:=zaJ w zbP 6 _ rfl (by decide);have n7:=zaJ w zbP 7 _ rfl (by decide);have n8:=zaJ w zbP 8 _ rfl (by decide);have n9:=zaJ w zbP 9 _ rfl (by decide);have n10:=zaJ w zbP 10 _ rfl (by decide);have n11:=zaJ w zbP 11 _ rfl (by decide);have n12:=zaJ w zbP 12 _ rfl (by decide);have n13:=zaJ w zbP 13 _ rfl (by decide);simp only[zbP,List.take_zero,List.take_succ_cons] at n0 n1 n2 n3 n4 n5 n6 n7 n8 n9 n10 n11 n12 n13;go_enter Tryz.func248,Tryz.ntmps248;go_wp2_with fail;go_ret;exact ⟨rfl,rfl⟩
theorem zjU (w:World):Calls Tryz.prog 209 #[.string (bs [102,114])] w fun e w'=>e=.returned (.map (some w.heap.size))/\w'=zpQ w zbO:=by
 go_enter Tryz.func209,Tryz.ntmps209;go_wp2_with fail;refine (zuP _).mono ?_;rintro e w1 ⟨rfl,hw⟩;have HW:=Hd hw;clear hw;go_wp2_with fail;go_ret;exact ⟨rfl,HW.out⟩
theorem zjV (w:World):Calls Tryz.prog 209 #[.string (bs [101,115])] w fun e w'=>e=.returned (.map (some w.heap.size))/\w'=zpQ w zbP:=by
 go_enter Tryz.func209,Tryz.ntmps209;go_wp2_with fail;refine (zuQ _).mono ?_;rintro e w1 ⟨rfl,hw⟩;have HW:=Hd hw;clear hw;go_wp2_with fail;go_ret;exact ⟨rfl,HW.out⟩
theorem zuR (l:Bs) (w:World) (h3:(l == [102,114])=false) (h4:(l == [101,115])=false):Calls Tryz.prog 248 #[.string (bs l)] w fun e w'=>e=.returned (.map none)/\w=w':=by
 go_enter Tryz.func248,Tryz.ntmps248;go_wp2_with fail;go_ret;exact ⟨rfl,rfl⟩
theorem zAT (l:Bs) (w:World) (h1:(l == [101,110])=false) (h2:(l == [100,101])=false) (h3:(l == [102,114])=false) (h4:(l == [101,115])=false):Calls Tryz.prog 209 #[.string (bs l)] w fun e w'=>e=.returned (.map none)/\w=w':=by
 go_enter Tryz.func209,Tryz.ntmps209;go_wp2_with fail;refine (zuR l _ h3 h4).mono ?_;rintro e w1 ⟨rfl,rfl⟩;go_wp2_with fail;go_ret;exact ⟨rfl,rfl⟩
def lEn:Bs:=[101,110]
def lDe:Bs:=[100,101]
def lFr:Bs:=[102,114]
def lEs:Bs:=[101,115]
theorem zeM (lang k v:Bs) (L:List Word) (n:Int) (w:World) (hl:∀ w,Calls Tryz.prog 209 #[.string (bs lang)] w fun e w'=>e=.returned (.map (some w.heap.size))/\w'=zpQ w L) (hk:L.find? (fun x=>x.1 == k)=some (k,v,v)):Calls Tryz.prog 162 #[.string (bs lang),.string (bs k),.int .i64 n] w fun e w'=>e=.returned (.tuple #[.string (bs v),.bool true])/\Kept w w':=by
 have HL:=Hd hl;have HF:=Hd hk;clear hl hk;by_cases hn:n=1
 ·subst hn;go_enter Tryz.func162,Tryz.ntmps162;go_wp2_with fail;refine (HL.out _).mono ?_;rintro e w1 ⟨rfl,hw⟩;have lk:=ztJ w1 w.heap.size L k v v (by rw[hw];exact zk5 _ _) HF.out;have HK:Hid (Kept w w1):=(by show Kept _ _;rw[hw];exact zaA _ _);clear hw;go_wp2_with fail;go_ret2;exact ⟨rfl,HK.out.trans (zaA _ _)⟩
 ·have hn':(n == 1)=false:=(by simpa using hn);clear hn;go_enter Tryz.func162,Tryz.ntmps162;go_wp2_with fail;refine (HL.out _).mono ?_;rintro e w1 ⟨rfl,hw⟩;have lk:=ztJ w1 w.heap.size L k v v (by rw[hw];exact zk5 _ _) HF.out;have HK:Hid (Kept w w1):=(by show Kept _ _;rw[hw];exact zaA _ _);clear hw;go_wp2_with fail;go_ret2;exact ⟨rfl,HK.out.trans (zaA _ _)⟩
theorem zr6 (n:Int) (w:World):Calls Tryz.prog 162 #[.string (bs [101,110]),.string (bs [97,110,100]),.int .i64 n] w fun e w'=>e=.returned (.tuple #[.string (bs [97,110,100]),.bool true])/\Kept w w' :=
 zeM _ _ _ zbT n w zjS (by decide)
theorem zmO (n:Int) (w:World):Calls Tryz.prog 162 #[.string (bs [101,110]),.string (bs [111,116,104,101,114,115]),.int .i64 n] w fun e w'=>e=.returned (.tuple #[.string (bs [111,116,104,101,114,115]),.bool true])/\Kept w w' :=
 zeM _ _ _ zbT n w zjS (by decide)
theorem zr7 (n:Int) (w:World):Calls Tryz.prog 162 #[.string (bs [100,101]),.string (bs [97,110,100]),.int .i64 n] w fun e w'=>e=.returned (.tuple #[.string (bs [117,110,100]),.bool true])/\Kept w w' :=
 zeM _ _ _ zbU n w zjT (by decide)
theorem zmP (n:Int) (w:World):Calls Tryz.prog 162 #[.string (bs [100,101]),.string (bs [111,116,104,101,114,115]),.int .i64 n] w fun e w'=>e=.returned (.tuple #[.string (bs [97,110,100,101,114,101]),.bool true])/\Kept w w' :=
 zeM _ _ _ zbU n w zjT (by decide)
theorem zr8 (n:Int) (w:World):Calls Tryz.prog 162 #[.string (bs [102,114]),.string (bs [97,110,100]),.int .i64 n] w fun e w'=>e=.returned (.tuple #[.string (bs [101,116]),.bool true])/\Kept w w' :=
 zeM _ _ _ zbO n w zjU (by decide)
theorem zmQ (n:Int) (w:World):Calls Tryz.prog 162 #[.string (bs [102,114]),.string (bs [111,116,104,101,114,115]),.int .i64 n] w fun e w'=>e=.returned (.tuple #[.string (bs [97,117,116,114,101,115]),.bool true])/\Kept w w' :=
 zeM _ _ _ zbO n w zjU (by decide)
theorem zr9 (n:Int) (w:World):Calls Tryz.prog 162 #[.string (bs [101,115]),.string (bs [97,110,100]),.int .i64 n] w fun e w'=>e=.returned (.tuple #[.string (bs [121]),.bool true])/\Kept w w' :=
 zeM _ _ _ zbP n w zjV (by decide)
theorem zmR (n:Int) (w:World):Calls Tryz.prog 162 #[.string (bs [101,115]),.string (bs [111,116,104,101,114,115]),.int .i64 n] w fun e w'=>e=.returned (.tuple #[.string (bs [111,116,114,111,115]),.bool true])/\Kept w w' :=
 zeM _ _ _ zbP n w zjV (by decide)
theorem zw9 (w:World):(zeroValue 254).run Tryz.prog w=.ok (.agg #[.string (bs []),.string (bs [])]) w:=by kernel_rfl
theorem zpY (k:Bs) (w:World):(Instr.lookup 256 (.map none) (.string (bs k)) true).run Tryz.prog w=.ok (.tuple #[.agg #[.string (bs []),.string (bs [])],.bool false]) w:=by
 have hu:Tryz.prog.underlying 256=some (.map 9 254):=Tryz.underlying256;have hf:=zhY w [] k (by simp);have e:(zfZ []).toList=([]:List MapEntry):=rfl;rw[e] at hf;unfold Instr.lookup;simp only[Sem.run_bind,run_underlying hu,Result.andThen];simp only[Sem.run_pure,Result.andThen,zeX,hf,zw9,Sem.run_bind];simp [Sem.run_pure]
theorem zxA (l k:Bs) (n:Int) (w:World) (h1:(l == [101,110])=false) (h2:(l == [100,101])=false) (h3:(l == [102,114])=false) (h4:(l == [101,115])=false):Calls Tryz.prog 162 #[.string (bs l),.string (bs k),.int .i64 n] w fun e w'=>e=.returned (.tuple #[.string (bs []),.bool false])/\Kept w w':=by
 have lk:=zpY k;have HW:=Hd (fun w=>zAT l w h1 h2 h3 h4);clear h1 h2 h3 h4;go_enter Tryz.func162,Tryz.ntmps162;go_wp2_with fail;refine (HW.out _).mono ?_;rintro e w1 ⟨rfl,rfl⟩;go_wp2_with fail;go_ret2;exact ⟨rfl,zaA _ _⟩
end Go.Proofs.YtmcoomlkbgiboaaGreatDoor
