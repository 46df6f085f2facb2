/- Lemmas and walks on which the claims of this seat lean (names and blanks made short by a program): OShelf ONums ODoorO ORead. -/
import Derived.Test.YtbliehinagkldaaGreatDoorG02
import Derived.Test.YtbliehinagkldaaGreatDoorG03
import Derived.Test.YtbliehinagkldaaGreatDoorG04
import Derived.Test.YtbliehinagkldaaGreatDoorG05
import Derived.Test.YtbliehinagkldaaGreatDoorG07
import Derived.Shelf.Strings.Builder1
import Derived.Shelf.Strings.Builder2
import Derived.Shelf.Strings.OnBuilder
import Derived.Shelf.Strings.BuilderF
import Derived.Shelf.Strings.BuilderK
import Derived.Shelf.Strings.Builder2Cap
import Derived.Shelf.Strconv.Atoi
import Derived.Shelf.Strconv.Itoa0
import Derived.Shelf.Strconv.Itoa1
import Derived.Shelf.LaysM
import Derived.Shelf.Strconv.Itoa2
import Derived.Shelf.Strconv.Itoa3
import Derived.Shelf.Strconv.AtoiErrFast
import Derived.Shelf.Strconv.ParseIntEmpty
import Derived.Shelf.Strconv.AtoiFail
import Derived.Shelf.Strconv.Clone
import Derived.Shelf.Strconv.SyntaxError
import Derived.Shelf.LaysC
import Derived.Shelf.Strconv.ToError
import Derived.Shelf.Strconv.Lower
import Derived.Shelf.Strconv.ParseUint10
import Derived.Shelf.Strconv.ParseUint10Empty
import Derived.Shelf.Strconv.ParseUint10Any
import Derived.Shelf.Strconv.ParseInt10
import Derived.Shelf.Strconv.AtoiLong
import Derived.Shelf.Strconv.AtoiInnerAll
import Derived.Shelf.Strconv.RangeError
import Derived.Shelf.Strconv.ToErrorRange
import Derived.Shelf.Strconv.AtoiAll
import Derived.Shelf.Strconv.ErrVarAll
import Derived.Shelf.Strings.Search1
import Derived.Shelf.Strings.Search2
import Derived.Shelf.Strings.Search3
import Derived.Shelf.Strings.Count
import Derived.Shelf.Strings.Shaped
import Derived.Shelf.Strings.Prefix
import Derived.Shelf.Strings.Split
import Derived.Shelf.Strings.SplitShaped
import Derived.Shelf.Unicode.DecodeSlow
import Derived.Ground.Names2Prog
import Derived.Shelf.Slices.Clone
import Derived.Test.YtbliehinagkldaaGreatDoorProg
import Derived.Test.YtbliehinagkldaaGreatDoorRows
import Derived.ProofKit
import Derived.LaidMore
import Derived.LaidSub
import Derived.OpenShut
import Derived.Stop.Joined
import Derived.Lib.LaidTab
import Derived.Shelf.Vars

set_option linter.all false
set_option maxRecDepth 100000
set_option maxHeartbeats 16000000
open Go.Lib renaming hid → fe6
open List renaming length_take → fg6, take_of_length_le → fg7
open Nat renaming zero_le → fh3
namespace Go.Proofs.YtbliehinagkldaaGreatDoor
end Go.Proofs.YtbliehinagkldaaGreatDoor
namespace Go.Proofs
open Go.Shelf
def Tryz.bF6:Go.Shelf.Ren:=⟨fun|156=>148|165=>196|166=>197|169=>198|240=>219|241=>220|276=>241|277=>242|n=>n,fun|31=>33|9=>9|3=>3|4=>4|0=>0|20=>20|72=>260|76=>249|70=>257|37=>258|75=>248|127=>277|164=>291|5=>5|80=>246|n=>n,fun|n=>n⟩
theorem Tryz.cH4:Go.Proofs.Lays.n156 Tryz.prog Tryz.bF6:={
 mixed:=by kernel_rfl
 f156:=Tryz.func148.trans (congrArg some (by kernel_rfl))
 f165:=Tryz.func196.trans (congrArg some (by kernel_rfl))
 f166:=Tryz.func197.trans (congrArg some (by kernel_rfl))
 f169:=Tryz.func198.trans (congrArg some (by kernel_rfl))
 f240:=Tryz.func219.trans (congrArg some (by kernel_rfl))
 f241:=Tryz.func220.trans (congrArg some (by kernel_rfl))
 f276:=Tryz.func241.trans (congrArg some (by kernel_rfl))
 f277:=Tryz.func242.trans (congrArg some (by kernel_rfl))
 t0:=Tryz.underlying0
 a0:=Tryz.isAgg0
 z0:=Tryz.sizeOf0
 v0:=Tryz.zeroValue0
 t3:=Tryz.underlying3
 a3:=Tryz.isAgg3
 z3:=Tryz.sizeOf3
 v3:=Tryz.zeroValue3
 t4:=Tryz.underlying4
 a4:=Tryz.isAgg4
 z4:=Tryz.sizeOf4
 v4:=Tryz.zeroValue4
 t9:=Tryz.underlying9
 a9:=Tryz.isAgg9
 z9:=Tryz.sizeOf9
 v9:=Tryz.zeroValue9
 t20:=Tryz.underlying20
 a20:=Tryz.isAgg20
 z20:=Tryz.sizeOf20
 v20:=Tryz.zeroValue20
 t31:=Tryz.underlying33
 a31:=Tryz.isAgg33
 z31:=Tryz.sizeOf33
 v31:=Tryz.zeroValue33
 t37:=Tryz.underlying258
 a37:=Tryz.isAgg258
 z37:=Tryz.sizeOf258
 v37:=Tryz.zeroValue258
 t70:=Tryz.underlying257
 a70:=Tryz.isAgg257
 z70:=Tryz.sizeOf257
 v70:=Tryz.zeroValue257
 t72:=Tryz.underlying260
 a72:=Tryz.isAgg260
 z72:=Tryz.sizeOf260
 v72:=Tryz.zeroValue260
 t75:=Tryz.underlying248
 a75:=Tryz.isAgg248
 z75:=Tryz.sizeOf248
 v75:=Tryz.zeroValue248
 t76:=Tryz.underlying249
 a76:=Tryz.isAgg249
 z76:=Tryz.sizeOf249
 v76:=Tryz.zeroValue249
 t127:=Tryz.underlying277
 a127:=Tryz.isAgg277
 z127:=Tryz.sizeOf277
 v127:=Tryz.zeroValue277
 t164:=Tryz.underlying291
 a164:=Tryz.isAgg291
 z164:=Tryz.sizeOf291
 v164:=Tryz.zeroValue291}
theorem Tryz.aR8:Builder.Extra Tryz.prog Tryz.bF6:={
 sizeBuilder:=by kernel_rfl
 liesBuilder:=by kernel_rfl
 t5:=Tryz.underlying5
 a5:=Tryz.isAgg5
 z5:=Tryz.sizeOf5
 v5:=Tryz.zeroValue5
 infoByte:=by kernel_rfl
 cellsByte:=by kernel_rfl
 sizeByte:=by kernel_rfl
 neB5:=by decide}
open Go.RowKit in
theorem Tryz.strings_Join_none (a:Option Addr) (c:Nat) (sep:ByteArray) (w:World):
 Calls Tryz.prog 148 #[.slice a 0 c,.string sep] w fun e w'=>e= .returned (.string ⟨#[]⟩)∧w'=w:=Any.strings_Join_none Tryz.cH4 Tryz.aR8 a c sep w
open Go.RowKit in
theorem Tryz.strings_Join (bk o c:Nat) (xs:List ByteArray) (sep:ByteArray) (w:World) (hcells:∀(j:Nat) x,xs[j]? =some x→w.cell? ⟨bk,o+j,none⟩=some (.string x)) (hbk:bk<w.heap.size) (hN:xs.length≤140737488355328) (hcap:xs.length≤c) (hlen:(Lib.join (xs.map (·.data.toList)) sep.data.toList).length≤140737488355328):
 Calls Tryz.prog 148 #[.slice (some ⟨bk,o,none⟩) xs.length c,.string sep] w fun e w'=>e= .returned (.string ⟨(Lib.join (xs.map (·.data.toList)) sep.data.toList).toArray⟩)∧Below w.heap.size w w':=Any.strings_Join Tryz.cH4 Tryz.aR8 bk o c xs sep w hcells hbk hN hcap hlen
def Tryz.ct3:Go.Shelf.Ren:=⟨fun|171=>149|243=>199|246=>221|283=>243|284=>244|285=>245|286=>246|129=>254|317=>253|318=>255|319=>256|320=>257|337=>260|338=>261|n=>n,fun|3=>3|9=>9|2=>2|4=>4|171=>294|0=>0|53=>216|37=>258|5=>5|173=>296|212=>312|51=>214|20=>20|213=>313|46=>103|232=>318|233=>319|n=>n,fun|17=>5|18=>6|19=>7|n=>n⟩
theorem Tryz.du4:Go.Proofs.LaysM.n171 Tryz.prog Tryz.ct3:={
 mixed:=by kernel_rfl
 f129:=Tryz.func254.trans (congrArg some (by kernel_rfl))
 f171:=Tryz.func149.trans (congrArg some (by kernel_rfl))
 f243:=Tryz.func199.trans (congrArg some (by kernel_rfl))
 f246:=Tryz.func221.trans (congrArg some (by kernel_rfl))
 f283:=Tryz.func243.trans (congrArg some (by kernel_rfl))
 f284:=Tryz.func244.trans (congrArg some (by kernel_rfl))
 f285:=Tryz.func245.trans (congrArg some (by kernel_rfl))
 f286:=Tryz.func246.trans (congrArg some (by kernel_rfl))
 f317:=Tryz.func253.trans (congrArg some (by kernel_rfl))
 f318:=Tryz.func255.trans (congrArg some (by kernel_rfl))
 f319:=Tryz.func256.trans (congrArg some (by kernel_rfl))
 f320:=Tryz.func257.trans (congrArg some (by kernel_rfl))
 f337:=Tryz.func260.trans (congrArg some (by kernel_rfl))
 f338:=Tryz.func261.trans (congrArg some (by kernel_rfl))
 t0:=Tryz.underlying0
 a0:=Tryz.isAgg0
 z0:=Tryz.sizeOf0
 v0:=Tryz.zeroValue0
 t2:=Tryz.underlying2
 a2:=Tryz.isAgg2
 z2:=Tryz.sizeOf2
 v2:=Tryz.zeroValue2
 t3:=Tryz.underlying3
 a3:=Tryz.isAgg3
 z3:=Tryz.sizeOf3
 v3:=Tryz.zeroValue3
 t4:=Tryz.underlying4
 a4:=Tryz.isAgg4
 z4:=Tryz.sizeOf4
 v4:=Tryz.zeroValue4
 t5:=Tryz.underlying5
 a5:=Tryz.isAgg5
 z5:=Tryz.sizeOf5
 v5:=Tryz.zeroValue5
 t9:=Tryz.underlying9
 a9:=Tryz.isAgg9
 z9:=Tryz.sizeOf9
 v9:=Tryz.zeroValue9
 t20:=Tryz.underlying20
 a20:=Tryz.isAgg20
 z20:=Tryz.sizeOf20
 v20:=Tryz.zeroValue20
 t37:=Tryz.underlying258
 a37:=Tryz.isAgg258
 z37:=Tryz.sizeOf258
 v37:=Tryz.zeroValue258
 t46:=Tryz.underlying103
 a46:=Tryz.isAgg103
 z46:=Tryz.sizeOf103
 v46:=Tryz.zeroValue103
 t51:=Tryz.underlying214
 a51:=Tryz.isAgg214
 z51:=Tryz.sizeOf214
 v51:=Tryz.zeroValue214
 t53:=Tryz.underlying216
 a53:=Tryz.isAgg216
 z53:=Tryz.sizeOf216
 v53:=Tryz.zeroValue216
 t171:=Tryz.underlying294
 a171:=Tryz.isAgg294
 z171:=Tryz.sizeOf294
 v171:=Tryz.zeroValue294
 t173:=Tryz.underlying296
 a173:=Tryz.isAgg296
 z173:=Tryz.sizeOf296
 v173:=Tryz.zeroValue296
 t212:=Tryz.underlying312
 a212:=Tryz.isAgg312
 z212:=Tryz.sizeOf312
 v212:=Tryz.zeroValue312
 t213:=Tryz.underlying313
 a213:=Tryz.isAgg313
 z213:=Tryz.sizeOf313
 t232:=Tryz.underlying318
 a232:=Tryz.isAgg318
 z232:=Tryz.sizeOf318
 v232:=Tryz.zeroValue318
 t233:=Tryz.underlying319
 a233:=Tryz.isAgg319
 z233:=Tryz.sizeOf319
 v233:=Tryz.zeroValue319
 g17:=by kernel_rfl
 g18:=by kernel_rfl
 g19:=by kernel_rfl
 i0:=by kernel_rfl
 i2:=by kernel_rfl
 i3:=by kernel_rfl
 i4:=by kernel_rfl
 i5:=by kernel_rfl
 i9:=by kernel_rfl
 i20:=by kernel_rfl
 i37:=by kernel_rfl
 i46:=by kernel_rfl
 i51:=by kernel_rfl
 i53:=by kernel_rfl
 i171:=by kernel_rfl
 i173:=by kernel_rfl
 i212:=by kernel_rfl
 i232:=by kernel_rfl
 i233:=by kernel_rfl
 m17:=by kernel_rfl
 m18:=by kernel_rfl
 m19:=by kernel_rfl}
open Go.RowKit Go.Sort Go.Lib in
theorem Tryz.strconv_Itoa (n:Int) (h0: -9223372036854775808≤n) (h1:n≤9223372036854775807) (w:World) (htab:Lib.TabIs Tryz.prog w "internal/strconv.uint64pow10" .u64 Lib.pow10Tab):
 Calls Tryz.prog 149 #[.int .i64 n] w fun e w'=>e= .returned (.string ⟨(Lib.itoa n).toArray⟩)∧∃k os,w'=grow (w.drewN k) os:=Any.strconv_Itoa Tryz.du4 n h0 h1 w htab
def Tryz.ct4:Go.Shelf.Ren:=⟨fun|172=>175|244=>200|245=>201|247=>222|279=>223|280=>224|281=>225|282=>226|287=>247|316=>248|171=>149|205=>249|321=>258|322=>259|243=>199|246=>221|283=>243|284=>244|285=>245|286=>246|129=>254|317=>253|318=>255|319=>256|320=>257|337=>260|338=>261|n=>n,fun|9=>9|3=>3|75=>248|76=>249|4=>4|5=>5|167=>279|37=>258|0=>0|85=>280|2=>2|168=>282|53=>216|175=>298|46=>103|210=>302|127=>277|145=>317|143=>315|21=>21|171=>294|173=>296|212=>312|51=>214|20=>20|213=>313|232=>318|233=>319|80=>246|n=>n,fun|15=>1|16=>2|17=>5|18=>6|19=>7|n=>n⟩
theorem Tryz.bI8:Go.Proofs.LaysC.n172 Tryz.prog Tryz.ct4:={
 mixed:=by kernel_rfl
 f129:=Tryz.func254.trans (congrArg some (by kernel_rfl))
 f171:=Tryz.func149.trans (congrArg some (by kernel_rfl))
 f172:=Tryz.func175.trans (congrArg some (by kernel_rfl))
 f205:=Tryz.func249.trans (congrArg some (by kernel_rfl))
 f243:=Tryz.func199.trans (congrArg some (by kernel_rfl))
 f244:=Tryz.func200.trans (congrArg some (by kernel_rfl))
 f245:=Tryz.func201.trans (congrArg some (by kernel_rfl))
 f246:=Tryz.func221.trans (congrArg some (by kernel_rfl))
 f247:=Tryz.func222.trans (congrArg some (by kernel_rfl))
 f279:=Tryz.func223.trans (congrArg some (by kernel_rfl))
 f280:=Tryz.func224.trans (congrArg some (by kernel_rfl))
 f281:=Tryz.func225.trans (congrArg some (by kernel_rfl))
 f282:=Tryz.func226.trans (congrArg some (by kernel_rfl))
 f283:=Tryz.func243.trans (congrArg some (by kernel_rfl))
 f284:=Tryz.func244.trans (congrArg some (by kernel_rfl))
 f285:=Tryz.func245.trans (congrArg some (by kernel_rfl))
 f286:=Tryz.func246.trans (congrArg some (by kernel_rfl))
 f287:=Tryz.func247.trans (congrArg some (by kernel_rfl))
 f316:=Tryz.func248.trans (congrArg some (by kernel_rfl))
 f317:=Tryz.func253.trans (congrArg some (by kernel_rfl))
 f318:=Tryz.func255.trans (congrArg some (by kernel_rfl))
 f319:=Tryz.func256.trans (congrArg some (by kernel_rfl))
 f320:=Tryz.func257.trans (congrArg some (by kernel_rfl))
 f321:=Tryz.func258.trans (congrArg some (by kernel_rfl))
 f322:=Tryz.func259.trans (congrArg some (by kernel_rfl))
 f337:=Tryz.func260.trans (congrArg some (by kernel_rfl))
 f338:=Tryz.func261.trans (congrArg some (by kernel_rfl))
 t0:=Tryz.underlying0
 a0:=Tryz.isAgg0
 z0:=Tryz.sizeOf0
 v0:=Tryz.zeroValue0
 t2:=Tryz.underlying2
 a2:=Tryz.isAgg2
 z2:=Tryz.sizeOf2
 v2:=Tryz.zeroValue2
 t3:=Tryz.underlying3
 a3:=Tryz.isAgg3
 z3:=Tryz.sizeOf3
 v3:=Tryz.zeroValue3
 t4:=Tryz.underlying4
 a4:=Tryz.isAgg4
 z4:=Tryz.sizeOf4
 v4:=Tryz.zeroValue4
 t5:=Tryz.underlying5
 a5:=Tryz.isAgg5
 z5:=Tryz.sizeOf5
 v5:=Tryz.zeroValue5
 t9:=Tryz.underlying9
 a9:=Tryz.isAgg9
 z9:=Tryz.sizeOf9
 v9:=Tryz.zeroValue9
 t20:=Tryz.underlying20
 a20:=Tryz.isAgg20
 z20:=Tryz.sizeOf20
 v20:=Tryz.zeroValue20
 t21:=Tryz.underlying21
 a21:=Tryz.isAgg21
 z21:=Tryz.sizeOf21
 v21:=Tryz.zeroValue21
 t37:=Tryz.underlying258
 a37:=Tryz.isAgg258
 z37:=Tryz.sizeOf258
 v37:=Tryz.zeroValue258
 t46:=Tryz.underlying103
 a46:=Tryz.isAgg103
 z46:=Tryz.sizeOf103
 v46:=Tryz.zeroValue103
 t51:=Tryz.underlying214
 a51:=Tryz.isAgg214
 z51:=Tryz.sizeOf214
 v51:=Tryz.zeroValue214
 t53:=Tryz.underlying216
 a53:=Tryz.isAgg216
 z53:=Tryz.sizeOf216
 v53:=Tryz.zeroValue216
 t75:=Tryz.underlying248
 a75:=Tryz.isAgg248
 z75:=Tryz.sizeOf248
 v75:=Tryz.zeroValue248
 t76:=Tryz.underlying249
 a76:=Tryz.isAgg249
 z76:=Tryz.sizeOf249
 v76:=Tryz.zeroValue249
 t85:=Tryz.underlying280
 a85:=Tryz.isAgg280
 z85:=Tryz.sizeOf280
 v85:=Tryz.zeroValue280
 t127:=Tryz.underlying277
 a127:=Tryz.isAgg277
 z127:=Tryz.sizeOf277
 v127:=Tryz.zeroValue277
 t143:=Tryz.underlying315
 a143:=Tryz.isAgg315
 z143:=Tryz.sizeOf315
 v143:=Tryz.zeroValue315
 t145:=Tryz.underlying317
 a145:=Tryz.isAgg317
 z145:=Tryz.sizeOf317
 v145:=Tryz.zeroValue317
 t167:=Tryz.underlying279
 a167:=Tryz.isAgg279
 z167:=Tryz.sizeOf279
 v167:=Tryz.zeroValue279
 t168:=Tryz.underlying282
 a168:=Tryz.isAgg282
 z168:=Tryz.sizeOf282
 v168:=Tryz.zeroValue282
 t171:=Tryz.underlying294
 a171:=Tryz.isAgg294
 z171:=Tryz.sizeOf294
 v171:=Tryz.zeroValue294
 t173:=Tryz.underlying296
 a173:=Tryz.isAgg296
 z173:=Tryz.sizeOf296
 v173:=Tryz.zeroValue296
 t175:=Tryz.underlying298
 a175:=Tryz.isAgg298
 z175:=Tryz.sizeOf298
 v175:=Tryz.zeroValue298
 t210:=Tryz.underlying302
 a210:=Tryz.isAgg302
 z210:=Tryz.sizeOf302
 v210:=Tryz.zeroValue302
 t212:=Tryz.underlying312
 a212:=Tryz.isAgg312
 z212:=Tryz.sizeOf312
 v212:=Tryz.zeroValue312
 t213:=Tryz.underlying313
 a213:=Tryz.isAgg313
 z213:=Tryz.sizeOf313
 t232:=Tryz.underlying318
 a232:=Tryz.isAgg318
 z232:=Tryz.sizeOf318
 v232:=Tryz.zeroValue318
 t233:=Tryz.underlying319
 a233:=Tryz.isAgg319
 z233:=Tryz.sizeOf319
 v233:=Tryz.zeroValue319
 g15:=by kernel_rfl
 g16:=by kernel_rfl
 g17:=by kernel_rfl
 g18:=by kernel_rfl
 g19:=by kernel_rfl
 t80:=Tryz.underlying246
 a80:=Tryz.isAgg246
 z80:=Tryz.sizeOf246
 v80:=Tryz.zeroValue246
 i0:=by kernel_rfl
 i2:=by kernel_rfl
 i3:=by kernel_rfl
 i4:=by kernel_rfl
 i5:=by kernel_rfl
 i9:=by kernel_rfl
 i20:=by kernel_rfl
 i21:=by kernel_rfl
 i37:=by kernel_rfl
 i46:=by kernel_rfl
 i51:=by kernel_rfl
 i53:=by kernel_rfl
 i75:=by kernel_rfl
 i76:=by kernel_rfl
 i80:=by kernel_rfl
 i85:=by kernel_rfl
 i127:=by kernel_rfl
 i143:=by kernel_rfl
 i145:=by kernel_rfl
 i167:=by kernel_rfl
 i168:=by kernel_rfl
 i171:=by kernel_rfl
 i173:=by kernel_rfl
 i175:=by kernel_rfl
 i210:=by kernel_rfl
 i212:=by kernel_rfl
 i232:=by kernel_rfl
 i233:=by kernel_rfl
 m15:=by kernel_rfl
 m16:=by kernel_rfl
 m17:=by kernel_rfl
 m18:=by kernel_rfl
 m19:=by kernel_rfl
 c0:=by kernel_rfl
 c2:=by kernel_rfl
 c3:=by kernel_rfl
 c4:=by kernel_rfl
 c5:=by kernel_rfl
 c9:=by kernel_rfl
 c20:=by kernel_rfl
 c21:=by kernel_rfl
 c37:=by kernel_rfl
 c46:=by kernel_rfl
 c51:=by kernel_rfl
 c53:=by kernel_rfl
 c75:=by kernel_rfl
 c76:=by kernel_rfl
 c80:=by kernel_rfl
 c85:=by kernel_rfl
 c127:=by kernel_rfl
 c143:=by kernel_rfl
 c145:=by kernel_rfl
 c167:=by kernel_rfl
 c168:=by kernel_rfl
 c171:=by kernel_rfl
 c173:=by kernel_rfl
 c175:=by kernel_rfl
 c210:=by kernel_rfl
 c212:=by kernel_rfl
 c213:=by kernel_rfl
 c232:=by kernel_rfl
 c233:=by kernel_rfl}
open Go.RowKit in
theorem Tryz.strconv_Atoi_ok (s:ByteArray) (hmax:s.size≤9223372036854775806) (v:Int) (h:Lib.atoiAll s.data.toList= .ok v) (w:World):
 Calls Tryz.prog 175 #[.string s] w fun e w'=>e= .returned (.tuple #[.int .i64 v,.nilIface])∧(w'=w∨∃t,w'=Lib.bytesWorld w 5 t):=Any.strconv_Atoi_ok Tryz.bI8 s hmax v h w
open Go.RowKit in
theorem Tryz.strconv_Atoi_syntax (s:ByteArray) (hlim:s.size≤281474976710656) (h:Lib.atoiAll s.data.toList=Lib.NumEnd.syntax) (ev:Value) (w:World) (hv:w.cell? ⟨1,0,none⟩=some ev) (hev:ev= .nilIface∨∃te pe,ev= .iface te pe):
 Calls Tryz.prog 175 #[.string s] w fun e w'=>∃N,e= .returned (.tuple #[.int .i64 (0),.iface 282 (.pointer (some ⟨N,0,none⟩))])∧w.heap.size≤N∧w'.heap[N]? =some (.cells #[.string ⟨#[65,116,111,105]⟩,.string s,ev] 302 (0,0))∧Below w.heap.size w w':=Any.strconv_Atoi_syntax Tryz.bI8 s hlim h ev w hv hev
open Go.RowKit in
theorem Tryz.strconv_Atoi_range (s:ByteArray) (hlim:s.size≤281474976710656) (h:Lib.atoiAll s.data.toList= .range) (ev:Value) (w:World) (hv:w.cell? ⟨2,0,none⟩=some ev) (hev:ev= .nilIface∨∃te pe,ev= .iface te pe):
 Calls Tryz.prog 175 #[.string s] w fun e w'=>∃N,e= .returned (.tuple #[.int .i64 (Lib.atoiSat s.data.toList),.iface 282 (.pointer (some ⟨N,0,none⟩))])∧w.heap.size≤N∧w'.heap[N]? =some (.cells #[.string ⟨#[65,116,111,105]⟩,.string s,ev] 302 (0,0))∧Below w.heap.size w w':=Any.strconv_Atoi_range Tryz.bI8 s hlim h ev w hv hev
def Tryz.cC0:Go.Shelf.Ren:=⟨fun|101=>176|208=>202|206=>227|n=>n,fun|9=>9|4=>4|3=>3|n=>n,fun|n=>n⟩
theorem Tryz.dJ1:Go.Proofs.Lays.n101 Tryz.prog Tryz.cC0:={
 mixed:=by kernel_rfl
 f101:=Tryz.func176.trans (congrArg some (by kernel_rfl))
 f206:=Tryz.func227.trans (congrArg some (by kernel_rfl))
 f208:=Tryz.func202.trans (congrArg some (by kernel_rfl))
 t3:=Tryz.underlying3
 a3:=Tryz.isAgg3
 z3:=Tryz.sizeOf3
 v3:=Tryz.zeroValue3
 t4:=Tryz.underlying4
 a4:=Tryz.isAgg4
 z4:=Tryz.sizeOf4
 v4:=Tryz.zeroValue4
 t9:=Tryz.underlying9
 a9:=Tryz.isAgg9
 z9:=Tryz.sizeOf9
 v9:=Tryz.zeroValue9}
open Go.RowKit Go.Lib in
theorem Tryz.strings_TrimPrefix (s p:ByteArray) (w:World):
 Calls Tryz.prog 176 #[.string s,.string p] w fun e w'=>e= .returned (.string ⟨(Lib.trimPrefix s.data.toList p.data.toList).toArray⟩)∧w'=w:=Any.strings_TrimPrefix Tryz.dJ1 s p w
def Tryz.cC1:Go.Shelf.Ren:=⟨fun|146=>117|221=>147|268=>193|138=>194|143=>195|195=>215|197=>216|218=>217|219=>218|260=>236|217=>237|225=>238|224=>239|267=>240|266=>251|314=>252|n=>n,fun|9=>9|31=>33|3=>3|4=>4|0=>0|105=>274|21=>21|5=>5|46=>103|119=>305|139=>308|138=>307|146=>309|51=>214|n=>n,fun|1=>0|3=>3|4=>4|n=>n⟩
theorem Tryz.dJ2:Go.Proofs.Lays.n146 Tryz.prog Tryz.cC1:={
 mixed:=by kernel_rfl
 f138:=Tryz.func194.trans (congrArg some (by kernel_rfl))
 f143:=Tryz.func195.trans (congrArg some (by kernel_rfl))
 f146:=Tryz.func117.trans (congrArg some (by kernel_rfl))
 f195:=Tryz.func215.trans (congrArg some (by kernel_rfl))
 f197:=Tryz.func216.trans (congrArg some (by kernel_rfl))
 f217:=Tryz.func237.trans (congrArg some (by kernel_rfl))
 f218:=Tryz.func217.trans (congrArg some (by kernel_rfl))
 f219:=Tryz.func218.trans (congrArg some (by kernel_rfl))
 f221:=Tryz.func147.trans (congrArg some (by kernel_rfl))
 f224:=Tryz.func239.trans (congrArg some (by kernel_rfl))
 f225:=Tryz.func238.trans (congrArg some (by kernel_rfl))
 f260:=Tryz.func236.trans (congrArg some (by kernel_rfl))
 f266:=Tryz.func251.trans (congrArg some (by kernel_rfl))
 f267:=Tryz.func240.trans (congrArg some (by kernel_rfl))
 f268:=Tryz.func193.trans (congrArg some (by kernel_rfl))
 f314:=Tryz.func252.trans (congrArg some (by kernel_rfl))
 t0:=Tryz.underlying0
 a0:=Tryz.isAgg0
 z0:=Tryz.sizeOf0
 v0:=Tryz.zeroValue0
 t3:=Tryz.underlying3
 a3:=Tryz.isAgg3
 z3:=Tryz.sizeOf3
 v3:=Tryz.zeroValue3
 t4:=Tryz.underlying4
 a4:=Tryz.isAgg4
 z4:=Tryz.sizeOf4
 v4:=Tryz.zeroValue4
 t5:=Tryz.underlying5
 a5:=Tryz.isAgg5
 z5:=Tryz.sizeOf5
 v5:=Tryz.zeroValue5
 t9:=Tryz.underlying9
 a9:=Tryz.isAgg9
 z9:=Tryz.sizeOf9
 v9:=Tryz.zeroValue9
 t21:=Tryz.underlying21
 a21:=Tryz.isAgg21
 z21:=Tryz.sizeOf21
 v21:=Tryz.zeroValue21
 t31:=Tryz.underlying33
 a31:=Tryz.isAgg33
 z31:=Tryz.sizeOf33
 v31:=Tryz.zeroValue33
 t46:=Tryz.underlying103
 a46:=Tryz.isAgg103
 z46:=Tryz.sizeOf103
 v46:=Tryz.zeroValue103
 t51:=Tryz.underlying214
 a51:=Tryz.isAgg214
 z51:=Tryz.sizeOf214
 v51:=Tryz.zeroValue214
 t105:=Tryz.underlying274
 a105:=Tryz.isAgg274
 z105:=Tryz.sizeOf274
 v105:=Tryz.zeroValue274
 t119:=Tryz.underlying305
 a119:=Tryz.isAgg305
 z119:=Tryz.sizeOf305
 t138:=Tryz.underlying307
 a138:=Tryz.isAgg307
 z138:=Tryz.sizeOf307
 v138:=Tryz.zeroValue307
 t139:=Tryz.underlying308
 a139:=Tryz.isAgg308
 z139:=Tryz.sizeOf308
 v139:=Tryz.zeroValue308
 t146:=Tryz.underlying309
 a146:=Tryz.isAgg309
 z146:=Tryz.sizeOf309
 v146:=Tryz.zeroValue309
 g1:=by kernel_rfl
 g3:=by kernel_rfl
 g4:=by kernel_rfl}
open Go.RowKit Go.Lib in
theorem Tryz.strings_Split (s sep:ByteArray) (m:Int) (w:World) (hs:s.size<4294967281) (hm:w.cell? ⟨0,0,none⟩=some (.int .i64 m)) (h1:1≤sep.size):
 Calls Tryz.prog 117 #[.string s,.string sep] w fun e w'=>
  e= .returned (.slice (some ⟨w.heap.size,0,none⟩) (Lib.countB s sep+1) (Lib.countB s sep+1))∧w'=w.alloc (.cells ((Lib.splitB sep 0 (Lib.countB s sep) s).map Value.string).toArray 9):=Any.strings_Split Tryz.dJ2 (by kernel_rfl) s sep m w hs hm h1
end Go.Proofs
namespace Go.Proofs.YtbliehinagkldaaGreatDoor
section
open Go.RowKit
attribute [local go_sem] j4.drew j4.alloc j4.drewN WB.holds Oper.semAt_some
structure Doors (H:j5):Prop where
 m:∃z T fr,H 0=some (.cells #[.int .i64 z] T fr)
 s:∃tp p T fr,H 1=some (.cells #[.iface tp p] T fr)
 r:∃tp p T fr,H 2=some (.cells #[.iface tp p] T fr)
 t:∃T fr,H 5=some (.cells (Lib.pow10Tab.map fun z=>Value.int .u64 z).toArray T fr)
theorem Doors.mono {H H':j5} (k:D8 H H') (d:Doors H):Doors H':=
 ⟨let ⟨z,T,fr,h⟩:=d.m;⟨z,T,fr,k _ _ h⟩,let ⟨tp,p,T,fr,h⟩:=d.s;⟨tp,p,T,fr,k _ _ h⟩,let ⟨tp,p,T,fr,h⟩:=d.r;⟨tp,p,T,fr,k _ _ h⟩,let ⟨T,fr,h⟩:=d.t;⟨T,fr,k _ _ h⟩⟩
theorem below_grow {w:World} (k:Nat) (os:Array Obj):Below w.heap.size w (Sort.grow (w.drewN k) os):=by
 refine⟨rfl,rfl,rfl, ?_,fun b hb=> ?_⟩
 ·show _≤(w.heap++os).size;rw[Array.size_append];omega
 ·show(w.heap++os)[b]? =_;rw[Array.getElem?_append_left hb]
theorem ap8 (n:Int) (hn:K8 n) (H:j5) (d:Doors H) (w:World) (hw:j4 H w):Calls Tryz.prog 149 #[.int .i64 n] w (I1 w (.string (G6 n))):=by
 obtain⟨T,fr,h⟩:=d.t
 have ht:Lib.TabIs Tryz.prog w "internal/strconv.uint64pow10" .u64 Lib.pow10Tab:=by
  unfold Lib.TabIs World.var?
  rw[show Tryz.prog.globalNamed "internal/strconv.uint64pow10" =some 5 by kernel_rfl]
  simp only[Option.bind_some,hw.at_ _ _ h]
 refine(Tryz.strconv_Itoa n hn.1 hn.2 w ht).mono ?_
 rintro e w' ⟨rfl,k,os,rfl⟩
 exact⟨rfl,below_grow k os⟩
theorem cC2 (w:World) (t:TypeId) (s:ByteArray):Below w.heap.size w (Lib.bytesWorld w t s):=
 Lib.bytesWorld_below w t s
theorem bI9 {s:ByteArray} {v:Int} (h:Lib.atoiAll (C8 s)= .ok v) (hs:s.size≤140737488355328) (w:World):Calls Tryz.prog 175 #[.string s] w (I1 w (.tuple #[.int .i64 v,.nilIface])):=by
 refine(Tryz.strconv_Atoi_ok s (by omega) v h w).mono ?_
 rintro e w' ⟨rfl,(rfl|⟨t,rfl⟩)⟩
 ·exact⟨rfl,Below.refl _ _⟩
 ·exact⟨rfl,cC2 _ _ _⟩
def AtoiErr (w:World) (e:Ending) (w':World):Prop:=∃n T p,e= .returned (.tuple #[.int .i64 n,.iface T (.pointer p)])∧Below w.heap.size w w'
theorem dg9 {s:ByteArray} (h:Lib.atoiAll (C8 s)=Lib.NumEnd.syntax) (hs:s.size≤140737488355328) (H:j5) (d:Doors H) (w:World) (hw:j4 H w):Calls Tryz.prog 175 #[.string s] w (AtoiErr w):=by
 obtain⟨tp,p,T,fr,hd⟩:=d.s
 refine(Tryz.strconv_Atoi_syntax s (by omega) h (.iface tp p) w (D7 hd hw 0) (.inr ⟨tp,p,rfl⟩)).mono ?_
 rintro e w' ⟨N,rfl,_,_,hb⟩
 exact⟨_,_,_,rfl,hb⟩
theorem dh0 {s:ByteArray} (h:Lib.atoiAll (C8 s)= .range) (hs:s.size≤140737488355328) (H:j5) (d:Doors H) (w:World) (hw:j4 H w):Calls Tryz.prog 175 #[.string s] w (AtoiErr w):=by
 obtain⟨tp,p,T,fr,hd⟩:=d.r
 refine(Tryz.strconv_Atoi_range s (by omega) h (.iface tp p) w (D7 hd hw 0) (.inr ⟨tp,p,rfl⟩)).mono ?_
 rintro e w' ⟨N,rfl,_,_,hb⟩
 exact⟨_,_,_,rfl,hb⟩
theorem cd0 (s:ByteArray) (w:World):Calls Tryz.prog 176 #[.string s,.string ⟨#[45]⟩] w fun e w'=>e= .returned (.string (J8 (ar2 (C8 s))))∧w=w':=by
 refine(Tryz.strings_TrimPrefix s ⟨#[45]⟩ w).mono ?_
 rintro e w' ⟨rfl,rfl⟩
 refine⟨?_,rfl⟩
 show Ending.returned (.string ⟨(Lib.trimPrefix (C8 s) [45]).toArray⟩)=_
 rw[cN4];rfl
theorem dJ3 {a b:ByteArray} (h:¬a=b):(a.toList==b.toList)=false:=by
 rw[ByteArray.toList_eq,ByteArray.toList_eq,beq_eq_false_iff_ne]
 intro e
 apply h
 cases a;cases b
 simp only[ByteArray.mk.injEq]
 exact Array.ext' e
def V9 (w:World) (H:j5) (p:List ByteArray) (e:Ending) (w':World):Prop:=match T9 p with
 |some ns=>∃v H',e= .returned (.tuple #[v,.bool true])∧Ext w H w' H'∧Own H' w.heap.size w' 3 v ns
 |none=>e= .returned (.tuple #[.slice none 0 0,.bool false])∧Below w.heap.size w w'
theorem U5 (va:Value) (p:List ByteArray) (hl:p.length≤100000) (H:j5) (d:Doors H) (w:World) (hw:j4 H w) (ha:Sl H va p):
 Calls Tryz.prog 123 #[va] w (V9 w H p):=by
 obtain⟨aa,ca,rfl,ha1,ha2⟩:=ha.form
 go_enter Tryz.func123,Tryz.ntmps123
 go_upto_region 2 with fail
 go_wp2
 go_loopw [2,10] (fun v i wr=>∃(k:Nat) (ns:List Int),k≤p.length∧i= .int .i64 (k:Int)∧Hid (T9 (p.take k)=some ns)∧Ext w H wr H∧Own H w.heap.size wr 3 v ns) (fun _ i _=>p.length-(intOf i).toNat)
 case atStart=>exact⟨0,[],fh3 _,rfl,fe6 rfl,Ext.refl hw,Own.nil _ _ _ _⟩
 case round=>
  obtain⟨k,ns,hk,rfl,hns,xr,oo⟩:=hrel
  have hwr:=xr.holds
  have hk0:(0:Int)≤(k:Int):=by omega
  by_cases hlk:k<p.length
  ·obtain⟨s,hs⟩:=At.mk hlk
   obtain⟨b,o,c,he,hss,r1⟩:=ha.str hs
   cases he
   have hk1:(k:Int)<(p.length:Int):=by omega
   have hsz:s.size≤140737488355328:=hss
   have hr0:True:=trivial
   rcases dH8 s with⟨v,hnu,hat,hvi,ht,h6⟩|⟨hno,hat⟩|⟨hno,hat⟩|⟨v,hno,hat,hvi,ht⟩|⟨v,hno,hat,hvi,ht,h6⟩
   ·have cA:=bI9 hat hsz wr
    have cI:=fun(W:World) (hW:j4 H W)=>ap8 v hvi H d W hW
    rw[ht]at cI
    have cT:=fun(W:World)=>cd0 s W
    obtain⟨T,hT,hT6⟩:∃T,J8 (ar2 (C8 s))=T∧¬(6:Int)<(T.size:Int):=⟨_,rfl,by show ¬(6:Int)<((ar2 (C8 s)).length:Int);omega⟩
    rw[hT]at cT
    have ew6:=fe6 (bL7 hs hns.out hnu)
    have hnl:ns.length≤100000:=by have:=(ax2 hns.out).2;rw[fg6]at this;omega
    replace cA:=fe6 cA
    replace cI:=fe6 cI
    replace cT:=fe6 cT
    replace hnl:=fe6 hnl
    clear hT h6 ht hat hnu hs hns hsz hss
    obtain⟨av,cv,rfl,_,_⟩:=oo.form
    go_wp2_with(first|((at_builtin;refine bs2 ag8 _ _ x2 o2 v hvi (by have:=hnl.out;omega) rfl rfl rfl rfl ?_;intro v5 w5 o5 x5 hw5))|((go_at_call 149;refine(cI.out _ hw2).mono ?_;rintro e w3 ⟨rfl,hb3⟩;replace x2:=x2.step (hb3.mono x2.below.size) (hw2.below hb3);have hw3:=x2.holds;replace o2:=o2.az2 hb3))|((go_at_call 176;refine(cT.out _).mono ?_;rintro e w' ⟨rfl,rfl⟩))|((have hgd:=hr0;clear hgd;go_at_call 175;go_must (refine cA.out.mono ?_);rintro e w2 ⟨rfl,hb2⟩;have x2:=xr.step (hb2.mono xr.below.size) (hwr.below hb2);have hw2:=x2.holds;have o2:=oo.az2 hb2)))
    obtain⟨a5,c5,rfl,_,_⟩:=o5.form
    go_roundw
    case rel=>exact⟨k+1,ns++[v],hlk,by go_num,ew6,x5,o5⟩
    case measure=>simp[intOf];omega
   ·have cA:=dg9 hat hsz H d wr hwr
    replace cA:=fe6 cA
    clear hat hsz hss oo hns
    go_wp2_with(first|((have hgd:=hr0;clear hgd;go_at_call 175;go_must (refine cA.out.mono ?_);rintro e w2 ⟨n0,T0,p0,rfl,hb2⟩;have x2:=xr.step (hb2.mono xr.below.size) (hwr.below hb2);have hw2:=x2.holds)))
    go_ret2
    unfold V9
    rw[aP5 hs hno]
    exact⟨rfl,x2.below⟩
   ·have cA:=dh0 hat hsz H d wr hwr
    replace cA:=fe6 cA
    clear hat hsz hss oo hns
    go_wp2_with(first|((have hgd:=hr0;clear hgd;go_at_call 175;go_must (refine cA.out.mono ?_);rintro e w2 ⟨n0,T0,p0,rfl,hb2⟩;have x2:=xr.step (hb2.mono xr.below.size) (hwr.below hb2);have hw2:=x2.holds)))
    go_ret2
    unfold V9
    rw[aP5 hs hno]
    exact⟨rfl,x2.below⟩
   ·have cA:=bI9 hat hsz wr
    have cI:=fun(W:World) (hW:j4 H W)=>ap8 v hvi H d W hW
    have hne:=dJ3 ht
    generalize G6 v=u at*
    replace cA:=fe6 cA
    replace cI:=fe6 cI
    clear ht hat hsz hss oo hns
    go_wp2_with(first|((go_at_call 149;refine(cI.out _ hw2).mono ?_;rintro e w3 ⟨rfl,hb3⟩;replace x2:=x2.step (hb3.mono x2.below.size) (hw2.below hb3);have hw3:=x2.holds))|((have hgd:=hr0;clear hgd;go_at_call 175;go_must (refine cA.out.mono ?_);rintro e w2 ⟨rfl,hb2⟩;have x2:=xr.step (hb2.mono xr.below.size) (hwr.below hb2);have hw2:=x2.holds)))
    go_ret2
    unfold V9
    rw[aP5 hs hno]
    exact⟨rfl,x2.below⟩
   ·have cA:=bI9 hat hsz wr
    have cI:=fun(W:World) (hW:j4 H W)=>ap8 v hvi H d W hW
    rw[ht]at cI
    have cT:=fun(W:World)=>cd0 s W
    obtain⟨T,hT,hT6⟩:∃T,J8 (ar2 (C8 s))=T∧(6:Int)<(T.size:Int):=⟨_,rfl,by show(6:Int)<((ar2 (C8 s)).length:Int);omega⟩
    rw[hT]at cT
    replace cA:=fe6 cA
    replace cI:=fe6 cI
    replace cT:=fe6 cT
    clear hT h6 ht hat hsz hss oo hns
    go_wp2_with(first|((go_at_call 149;refine(cI.out _ hw2).mono ?_;rintro e w3 ⟨rfl,hb3⟩;replace x2:=x2.step (hb3.mono x2.below.size) (hw2.below hb3);have hw3:=x2.holds))|((go_at_call 176;refine(cT.out _).mono ?_;rintro e w' ⟨rfl,rfl⟩))|((have hgd:=hr0;clear hgd;go_at_call 175;go_must (refine cA.out.mono ?_);rintro e w2 ⟨rfl,hb2⟩;have x2:=xr.step (hb2.mono xr.below.size) (hwr.below hb2);have hw2:=x2.holds)))
    go_ret2
    unfold V9
    rw[aP5 hs hno]
    exact⟨rfl,x2.below⟩
  ·have hk1:¬(k:Int)<(p.length:Int):=by omega
   have hn:T9 p=some ns:=by have:=hns.out;rwa [fg7 (by omega)]at this
   go_wp2_with fail
   go_ret2
   unfold V9
   rw[hn]
   exact⟨_,H,rfl,xr,oo⟩
end
section
open Go.ChangeShapes Go.WideShapes Go.ChangeAt Go.RowKit
def aw0:List (String × DataW Unit):=[("math/bits.deBruijn32tab",Rows.laid_math_bits_deBruijn32tab),("math/bits.deBruijn64tab",Rows.laid_math_bits_deBruijn64tab),("internal/strconv.uint64pow10",Rows.laid_internal_strconv_uint64pow10),("unicode/utf8.acceptRanges",Rows.laid_unicode_utf8_acceptRanges),("strconv.ErrRange",Rows.laid_strconv_ErrRange),("strconv.ErrSyntax",Rows.laid_strconv_ErrSyntax),("unicode/utf8.first",Rows.laid_unicode_utf8_first)]
theorem cH6 {W:World} {n:String} {g:Nat} {cs:Array Value} (hg:Tryz.prog.globalNamed n=some g) (h:W.var? Tryz.prog n=some cs):∃T fr,W.heap[g]? =some (.cells cs T fr):=by
 unfold World.var? at h
 rw[hg]at h
 simp only[Option.bind_some]at h
 split at h
 ·next c t fr hb=>
  have:c=cs:=by simpa using h
  subst this
  exact⟨_,_,hb⟩
 ·cases h
theorem bJ0 {W:World} (h:laidMetH Tryz.prog aw0 W) (n:String) {d:DataW Unit} (he:(aw0.filter fun x=>x.1==n)=[(n,d)]):laidMetH Tryz.prog [(n,d)] W:=by
 have:=laidMetH.filter (fun x=>x.1==n) h
 rw[he]at this
 exact this
theorem dh1 {W:World} {n:String} {d:DataW Unit} (hp:d.handleName?=none) (h:laidMetH Tryz.prog [(n,d)] W):
 ∃g t cs fuel p,Tryz.prog.globalNamed n=some g∧(Tryz.prog.globals[g]?).map (·.type)=some t∧W.var? Tryz.prog n=some cs∧DataW.trod (fun _=>()) Tryz.prog W 0 (fun _=>true) false fuel t cs.toList=some (d,p):=by
 have h:laidMet Tryz.prog [(n,d)] W:=by simpa [laidMetH,hp]using h
 obtain⟨_,⟨g,t,cs,fuel,p,q,h1,h2,h3,h4,_⟩,_⟩:=h
 exact⟨g,t,cs,fuel,p,h1,h2,h3,h4⟩
theorem dU7:Tryz.prog.globalNamed "internal/strconv.uint64pow10" =some 5:=by kernel_rfl
theorem ew7:Tryz.prog.globalNamed "strconv.ErrSyntax" =some 1:=by kernel_rfl
theorem ew8:Tryz.prog.globalNamed "strconv.ErrRange" =some 2:=by kernel_rfl
theorem ew9:(Tryz.prog.globals[1]?).map (·.type)=some 248:=by kernel_rfl
theorem ex0:(Tryz.prog.globals[2]?).map (·.type)=some 248:=by kernel_rfl
theorem ex1:(Tryz.prog.globals[5]?).map (·.type)=some 312:=by kernel_rfl
theorem cH7 {W:World} {n:String} {g:Nat} {text:List UInt8} {ms:Array (String × TypeId)} (hu:Tryz.prog.underlying 248=some (.interface ms)) (hg:Tryz.prog.globalNamed n=some g) (ht:(Tryz.prog.globals[g]?).map (·.type)=some 248)
 (h:laidMetH Tryz.prog [(n,DataW.iface "*errors.errorString" (.ptr (.agg [.lit (.string text)])))] W):∃tp p T fr,ad6 W g=some (.cells #[.iface tp p] T fr):=by
 obtain⟨g',t,cs,fuel,p,h1,h2,h3,h4⟩:=dh1 rfl h
 obtain rfl:g'=g:=Option.some.inj (h1.symm.trans hg)
 obtain rfl:t=248:=Option.some.inj (h2.symm.trans ht)
 obtain⟨_,u,v,e,_,_⟩:=iface_of_trod hu h4
 obtain rfl:cs= #[.iface u v]:=by cases cs;simp_all
 obtain⟨T,fr,hb⟩:=cH6 hg h3
 exact⟨u,v,T,fr,hb⟩
theorem bm2 {W:World} (h:laidMetH Tryz.prog aw0 W) (hs:W.ShapedOpen Tryz.prog):Doors (ad6 W):=by
 refine⟨?_,cH7 Tryz.underlying248 ew7 ew9 (bJ0 h "strconv.ErrSyntax" (by rfl)),cH7 Tryz.underlying248 ew8 ex0 (bJ0 h "strconv.ErrRange" (by rfl)), ?_⟩
 ·obtain⟨cs,hh,hz,_⟩:=hs.1 0 #[.int .i64 0] 3 (of_decide_eq_true (by kernel_rfl)) (by kernel_rfl)
  obtain⟨m,hm⟩:=cell_of_shapedOpen_int (g:=0) (t:=3) (zero:= #[.int .i64 0]) (k:= .i64) hs (of_decide_eq_true (by kernel_rfl)) (by kernel_rfl) rfl (by kernel_rfl) (by kernel_rfl) Tryz.underlying3
  have h1:0<cs.size:=by rw[hz];decide
  have h2:cs[0]? =some (.int .i64 m):=by rw[←hm];simp[World.cell?,hh]
  have h3:cs= #[.int .i64 m]:=by
   cases cs with
   |mk l=>
    match l,hz,h2 with
    |[a],_,h2=>simp at h2;rw[h2]
  exact⟨m,_,_,by rw[←h3];exact hh⟩
 ·have ht:Lib.TabIs Tryz.prog W "internal/strconv.uint64pow10" .u64 Lib.pow10Tab:=
   Lib.tabIs_of_head (rest:=[]) dU7 ex1 Tryz.underlying312 Tryz.underlying216 (by kernel_rfl) (by kernel_rfl) (by have h1:=bJ0 h "internal/strconv.uint64pow10" (d:=Lib.tabData .u64 Lib.pow10Tab) (by rfl);simpa [laidMetH,show(Lib.tabData (H:=Unit) .u64 Lib.pow10Tab).handleName?=none from rfl]using h1)
  obtain⟨T,fr,hb⟩:=cH6 dU7 ht
  exact⟨T,fr,hb⟩
def firstCells:Array Value:=(match Go.Pinned.utf8First with
 | .agg ds=>ds.map fun(d:DataW Unit)=>(match d with|DataW.lit (Lit.int k x)=>Value.int k x|_=>undef)
 |_=>[]).toArray
noncomputable def bB1 (os:Os):World:={World.doorLaid Tryz.prog 400 os with heap:=(World.doorLaid Tryz.prog 400 os).heap.setIfInBounds 3 (.cells firstCells 305 (0,0))}
set_option maxRecDepth 100000
theorem bm3 (os:Os) (args:Array Value):laidMetH Tryz.prog aw0 ((bB1 os).forCall (fun _ _=>0) ⟨#[],args,[]⟩).memory:=
 laidMetH_of_parts3 (fuel:=8) (laidMet_of_run' 8 (by kernel_rfl) (by kernel_rfl)) (by kernel_rfl) (by kernel_rfl)
theorem aO5 (os:Os) (args:Array Value):((bB1 os).forCall (fun _ _=>0) ⟨#[],args,[]⟩).Shaped Tryz.prog:=World.shaped_of_RefB (by kernel_rfl) (by kernel_rfl)
end
section
open Go.RowKit
attribute [local go_sem] j4.drew j4.alloc j4.drewN WB.holds Oper.semAt_some
theorem bw5 (va:Value) (p:List ByteArray) (hl:p.length≤100000) (hz:(J9 p).size≤100000) (H:j5) (w:World) (hw:j4 H w) (ha:Sl H va p):Calls Tryz.prog 148 #[va,.string ⟨#[32]⟩] w (I1 w (.string (J9 p))):=by
 by_cases hn:p=[]
 ·subst hn
  obtain⟨a,c,rfl,_,_⟩:=ha.form
  refine(Tryz.strings_Join_none a c ⟨#[32]⟩ w).mono ?_
  rintro e w' ⟨rfl,rfl⟩
  exact⟨rfl,Below.refl _ _⟩
 ·obtain⟨s,hs⟩:=At.mk (List.length_pos_iff.2 hn)
  obtain⟨b,o,c,rfl,_,_⟩:=ha.str hs
  have hcap:p.length≤c:=by obtain⟨_,_,e,h1,_⟩:=ha.form;cases e;exact h1
  have hb:b<w.heap.size:=by
   obtain⟨_,_,e,_,_,_,hor⟩:=ha
   cases e
   rcases hor with h|⟨b',o',cur,e,fr,ha,hb,_⟩
   ·exact absurd h hn
   ·cases ha;exact hw.lt hb
  have hj:(Lib.join (p.map (·.data.toList)) (ByteArray.data ⟨#[32]⟩).toList)=joinL (p.map C8):=ca9 _
  refine(Tryz.strings_Join b o c p ⟨#[32]⟩ w (fun j x hx=> ?_) hb (by omega) hcap (by
   rw[hj]
   rw[aU7]at hz
   show _≤_
   have:(joinL (p.map C8)).length≤100000:=hz
   omega)).mono ?_
  ·obtain⟨b',o',c',e,_,hr⟩:=ha.str (show At p j x from hx)
   cases e
   exact hr w hw
  ·rintro e w' ⟨rfl,hb⟩
   refine⟨?_,hb⟩
   rw[hj,aU7];rfl
def P9 (w:World) (H:j5) (p:List ByteArray) (e:Ending) (w':World):Prop:=
 if(A7 p).kind=1 then ∃fv H',e= .returned (.tuple #[.agg #[.string (J9 p),fv],.bool true])∧Ext w H w' H'∧cq6 H' fv (A7 p).word (A7 p).nums
 else e= .returned (.tuple #[.agg #[.string ⟨#[]⟩,.nilFunc],.bool false])∧Below w.heap.size w w'
end
end Go.Proofs.YtbliehinagkldaaGreatDoor
