/- Lemmas and walks on which the claims of this seat lean (names and blanks made short by a program): OShelf ONums ODoorO ORead ORead2 ORead3 OTown3 ODeskL ODeskA OCorr OAsk1 OLaw4 OLaw5 OLaw6. -/
import Derived.Test.YtbliehinagkldaaGreatDoorG02
import Derived.Test.YtbliehinagkldaaGreatDoorG03
import Derived.Test.YtbliehinagkldaaGreatDoorG04
import Derived.Test.YtbliehinagkldaaGreatDoorG05
import Derived.Test.YtbliehinagkldaaGreatDoorG06
import Derived.Test.YtbliehinagkldaaGreatDoorG08
import Derived.Shelf.Strings.Builder1
import Derived.Shelf.Strings.Builder2
import Derived.Shelf.Strings.OnBuilder
import Derived.Shelf.Strings.BuilderF
import Derived.Shelf.Strings.BuilderK
import Derived.Shelf.Strings.Builder2Cap
import Derived.Shelf.Strconv.Atoi
import Derived.Shelf.Strconv.Itoa0
import Derived.Shelf.Strconv.Itoa1
import Derived.Shelf.LaysM
import Derived.Shelf.Strconv.Itoa2
import Derived.Shelf.Strconv.Itoa3
import Derived.Shelf.Strconv.AtoiErrFast
import Derived.Shelf.Strconv.ParseIntEmpty
import Derived.Shelf.Strconv.AtoiFail
import Derived.Shelf.Strconv.Clone
import Derived.Shelf.Strconv.SyntaxError
import Derived.Shelf.LaysC
import Derived.Shelf.Strconv.ToError
import Derived.Shelf.Strconv.Lower
import Derived.Shelf.Strconv.ParseUint10
import Derived.Shelf.Strconv.ParseUint10Empty
import Derived.Shelf.Strconv.ParseUint10Any
import Derived.Shelf.Strconv.ParseInt10
import Derived.Shelf.Strconv.AtoiLong
import Derived.Shelf.Strconv.AtoiInnerAll
import Derived.Shelf.Strconv.RangeError
import Derived.Shelf.Strconv.ToErrorRange
import Derived.Shelf.Strconv.AtoiAll
import Derived.Shelf.Strconv.ErrVarAll
import Derived.Shelf.Strings.Search1
import Derived.Shelf.Strings.Search2
import Derived.Shelf.Strings.Search3
import Derived.Shelf.Strings.Count
import Derived.Shelf.Strings.Shaped
import Derived.Shelf.Strings.Prefix
import Derived.Shelf.Strings.Split
import Derived.Shelf.Strings.SplitShaped
import Derived.Shelf.Unicode.DecodeSlow
import Derived.Ground.Names2Prog
import Derived.Shelf.Slices.Clone
import Derived.Test.YtbliehinagkldaaGreatDoorProg
import Derived.Test.YtbliehinagkldaaGreatDoorRows
import Derived.ProofKit
import Derived.LaidMore
import Derived.LaidSub
import Derived.OpenShut
import Derived.Stop.Joined
import Derived.Lib.LaidTab
import Derived.Shelf.Vars
import Derived.Laws.EntriesVeiled

set_option linter.all false
set_option maxRecDepth 100000
set_option maxHeartbeats 16000000
open Go.Lib renaming hid → fe6
open List renaming setIfInBounds_toArray → fe7, set_cons_zero → ff1, set_cons_succ → ff2, getD_eq_getElem?_getD → ff3, length_append → ff4, length_singleton → ff7, length_cons → ff8, nil_append → ff9, getElem?_eq_getElem → fg0, length_nil → fg1, cons_append → fg2, push_toArray → fg3, length_map → fg5, length_take → fg6, take_of_length_le → fg7
open Array renaming replicate_zero → fg8, replicate_succ → fg9
open Nat renaming le_refl → fh0, le_trans → fh1, add_zero → fh2, zero_le → fh3, lt_of_lt_of_le → fh4, ne_of_lt → fh5, reduceAdd → fh6, reduceSub → fh7
namespace Go.Proofs.YtbliehinagkldaaGreatDoor
end Go.Proofs.YtbliehinagkldaaGreatDoor
namespace Go.Proofs
open Go.Shelf
def Tryz.bF6:Go.Shelf.Ren:=⟨fun|156=>148|165=>196|166=>197|169=>198|240=>219|241=>220|276=>241|277=>242|n=>n,fun|31=>33|9=>9|3=>3|4=>4|0=>0|20=>20|72=>260|76=>249|70=>257|37=>258|75=>248|127=>277|164=>291|5=>5|80=>246|n=>n,fun|n=>n⟩
theorem Tryz.cH4:Go.Proofs.Lays.n156 Tryz.prog Tryz.bF6:={
 mixed:=by kernel_rfl
 f156:=Tryz.func148.trans (congrArg some (by kernel_rfl))
 f165:=Tryz.func196.trans (congrArg some (by kernel_rfl))
 f166:=Tryz.func197.trans (congrArg some (by kernel_rfl))
 f169:=Tryz.func198.trans (congrArg some (by kernel_rfl))
 f240:=Tryz.func219.trans (congrArg some (by kernel_rfl))
 f241:=Tryz.func220.trans (congrArg some (by kernel_rfl))
 f276:=Tryz.func241.trans (congrArg some (by kernel_rfl))
 f277:=Tryz.func242.trans (congrArg some (by kernel_rfl))
 t0:=Tryz.underlying0
 a0:=Tryz.isAgg0
 z0:=Tryz.sizeOf0
 v0:=Tryz.zeroValue0
 t3:=Tryz.underlying3
 a3:=Tryz.isAgg3
 z3:=Tryz.sizeOf3
 v3:=Tryz.zeroValue3
 t4:=Tryz.underlying4
 a4:=Tryz.isAgg4
 z4:=Tryz.sizeOf4
 v4:=Tryz.zeroValue4
 t9:=Tryz.underlying9
 a9:=Tryz.isAgg9
 z9:=Tryz.sizeOf9
 v9:=Tryz.zeroValue9
 t20:=Tryz.underlying20
 a20:=Tryz.isAgg20
 z20:=Tryz.sizeOf20
 v20:=Tryz.zeroValue20
 t31:=Tryz.underlying33
 a31:=Tryz.isAgg33
 z31:=Tryz.sizeOf33
 v31:=Tryz.zeroValue33
 t37:=Tryz.underlying258
 a37:=Tryz.isAgg258
 z37:=Tryz.sizeOf258
 v37:=Tryz.zeroValue258
 t70:=Tryz.underlying257
 a70:=Tryz.isAgg257
 z70:=Tryz.sizeOf257
 v70:=Tryz.zeroValue257
 t72:=Tryz.underlying260
 a72:=Tryz.isAgg260
 z72:=Tryz.sizeOf260
 v72:=Tryz.zeroValue260
 t75:=Tryz.underlying248
 a75:=Tryz.isAgg248
 z75:=Tryz.sizeOf248
 v75:=Tryz.zeroValue248
 t76:=Tryz.underlying249
 a76:=Tryz.isAgg249
 z76:=Tryz.sizeOf249
 v76:=Tryz.zeroValue249
 t127:=Tryz.underlying277
 a127:=Tryz.isAgg277
 z127:=Tryz.sizeOf277
 v127:=Tryz.zeroValue277
 t164:=Tryz.underlying291
 a164:=Tryz.isAgg291
 z164:=Tryz.sizeOf291
 v164:=Tryz.zeroValue291}
theorem Tryz.aR8:Builder.Extra Tryz.prog Tryz.bF6:={
 sizeBuilder:=by kernel_rfl
 liesBuilder:=by kernel_rfl
 t5:=Tryz.underlying5
 a5:=Tryz.isAgg5
 z5:=Tryz.sizeOf5
 v5:=Tryz.zeroValue5
 infoByte:=by kernel_rfl
 cellsByte:=by kernel_rfl
 sizeByte:=by kernel_rfl
 neB5:=by decide}
open Go.RowKit in
theorem Tryz.strings_Join_none (a:Option Addr) (c:Nat) (sep:ByteArray) (w:World):
 Calls Tryz.prog 148 #[.slice a 0 c,.string sep] w fun e w'=>e= .returned (.string ⟨#[]⟩)∧w'=w:=Any.strings_Join_none Tryz.cH4 Tryz.aR8 a c sep w
open Go.RowKit in
theorem Tryz.strings_Join (bk o c:Nat) (xs:List ByteArray) (sep:ByteArray) (w:World) (hcells:∀(j:Nat) x,xs[j]? =some x→w.cell? ⟨bk,o+j,none⟩=some (.string x)) (hbk:bk<w.heap.size) (hN:xs.length≤140737488355328) (hcap:xs.length≤c) (hlen:(Lib.join (xs.map (·.data.toList)) sep.data.toList).length≤140737488355328):
 Calls Tryz.prog 148 #[.slice (some ⟨bk,o,none⟩) xs.length c,.string sep] w fun e w'=>e= .returned (.string ⟨(Lib.join (xs.map (·.data.toList)) sep.data.toList).toArray⟩)∧Below w.heap.size w w':=Any.strings_Join Tryz.cH4 Tryz.aR8 bk o c xs sep w hcells hbk hN hcap hlen
def Tryz.ct3:Go.Shelf.Ren:=⟨fun|171=>149|243=>199|246=>221|283=>243|284=>244|285=>245|286=>246|129=>254|317=>253|318=>255|319=>256|320=>257|337=>260|338=>261|n=>n,fun|3=>3|9=>9|2=>2|4=>4|171=>294|0=>0|53=>216|37=>258|5=>5|173=>296|212=>312|51=>214|20=>20|213=>313|46=>103|232=>318|233=>319|n=>n,fun|17=>5|18=>6|19=>7|n=>n⟩
theorem Tryz.du4:Go.Proofs.LaysM.n171 Tryz.prog Tryz.ct3:={
 mixed:=by kernel_rfl
 f129:=Tryz.func254.trans (congrArg some (by kernel_rfl))
 f171:=Tryz.func149.trans (congrArg some (by kernel_rfl))
 f243:=Tryz.func199.trans (congrArg some (by kernel_rfl))
 f246:=Tryz.func221.trans (congrArg some (by kernel_rfl))
 f283:=Tryz.func243.trans (congrArg some (by kernel_rfl))
 f284:=Tryz.func244.trans (congrArg some (by kernel_rfl))
 f285:=Tryz.func245.trans (congrArg some (by kernel_rfl))
 f286:=Tryz.func246.trans (congrArg some (by kernel_rfl))
 f317:=Tryz.func253.trans (congrArg some (by kernel_rfl))
 f318:=Tryz.func255.trans (congrArg some (by kernel_rfl))
 f319:=Tryz.func256.trans (congrArg some (by kernel_rfl))
 f320:=Tryz.func257.trans (congrArg some (by kernel_rfl))
 f337:=Tryz.func260.trans (congrArg some (by kernel_rfl))
 f338:=Tryz.func261.trans (congrArg some (by kernel_rfl))
 t0:=Tryz.underlying0
 a0:=Tryz.isAgg0
 z0:=Tryz.sizeOf0
 v0:=Tryz.zeroValue0
 t2:=Tryz.underlying2
 a2:=Tryz.isAgg2
 z2:=Tryz.sizeOf2
 v2:=Tryz.zeroValue2
 t3:=Tryz.underlying3
 a3:=Tryz.isAgg3
 z3:=Tryz.sizeOf3
 v3:=Tryz.zeroValue3
 t4:=Tryz.underlying4
 a4:=Tryz.isAgg4
 z4:=Tryz.sizeOf4
 v4:=Tryz.zeroValue4
 t5:=Tryz.underlying5
 a5:=Tryz.isAgg5
 z5:=Tryz.sizeOf5
 v5:=Tryz.zeroValue5
 t9:=Tryz.underlying9
 a9:=Tryz.isAgg9
 z9:=Tryz.sizeOf9
 v9:=Tryz.zeroValue9
 t20:=Tryz.underlying20
 a20:=Tryz.isAgg20
 z20:=Tryz.sizeOf20
 v20:=Tryz.zeroValue20
 t37:=Tryz.underlying258
 a37:=Tryz.isAgg258
 z37:=Tryz.sizeOf258
 v37:=Tryz.zeroValue258
 t46:=Tryz.underlying103
 a46:=Tryz.isAgg103
 z46:=Tryz.sizeOf103
 v46:=Tryz.zeroValue103
 t51:=Tryz.underlying214
 a51:=Tryz.isAgg214
 z51:=Tryz.sizeOf214
 v51:=Tryz.zeroValue214
 t53:=Tryz.underlying216
 a53:=Tryz.isAgg216
 z53:=Tryz.sizeOf216
 v53:=Tryz.zeroValue216
 t171:=Tryz.underlying294
 a171:=Tryz.isAgg294
 z171:=Tryz.sizeOf294
 v171:=Tryz.zeroValue294
 t173:=Tryz.underlying296
 a173:=Tryz.isAgg296
 z173:=Tryz.sizeOf296
 v173:=Tryz.zeroValue296
 t212:=Tryz.underlying312
 a212:=Tryz.isAgg312
 z212:=Tryz.sizeOf312
 v212:=Tryz.zeroValue312
 t213:=Tryz.underlying313
 a213:=Tryz.isAgg313
 z213:=Tryz.sizeOf313
 t232:=Tryz.underlying318
 a232:=Tryz.isAgg318
 z232:=Tryz.sizeOf318
 v232:=Tryz.zeroValue318
 t233:=Tryz.underlying319
 a233:=Tryz.isAgg319
 z233:=Tryz.sizeOf319
 v233:=Tryz.zeroValue319
 g17:=by kernel_rfl
 g18:=by kernel_rfl
 g19:=by kernel_rfl
 i0:=by kernel_rfl
 i2:=by kernel_rfl
 i3:=by kernel_rfl
 i4:=by kernel_rfl
 i5:=by kernel_rfl
 i9:=by kernel_rfl
 i20:=by kernel_rfl
 i37:=by kernel_rfl
 i46:=by kernel_rfl
 i51:=by kernel_rfl
 i53:=by kernel_rfl
 i171:=by kernel_rfl
 i173:=by kernel_rfl
 i212:=by kernel_rfl
 i232:=by kernel_rfl
 i233:=by kernel_rfl
 m17:=by kernel_rfl
 m18:=by kernel_rfl
 m19:=by kernel_rfl}
open Go.RowKit Go.Sort Go.Lib in
theorem Tryz.strconv_Itoa (n:Int) (h0: -9223372036854775808≤n) (h1:n≤9223372036854775807) (w:World) (htab:Lib.TabIs Tryz.prog w "internal/strconv.uint64pow10" .u64 Lib.pow10Tab):
 Calls Tryz.prog 149 #[.int .i64 n] w fun e w'=>e= .returned (.string ⟨(Lib.itoa n).toArray⟩)∧∃k os,w'=grow (w.drewN k) os:=Any.strconv_Itoa Tryz.du4 n h0 h1 w htab
def Tryz.ct4:Go.Shelf.Ren:=⟨fun|172=>175|244=>200|245=>201|247=>222|279=>223|280=>224|281=>225|282=>226|287=>247|316=>248|171=>149|205=>249|321=>258|322=>259|243=>199|246=>221|283=>243|284=>244|285=>245|286=>246|129=>254|317=>253|318=>255|319=>256|320=>257|337=>260|338=>261|n=>n,fun|9=>9|3=>3|75=>248|76=>249|4=>4|5=>5|167=>279|37=>258|0=>0|85=>280|2=>2|168=>282|53=>216|175=>298|46=>103|210=>302|127=>277|145=>317|143=>315|21=>21|171=>294|173=>296|212=>312|51=>214|20=>20|213=>313|232=>318|233=>319|80=>246|n=>n,fun|15=>1|16=>2|17=>5|18=>6|19=>7|n=>n⟩
theorem Tryz.bI8:Go.Proofs.LaysC.n172 Tryz.prog Tryz.ct4:={
 mixed:=by kernel_rfl
 f129:=Tryz.func254.trans (congrArg some (by kernel_rfl))
 f171:=Tryz.func149.trans (congrArg some (by kernel_rfl))
 f172:=Tryz.func175.trans (congrArg some (by kernel_rfl))
 f205:=Tryz.func249.trans (congrArg some (by kernel_rfl))
 f243:=Tryz.func199.trans (congrArg some (by kernel_rfl))
 f244:=Tryz.func200.trans (congrArg some (by kernel_rfl))
 f245:=Tryz.func201.trans (congrArg some (by kernel_rfl))
 f246:=Tryz.func221.trans (congrArg some (by kernel_rfl))
 f247:=Tryz.func222.trans (congrArg some (by kernel_rfl))
 f279:=Tryz.func223.trans (congrArg some (by kernel_rfl))
 f280:=Tryz.func224.trans (congrArg some (by kernel_rfl))
 f281:=Tryz.func225.trans (congrArg some (by kernel_rfl))
 f282:=Tryz.func226.trans (congrArg some (by kernel_rfl))
 f283:=Tryz.func243.trans (congrArg some (by kernel_rfl))
 f284:=Tryz.func244.trans (congrArg some (by kernel_rfl))
 f285:=Tryz.func245.trans (congrArg some (by kernel_rfl))
 f286:=Tryz.func246.trans (congrArg some (by kernel_rfl))
 f287:=Tryz.func247.trans (congrArg some (by kernel_rfl))
 f316:=Tryz.func248.trans (congrArg some (by kernel_rfl))
 f317:=Tryz.func253.trans (congrArg some (by kernel_rfl))
 f318:=Tryz.func255.trans (congrArg some (by kernel_rfl))
 f319:=Tryz.func256.trans (congrArg some (by kernel_rfl))
 f320:=Tryz.func257.trans (congrArg some (by kernel_rfl))
 f321:=Tryz.func258.trans (congrArg some (by kernel_rfl))
 f322:=Tryz.func259.trans (congrArg some (by kernel_rfl))
 f337:=Tryz.func260.trans (congrArg some (by kernel_rfl))
 f338:=Tryz.func261.trans (congrArg some (by kernel_rfl))
 t0:=Tryz.underlying0
 a0:=Tryz.isAgg0
 z0:=Tryz.sizeOf0
 v0:=Tryz.zeroValue0
 t2:=Tryz.underlying2
 a2:=Tryz.isAgg2
 z2:=Tryz.sizeOf2
 v2:=Tryz.zeroValue2
 t3:=Tryz.underlying3
 a3:=Tryz.isAgg3
 z3:=Tryz.sizeOf3
 v3:=Tryz.zeroValue3
 t4:=Tryz.underlying4
 a4:=Tryz.isAgg4
 z4:=Tryz.sizeOf4
 v4:=Tryz.zeroValue4
 t5:=Tryz.underlying5
 a5:=Tryz.isAgg5
 z5:=Tryz.sizeOf5
 v5:=Tryz.zeroValue5
 t9:=Tryz.underlying9
 a9:=Tryz.isAgg9
 z9:=Tryz.sizeOf9
 v9:=Tryz.zeroValue9
 t20:=Tryz.underlying20
 a20:=Tryz.isAgg20
 z20:=Tryz.sizeOf20
 v20:=Tryz.zeroValue20
 t21:=Tryz.underlying21
 a21:=Tryz.isAgg21
 z21:=Tryz.sizeOf21
 v21:=Tryz.zeroValue21
 t37:=Tryz.underlying258
 a37:=Tryz.isAgg258
 z37:=Tryz.sizeOf258
 v37:=Tryz.zeroValue258
 t46:=Tryz.underlying103
 a46:=Tryz.isAgg103
 z46:=Tryz.sizeOf103
 v46:=Tryz.zeroValue103
 t51:=Tryz.underlying214
 a51:=Tryz.isAgg214
 z51:=Tryz.sizeOf214
 v51:=Tryz.zeroValue214
 t53:=Tryz.underlying216
 a53:=Tryz.isAgg216
 z53:=Tryz.sizeOf216
 v53:=Tryz.zeroValue216
 t75:=Tryz.underlying248
 a75:=Tryz.isAgg248
 z75:=Tryz.sizeOf248
 v75:=Tryz.zeroValue248
 t76:=Tryz.underlying249
 a76:=Tryz.isAgg249
 z76:=Tryz.sizeOf249
 v76:=Tryz.zeroValue249
 t85:=Tryz.underlying280
 a85:=Tryz.isAgg280
 z85:=Tryz.sizeOf280
 v85:=Tryz.zeroValue280
 t127:=Tryz.underlying277
 a127:=Tryz.isAgg277
 z127:=Tryz.sizeOf277
 v127:=Tryz.zeroValue277
 t143:=Tryz.underlying315
 a143:=Tryz.isAgg315
 z143:=Tryz.sizeOf315
 v143:=Tryz.zeroValue315
 t145:=Tryz.underlying317
 a145:=Tryz.isAgg317
 z145:=Tryz.sizeOf317
 v145:=Tryz.zeroValue317
 t167:=Tryz.underlying279
 a167:=Tryz.isAgg279
 z167:=Tryz.sizeOf279
 v167:=Tryz.zeroValue279
 t168:=Tryz.underlying282
 a168:=Tryz.isAgg282
 z168:=Tryz.sizeOf282
 v168:=Tryz.zeroValue282
 t171:=Tryz.underlying294
 a171:=Tryz.isAgg294
 z171:=Tryz.sizeOf294
 v171:=Tryz.zeroValue294
 t173:=Tryz.underlying296
 a173:=Tryz.isAgg296
 z173:=Tryz.sizeOf296
 v173:=Tryz.zeroValue296
 t175:=Tryz.underlying298
 a175:=Tryz.isAgg298
 z175:=Tryz.sizeOf298
 v175:=Tryz.zeroValue298
 t210:=Tryz.underlying302
 a210:=Tryz.isAgg302
 z210:=Tryz.sizeOf302
 v210:=Tryz.zeroValue302
 t212:=Tryz.underlying312
 a212:=Tryz.isAgg312
 z212:=Tryz.sizeOf312
 v212:=Tryz.zeroValue312
 t213:=Tryz.underlying313
 a213:=Tryz.isAgg313
 z213:=Tryz.sizeOf313
 t232:=Tryz.underlying318
 a232:=Tryz.isAgg318
 z232:=Tryz.sizeOf318
 v232:=Tryz.zeroValue318
 t233:=Tryz.underlying319
 a233:=Tryz.isAgg319
 z233:=Tryz.sizeOf319
 v233:=Tryz.zeroValue319
 g15:=by kernel_rfl
 g16:=by kernel_rfl
 g17:=by kernel_rfl
 g18:=by kernel_rfl
 g19:=by kernel_rfl
 t80:=Tryz.underlying246
 a80:=Tryz.isAgg246
 z80:=Tryz.sizeOf246
 v80:=Tryz.zeroValue246
 i0:=by kernel_rfl
 i2:=by kernel_rfl
 i3:=by kernel_rfl
 i4:=by kernel_rfl
 i5:=by kernel_rfl
 i9:=by kernel_rfl
 i20:=by kernel_rfl
 i21:=by kernel_rfl
 i37:=by kernel_rfl
 i46:=by kernel_rfl
 i51:=by kernel_rfl
 i53:=by kernel_rfl
 i75:=by kernel_rfl
 i76:=by kernel_rfl
 i80:=by kernel_rfl
 i85:=by kernel_rfl
 i127:=by kernel_rfl
 i143:=by kernel_rfl
 i145:=by kernel_rfl
 i167:=by kernel_rfl
 i168:=by kernel_rfl
 i171:=by kernel_rfl
 i173:=by kernel_rfl
 i175:=by kernel_rfl
 i210:=by kernel_rfl
 i212:=by kernel_rfl
 i232:=by kernel_rfl
 i233:=by kernel_rfl
 m15:=by kernel_rfl
 m16:=by kernel_rfl
 m17:=by kernel_rfl
 m18:=by kernel_rfl
 m19:=by kernel_rfl
 c0:=by kernel_rfl
 c2:=by kernel_rfl
 c3:=by kernel_rfl
 c4:=by kernel_rfl
 c5:=by kernel_rfl
 c9:=by kernel_rfl
 c20:=by kernel_rfl
 c21:=by kernel_rfl
 c37:=by kernel_rfl
 c46:=by kernel_rfl
 c51:=by kernel_rfl
 c53:=by kernel_rfl
 c75:=by kernel_rfl
 c76:=by kernel_rfl
 c80:=by kernel_rfl
 c85:=by kernel_rfl
 c127:=by kernel_rfl
 c143:=by kernel_rfl
 c145:=by kernel_rfl
 c167:=by kernel_rfl
 c168:=by kernel_rfl
 c171:=by kernel_rfl
 c173:=by kernel_rfl
 c175:=by kernel_rfl
 c210:=by kernel_rfl
 c212:=by kernel_rfl
 c213:=by kernel_rfl
 c232:=by kernel_rfl
 c233:=by kernel_rfl}
open Go.RowKit in
theorem Tryz.strconv_Atoi_ok (s:ByteArray) (hmax:s.size≤9223372036854775806) (v:Int) (h:Lib.atoiAll s.data.toList= .ok v) (w:World):
 Calls Tryz.prog 175 #[.string s] w fun e w'=>e= .returned (.tuple #[.int .i64 v,.nilIface])∧(w'=w∨∃t,w'=Lib.bytesWorld w 5 t):=Any.strconv_Atoi_ok Tryz.bI8 s hmax v h w
open Go.RowKit in
theorem Tryz.strconv_Atoi_syntax (s:ByteArray) (hlim:s.size≤281474976710656) (h:Lib.atoiAll s.data.toList=Lib.NumEnd.syntax) (ev:Value) (w:World) (hv:w.cell? ⟨1,0,none⟩=some ev) (hev:ev= .nilIface∨∃te pe,ev= .iface te pe):
 Calls Tryz.prog 175 #[.string s] w fun e w'=>∃N,e= .returned (.tuple #[.int .i64 (0),.iface 282 (.pointer (some ⟨N,0,none⟩))])∧w.heap.size≤N∧w'.heap[N]? =some (.cells #[.string ⟨#[65,116,111,105]⟩,.string s,ev] 302 (0,0))∧Below w.heap.size w w':=Any.strconv_Atoi_syntax Tryz.bI8 s hlim h ev w hv hev
open Go.RowKit in
theorem Tryz.strconv_Atoi_range (s:ByteArray) (hlim:s.size≤281474976710656) (h:Lib.atoiAll s.data.toList= .range) (ev:Value) (w:World) (hv:w.cell? ⟨2,0,none⟩=some ev) (hev:ev= .nilIface∨∃te pe,ev= .iface te pe):
 Calls Tryz.prog 175 #[.string s] w fun e w'=>∃N,e= .returned (.tuple #[.int .i64 (Lib.atoiSat s.data.toList),.iface 282 (.pointer (some ⟨N,0,none⟩))])∧w.heap.size≤N∧w'.heap[N]? =some (.cells #[.string ⟨#[65,116,111,105]⟩,.string s,ev] 302 (0,0))∧Below w.heap.size w w':=Any.strconv_Atoi_range Tryz.bI8 s hlim h ev w hv hev
def Tryz.cC0:Go.Shelf.Ren:=⟨fun|101=>176|208=>202|206=>227|n=>n,fun|9=>9|4=>4|3=>3|n=>n,fun|n=>n⟩
theorem Tryz.dJ1:Go.Proofs.Lays.n101 Tryz.prog Tryz.cC0:={
 mixed:=by kernel_rfl
 f101:=Tryz.func176.trans (congrArg some (by kernel_rfl))
 f206:=Tryz.func227.trans (congrArg some (by kernel_rfl))
 f208:=Tryz.func202.trans (congrArg some (by kernel_rfl))
 t3:=Tryz.underlying3
 a3:=Tryz.isAgg3
 z3:=Tryz.sizeOf3
 v3:=Tryz.zeroValue3
 t4:=Tryz.underlying4
 a4:=Tryz.isAgg4
 z4:=Tryz.sizeOf4
 v4:=Tryz.zeroValue4
 t9:=Tryz.underlying9
 a9:=Tryz.isAgg9
 z9:=Tryz.sizeOf9
 v9:=Tryz.zeroValue9}
open Go.RowKit Go.Lib in
theorem Tryz.strings_TrimPrefix (s p:ByteArray) (w:World):
 Calls Tryz.prog 176 #[.string s,.string p] w fun e w'=>e= .returned (.string ⟨(Lib.trimPrefix s.data.toList p.data.toList).toArray⟩)∧w'=w:=Any.strings_TrimPrefix Tryz.dJ1 s p w
def Tryz.cC1:Go.Shelf.Ren:=⟨fun|146=>117|221=>147|268=>193|138=>194|143=>195|195=>215|197=>216|218=>217|219=>218|260=>236|217=>237|225=>238|224=>239|267=>240|266=>251|314=>252|n=>n,fun|9=>9|31=>33|3=>3|4=>4|0=>0|105=>274|21=>21|5=>5|46=>103|119=>305|139=>308|138=>307|146=>309|51=>214|n=>n,fun|1=>0|3=>3|4=>4|n=>n⟩
theorem Tryz.dJ2:Go.Proofs.Lays.n146 Tryz.prog Tryz.cC1:={
 mixed:=by kernel_rfl
 f138:=Tryz.func194.trans (congrArg some (by kernel_rfl))
 f143:=Tryz.func195.trans (congrArg some (by kernel_rfl))
 f146:=Tryz.func117.trans (congrArg some (by kernel_rfl))
 f195:=Tryz.func215.trans (congrArg some (by kernel_rfl))
 f197:=Tryz.func216.trans (congrArg some (by kernel_rfl))
 f217:=Tryz.func237.trans (congrArg some (by kernel_rfl))
 f218:=Tryz.func217.trans (congrArg some (by kernel_rfl))
 f219:=Tryz.func218.trans (congrArg some (by kernel_rfl))
 f221:=Tryz.func147.trans (congrArg some (by kernel_rfl))
 f224:=Tryz.func239.trans (congrArg some (by kernel_rfl))
 f225:=Tryz.func238.trans (congrArg some (by kernel_rfl))
 f260:=Tryz.func236.trans (congrArg some (by kernel_rfl))
 f266:=Tryz.func251.trans (congrArg some (by kernel_rfl))
 f267:=Tryz.func240.trans (congrArg some (by kernel_rfl))
 f268:=Tryz.func193.trans (congrArg some (by kernel_rfl))
 f314:=Tryz.func252.trans (congrArg some (by kernel_rfl))
 t0:=Tryz.underlying0
 a0:=Tryz.isAgg0
 z0:=Tryz.sizeOf0
 v0:=Tryz.zeroValue0
 t3:=Tryz.underlying3
 a3:=Tryz.isAgg3
 z3:=Tryz.sizeOf3
 v3:=Tryz.zeroValue3
 t4:=Tryz.underlying4
 a4:=Tryz.isAgg4
 z4:=Tryz.sizeOf4
 v4:=Tryz.zeroValue4
 t5:=Tryz.underlying5
 a5:=Tryz.isAgg5
 z5:=Tryz.sizeOf5
 v5:=Tryz.zeroValue5
 t9:=Tryz.underlying9
 a9:=Tryz.isAgg9
 z9:=Tryz.sizeOf9
 v9:=Tryz.zeroValue9
 t21:=Tryz.underlying21
 a21:=Tryz.isAgg21
 z21:=Tryz.sizeOf21
 v21:=Tryz.zeroValue21
 t31:=Tryz.underlying33
 a31:=Tryz.isAgg33
 z31:=Tryz.sizeOf33
 v31:=Tryz.zeroValue33
 t46:=Tryz.underlying103
 a46:=Tryz.isAgg103
 z46:=Tryz.sizeOf103
 v46:=Tryz.zeroValue103
 t51:=Tryz.underlying214
 a51:=Tryz.isAgg214
 z51:=Tryz.sizeOf214
 v51:=Tryz.zeroValue214
 t105:=Tryz.underlying274
 a105:=Tryz.isAgg274
 z105:=Tryz.sizeOf274
 v105:=Tryz.zeroValue274
 t119:=Tryz.underlying305
 a119:=Tryz.isAgg305
 z119:=Tryz.sizeOf305
 t138:=Tryz.underlying307
 a138:=Tryz.isAgg307
 z138:=Tryz.sizeOf307
 v138:=Tryz.zeroValue307
 t139:=Tryz.underlying308
 a139:=Tryz.isAgg308
 z139:=Tryz.sizeOf308
 v139:=Tryz.zeroValue308
 t146:=Tryz.underlying309
 a146:=Tryz.isAgg309
 z146:=Tryz.sizeOf309
 v146:=Tryz.zeroValue309
 g1:=by kernel_rfl
 g3:=by kernel_rfl
 g4:=by kernel_rfl}
open Go.RowKit Go.Lib in
theorem Tryz.strings_Split (s sep:ByteArray) (m:Int) (w:World) (hs:s.size<4294967281) (hm:w.cell? ⟨0,0,none⟩=some (.int .i64 m)) (h1:1≤sep.size):
 Calls Tryz.prog 117 #[.string s,.string sep] w fun e w'=>
  e= .returned (.slice (some ⟨w.heap.size,0,none⟩) (Lib.countB s sep+1) (Lib.countB s sep+1))∧w'=w.alloc (.cells ((Lib.splitB sep 0 (Lib.countB s sep) s).map Value.string).toArray 9):=Any.strings_Split Tryz.dJ2 (by kernel_rfl) s sep m w hs hm h1
end Go.Proofs
namespace Go.Proofs.YtbliehinagkldaaGreatDoor
section
open Go.RowKit
attribute [local go_sem] j4.drew j4.alloc j4.drewN WB.holds Oper.semAt_some
structure Doors (H:j5):Prop where
 m:∃z T fr,H 0=some (.cells #[.int .i64 z] T fr)
 s:∃tp p T fr,H 1=some (.cells #[.iface tp p] T fr)
 r:∃tp p T fr,H 2=some (.cells #[.iface tp p] T fr)
 t:∃T fr,H 5=some (.cells (Lib.pow10Tab.map fun z=>Value.int .u64 z).toArray T fr)
theorem Doors.mono {H H':j5} (k:D8 H H') (d:Doors H):Doors H':=
 ⟨let ⟨z,T,fr,h⟩:=d.m;⟨z,T,fr,k _ _ h⟩,let ⟨tp,p,T,fr,h⟩:=d.s;⟨tp,p,T,fr,k _ _ h⟩,let ⟨tp,p,T,fr,h⟩:=d.r;⟨tp,p,T,fr,k _ _ h⟩,let ⟨T,fr,h⟩:=d.t;⟨T,fr,k _ _ h⟩⟩
theorem below_grow {w:World} (k:Nat) (os:Array Obj):Below w.heap.size w (Sort.grow (w.drewN k) os):=by
 refine⟨rfl,rfl,rfl, ?_,fun b hb=> ?_⟩
 ·show _≤(w.heap++os).size;rw[Array.size_append];omega
 ·show(w.heap++os)[b]? =_;rw[Array.getElem?_append_left hb]
theorem ap8 (n:Int) (hn:K8 n) (H:j5) (d:Doors H) (w:World) (hw:j4 H w):Calls Tryz.prog 149 #[.int .i64 n] w (I1 w (.string (G6 n))):=by
 obtain⟨T,fr,h⟩:=d.t
 have ht:Lib.TabIs Tryz.prog w "internal/strconv.uint64pow10" .u64 Lib.pow10Tab:=by
  unfold Lib.TabIs World.var?
  rw[show Tryz.prog.globalNamed "internal/strconv.uint64pow10" =some 5 by kernel_rfl]
  simp only[Option.bind_some,hw.at_ _ _ h]
 refine(Tryz.strconv_Itoa n hn.1 hn.2 w ht).mono ?_
 rintro e w' ⟨rfl,k,os,rfl⟩
 exact⟨rfl,below_grow k os⟩
theorem cC2 (w:World) (t:TypeId) (s:ByteArray):Below w.heap.size w (Lib.bytesWorld w t s):=
 Lib.bytesWorld_below w t s
theorem bI9 {s:ByteArray} {v:Int} (h:Lib.atoiAll (C8 s)= .ok v) (hs:s.size≤140737488355328) (w:World):Calls Tryz.prog 175 #[.string s] w (I1 w (.tuple #[.int .i64 v,.nilIface])):=by
 refine(Tryz.strconv_Atoi_ok s (by omega) v h w).mono ?_
 rintro e w' ⟨rfl,(rfl|⟨t,rfl⟩)⟩
 ·exact⟨rfl,Below.refl _ _⟩
 ·exact⟨rfl,cC2 _ _ _⟩
def AtoiErr (w:World) (e:Ending) (w':World):Prop:=∃n T p,e= .returned (.tuple #[.int .i64 n,.iface T (.pointer p)])∧Below w.heap.size w w'
theorem dg9 {s:ByteArray} (h:Lib.atoiAll (C8 s)=Lib.NumEnd.syntax) (hs:s.size≤140737488355328) (H:j5) (d:Doors H) (w:World) (hw:j4 H w):Calls Tryz.prog 175 #[.string s] w (AtoiErr w):=by
 obtain⟨tp,p,T,fr,hd⟩:=d.s
 refine(Tryz.strconv_Atoi_syntax s (by omega) h (.iface tp p) w (D7 hd hw 0) (.inr ⟨tp,p,rfl⟩)).mono ?_
 rintro e w' ⟨N,rfl,_,_,hb⟩
 exact⟨_,_,_,rfl,hb⟩
theorem dh0 {s:ByteArray} (h:Lib.atoiAll (C8 s)= .range) (hs:s.size≤140737488355328) (H:j5) (d:Doors H) (w:World) (hw:j4 H w):Calls Tryz.prog 175 #[.string s] w (AtoiErr w):=by
 obtain⟨tp,p,T,fr,hd⟩:=d.r
 refine(Tryz.strconv_Atoi_range s (by omega) h (.iface tp p) w (D7 hd hw 0) (.inr ⟨tp,p,rfl⟩)).mono ?_
 rintro e w' ⟨N,rfl,_,_,hb⟩
 exact⟨_,_,_,rfl,hb⟩
theorem cd0 (s:ByteArray) (w:World):Calls Tryz.prog 176 #[.string s,.string ⟨#[45]⟩] w fun e w'=>e= .returned (.string (J8 (ar2 (C8 s))))∧w=w':=by
 refine(Tryz.strings_TrimPrefix s ⟨#[45]⟩ w).mono ?_
 rintro e w' ⟨rfl,rfl⟩
 refine⟨?_,rfl⟩
 show Ending.returned (.string ⟨(Lib.trimPrefix (C8 s) [45]).toArray⟩)=_
 rw[cN4];rfl
theorem dJ3 {a b:ByteArray} (h:¬a=b):(a.toList==b.toList)=false:=by
 rw[ByteArray.toList_eq,ByteArray.toList_eq,beq_eq_false_iff_ne]
 intro e
 apply h
 cases a;cases b
 simp only[ByteArray.mk.injEq]
 exact Array.ext' e
def V9 (w:World) (H:j5) (p:List ByteArray) (e:Ending) (w':World):Prop:=match T9 p with
 |some ns=>∃v H',e= .returned (.tuple #[v,.bool true])∧Ext w H w' H'∧Own H' w.heap.size w' 3 v ns
 |none=>e= .returned (.tuple #[.slice none 0 0,.bool false])∧Below w.heap.size w w'
theorem U5 (va:Value) (p:List ByteArray) (hl:p.length≤100000) (H:j5) (d:Doors H) (w:World) (hw:j4 H w) (ha:Sl H va p):
 Calls Tryz.prog 123 #[va] w (V9 w H p):=by
 obtain⟨aa,ca,rfl,ha1,ha2⟩:=ha.form
 go_enter Tryz.func123,Tryz.ntmps123
 go_upto_region 2 with fail
 go_wp2
 go_loopw [2,10] (fun v i wr=>∃(k:Nat) (ns:List Int),k≤p.length∧i= .int .i64 (k:Int)∧Hid (T9 (p.take k)=some ns)∧Ext w H wr H∧Own H w.heap.size wr 3 v ns) (fun _ i _=>p.length-(intOf i).toNat)
 case atStart=>exact⟨0,[],fh3 _,rfl,fe6 rfl,Ext.refl hw,Own.nil _ _ _ _⟩
 case round=>
  obtain⟨k,ns,hk,rfl,hns,xr,oo⟩:=hrel
  have hwr:=xr.holds
  have hk0:(0:Int)≤(k:Int):=by omega
  by_cases hlk:k<p.length
  ·obtain⟨s,hs⟩:=At.mk hlk
   obtain⟨b,o,c,he,hss,r1⟩:=ha.str hs
   cases he
   have hk1:(k:Int)<(p.length:Int):=by omega
   have hsz:s.size≤140737488355328:=hss
   have hr0:True:=trivial
   rcases dH8 s with⟨v,hnu,hat,hvi,ht,h6⟩|⟨hno,hat⟩|⟨hno,hat⟩|⟨v,hno,hat,hvi,ht⟩|⟨v,hno,hat,hvi,ht,h6⟩
   ·have cA:=bI9 hat hsz wr
    have cI:=fun(W:World) (hW:j4 H W)=>ap8 v hvi H d W hW
    rw[ht]at cI
    have cT:=fun(W:World)=>cd0 s W
    obtain⟨T,hT,hT6⟩:∃T,J8 (ar2 (C8 s))=T∧¬(6:Int)<(T.size:Int):=⟨_,rfl,by show ¬(6:Int)<((ar2 (C8 s)).length:Int);omega⟩
    rw[hT]at cT
    have ew6:=fe6 (bL7 hs hns.out hnu)
    have hnl:ns.length≤100000:=by have:=(ax2 hns.out).2;rw[fg6]at this;omega
    replace cA:=fe6 cA
    replace cI:=fe6 cI
    replace cT:=fe6 cT
    replace hnl:=fe6 hnl
    clear hT h6 ht hat hnu hs hns hsz hss
    obtain⟨av,cv,rfl,_,_⟩:=oo.form
    go_wp2_with(first|((at_builtin;refine bs2 ag8 _ _ x2 o2 v hvi (by have:=hnl.out;omega) rfl rfl rfl rfl ?_;intro v5 w5 o5 x5 hw5))|((go_at_call 149;refine(cI.out _ hw2).mono ?_;rintro e w3 ⟨rfl,hb3⟩;replace x2:=x2.step (hb3.mono x2.below.size) (hw2.below hb3);have hw3:=x2.holds;replace o2:=o2.az2 hb3))|((go_at_call 176;refine(cT.out _).mono ?_;rintro e w' ⟨rfl,rfl⟩))|((have hgd:=hr0;clear hgd;go_at_call 175;go_must (refine cA.out.mono ?_);rintro e w2 ⟨rfl,hb2⟩;have x2:=xr.step (hb2.mono xr.below.size) (hwr.below hb2);have hw2:=x2.holds;have o2:=oo.az2 hb2)))
    obtain⟨a5,c5,rfl,_,_⟩:=o5.form
    go_roundw
    case rel=>exact⟨k+1,ns++[v],hlk,by go_num,ew6,x5,o5⟩
    case measure=>simp[intOf];omega
   ·have cA:=dg9 hat hsz H d wr hwr
    replace cA:=fe6 cA
    clear hat hsz hss oo hns
    go_wp2_with(first|((have hgd:=hr0;clear hgd;go_at_call 175;go_must (refine cA.out.mono ?_);rintro e w2 ⟨n0,T0,p0,rfl,hb2⟩;have x2:=xr.step (hb2.mono xr.below.size) (hwr.below hb2);have hw2:=x2.holds)))
    go_ret2
    unfold V9
    rw[aP5 hs hno]
    exact⟨rfl,x2.below⟩
   ·have cA:=dh0 hat hsz H d wr hwr
    replace cA:=fe6 cA
    clear hat hsz hss oo hns
    go_wp2_with(first|((have hgd:=hr0;clear hgd;go_at_call 175;go_must (refine cA.out.mono ?_);rintro e w2 ⟨n0,T0,p0,rfl,hb2⟩;have x2:=xr.step (hb2.mono xr.below.size) (hwr.below hb2);have hw2:=x2.holds)))
    go_ret2
    unfold V9
    rw[aP5 hs hno]
    exact⟨rfl,x2.below⟩
   ·have cA:=bI9 hat hsz wr
    have cI:=fun(W:World) (hW:j4 H W)=>ap8 v hvi H d W hW
    have hne:=dJ3 ht
    generalize G6 v=u at*
    replace cA:=fe6 cA
    replace cI:=fe6 cI
    clear ht hat hsz hss oo hns
    go_wp2_with(first|((go_at_call 149;refine(cI.out _ hw2).mono ?_;rintro e w3 ⟨rfl,hb3⟩;replace x2:=x2.step (hb3.mono x2.below.size) (hw2.below hb3);have hw3:=x2.holds))|((have hgd:=hr0;clear hgd;go_at_call 175;go_must (refine cA.out.mono ?_);rintro e w2 ⟨rfl,hb2⟩;have x2:=xr.step (hb2.mono xr.below.size) (hwr.below hb2);have hw2:=x2.holds)))
    go_ret2
    unfold V9
    rw[aP5 hs hno]
    exact⟨rfl,x2.below⟩
   ·have cA:=bI9 hat hsz wr
    have cI:=fun(W:World) (hW:j4 H W)=>ap8 v hvi H d W hW
    rw[ht]at cI
    have cT:=fun(W:World)=>cd0 s W
    obtain⟨T,hT,hT6⟩:∃T,J8 (ar2 (C8 s))=T∧(6:Int)<(T.size:Int):=⟨_,rfl,by show(6:Int)<((ar2 (C8 s)).length:Int);omega⟩
    rw[hT]at cT
    replace cA:=fe6 cA
    replace cI:=fe6 cI
    replace cT:=fe6 cT
    clear hT h6 ht hat hsz hss oo hns
    go_wp2_with(first|((go_at_call 149;refine(cI.out _ hw2).mono ?_;rintro e w3 ⟨rfl,hb3⟩;replace x2:=x2.step (hb3.mono x2.below.size) (hw2.below hb3);have hw3:=x2.holds))|((go_at_call 176;refine(cT.out _).mono ?_;rintro e w' ⟨rfl,rfl⟩))|((have hgd:=hr0;clear hgd;go_at_call 175;go_must (refine cA.out.mono ?_);rintro e w2 ⟨rfl,hb2⟩;have x2:=xr.step (hb2.mono xr.below.size) (hwr.below hb2);have hw2:=x2.holds)))
    go_ret2
    unfold V9
    rw[aP5 hs hno]
    exact⟨rfl,x2.below⟩
  ·have hk1:¬(k:Int)<(p.length:Int):=by omega
   have hn:T9 p=some ns:=by have:=hns.out;rwa [fg7 (by omega)]at this
   go_wp2_with fail
   go_ret2
   unfold V9
   rw[hn]
   exact⟨_,H,rfl,xr,oo⟩
end
section
open Go.ChangeShapes Go.WideShapes Go.ChangeAt Go.RowKit
def aw0:List (String × DataW Unit):=[("math/bits.deBruijn32tab",Rows.laid_math_bits_deBruijn32tab),("math/bits.deBruijn64tab",Rows.laid_math_bits_deBruijn64tab),("internal/strconv.uint64pow10",Rows.laid_internal_strconv_uint64pow10),("unicode/utf8.acceptRanges",Rows.laid_unicode_utf8_acceptRanges),("strconv.ErrRange",Rows.laid_strconv_ErrRange),("strconv.ErrSyntax",Rows.laid_strconv_ErrSyntax),("unicode/utf8.first",Rows.laid_unicode_utf8_first)]
theorem cH6 {W:World} {n:String} {g:Nat} {cs:Array Value} (hg:Tryz.prog.globalNamed n=some g) (h:W.var? Tryz.prog n=some cs):∃T fr,W.heap[g]? =some (.cells cs T fr):=by
 unfold World.var? at h
 rw[hg]at h
 simp only[Option.bind_some]at h
 split at h
 ·next c t fr hb=>
  have:c=cs:=by simpa using h
  subst this
  exact⟨_,_,hb⟩
 ·cases h
theorem bJ0 {W:World} (h:laidMetH Tryz.prog aw0 W) (n:String) {d:DataW Unit} (he:(aw0.filter fun x=>x.1==n)=[(n,d)]):laidMetH Tryz.prog [(n,d)] W:=by
 have:=laidMetH.filter (fun x=>x.1==n) h
 rw[he]at this
 exact this
theorem dh1 {W:World} {n:String} {d:DataW Unit} (hp:d.handleName?=none) (h:laidMetH Tryz.prog [(n,d)] W):
 ∃g t cs fuel p,Tryz.prog.globalNamed n=some g∧(Tryz.prog.globals[g]?).map (·.type)=some t∧W.var? Tryz.prog n=some cs∧DataW.trod (fun _=>()) Tryz.prog W 0 (fun _=>true) false fuel t cs.toList=some (d,p):=by
 have h:laidMet Tryz.prog [(n,d)] W:=by simpa [laidMetH,hp]using h
 obtain⟨_,⟨g,t,cs,fuel,p,q,h1,h2,h3,h4,_⟩,_⟩:=h
 exact⟨g,t,cs,fuel,p,h1,h2,h3,h4⟩
theorem dU7:Tryz.prog.globalNamed "internal/strconv.uint64pow10" =some 5:=by kernel_rfl
theorem ew7:Tryz.prog.globalNamed "strconv.ErrSyntax" =some 1:=by kernel_rfl
theorem ew8:Tryz.prog.globalNamed "strconv.ErrRange" =some 2:=by kernel_rfl
theorem ew9:(Tryz.prog.globals[1]?).map (·.type)=some 248:=by kernel_rfl
theorem ex0:(Tryz.prog.globals[2]?).map (·.type)=some 248:=by kernel_rfl
theorem ex1:(Tryz.prog.globals[5]?).map (·.type)=some 312:=by kernel_rfl
theorem cH7 {W:World} {n:String} {g:Nat} {text:List UInt8} {ms:Array (String × TypeId)} (hu:Tryz.prog.underlying 248=some (.interface ms)) (hg:Tryz.prog.globalNamed n=some g) (ht:(Tryz.prog.globals[g]?).map (·.type)=some 248)
 (h:laidMetH Tryz.prog [(n,DataW.iface "*errors.errorString" (.ptr (.agg [.lit (.string text)])))] W):∃tp p T fr,ad6 W g=some (.cells #[.iface tp p] T fr):=by
 obtain⟨g',t,cs,fuel,p,h1,h2,h3,h4⟩:=dh1 rfl h
 obtain rfl:g'=g:=Option.some.inj (h1.symm.trans hg)
 obtain rfl:t=248:=Option.some.inj (h2.symm.trans ht)
 obtain⟨_,u,v,e,_,_⟩:=iface_of_trod hu h4
 obtain rfl:cs= #[.iface u v]:=by cases cs;simp_all
 obtain⟨T,fr,hb⟩:=cH6 hg h3
 exact⟨u,v,T,fr,hb⟩
theorem bm2 {W:World} (h:laidMetH Tryz.prog aw0 W) (hs:W.ShapedOpen Tryz.prog):Doors (ad6 W):=by
 refine⟨?_,cH7 Tryz.underlying248 ew7 ew9 (bJ0 h "strconv.ErrSyntax" (by rfl)),cH7 Tryz.underlying248 ew8 ex0 (bJ0 h "strconv.ErrRange" (by rfl)), ?_⟩
 ·obtain⟨cs,hh,hz,_⟩:=hs.1 0 #[.int .i64 0] 3 (of_decide_eq_true (by kernel_rfl)) (by kernel_rfl)
  obtain⟨m,hm⟩:=cell_of_shapedOpen_int (g:=0) (t:=3) (zero:= #[.int .i64 0]) (k:= .i64) hs (of_decide_eq_true (by kernel_rfl)) (by kernel_rfl) rfl (by kernel_rfl) (by kernel_rfl) Tryz.underlying3
  have h1:0<cs.size:=by rw[hz];decide
  have h2:cs[0]? =some (.int .i64 m):=by rw[←hm];simp[World.cell?,hh]
  have h3:cs= #[.int .i64 m]:=by
   cases cs with
   |mk l=>
    match l,hz,h2 with
    |[a],_,h2=>simp at h2;rw[h2]
  exact⟨m,_,_,by rw[←h3];exact hh⟩
 ·have ht:Lib.TabIs Tryz.prog W "internal/strconv.uint64pow10" .u64 Lib.pow10Tab:=
   Lib.tabIs_of_head (rest:=[]) dU7 ex1 Tryz.underlying312 Tryz.underlying216 (by kernel_rfl) (by kernel_rfl) (by have h1:=bJ0 h "internal/strconv.uint64pow10" (d:=Lib.tabData .u64 Lib.pow10Tab) (by rfl);simpa [laidMetH,show(Lib.tabData (H:=Unit) .u64 Lib.pow10Tab).handleName?=none from rfl]using h1)
  obtain⟨T,fr,hb⟩:=cH6 dU7 ht
  exact⟨T,fr,hb⟩
def firstCells:Array Value:=(match Go.Pinned.utf8First with
 | .agg ds=>ds.map fun(d:DataW Unit)=>(match d with|DataW.lit (Lit.int k x)=>Value.int k x|_=>undef)
 |_=>[]).toArray
noncomputable def bB1 (os:Os):World:={World.doorLaid Tryz.prog 400 os with heap:=(World.doorLaid Tryz.prog 400 os).heap.setIfInBounds 3 (.cells firstCells 305 (0,0))}
set_option maxRecDepth 100000
theorem bm3 (os:Os) (args:Array Value):laidMetH Tryz.prog aw0 ((bB1 os).forCall (fun _ _=>0) ⟨#[],args,[]⟩).memory:=
 laidMetH_of_parts3 (fuel:=8) (laidMet_of_run' 8 (by kernel_rfl) (by kernel_rfl)) (by kernel_rfl) (by kernel_rfl)
theorem aO5 (os:Os) (args:Array Value):((bB1 os).forCall (fun _ _=>0) ⟨#[],args,[]⟩).Shaped Tryz.prog:=World.shaped_of_RefB (by kernel_rfl) (by kernel_rfl)
end
section
open Go.RowKit
attribute [local go_sem] j4.drew j4.alloc j4.drewN WB.holds Oper.semAt_some
theorem bw5 (va:Value) (p:List ByteArray) (hl:p.length≤100000) (hz:(J9 p).size≤100000) (H:j5) (w:World) (hw:j4 H w) (ha:Sl H va p):Calls Tryz.prog 148 #[va,.string ⟨#[32]⟩] w (I1 w (.string (J9 p))):=by
 by_cases hn:p=[]
 ·subst hn
  obtain⟨a,c,rfl,_,_⟩:=ha.form
  refine(Tryz.strings_Join_none a c ⟨#[32]⟩ w).mono ?_
  rintro e w' ⟨rfl,rfl⟩
  exact⟨rfl,Below.refl _ _⟩
 ·obtain⟨s,hs⟩:=At.mk (List.length_pos_iff.2 hn)
  obtain⟨b,o,c,rfl,_,_⟩:=ha.str hs
  have hcap:p.length≤c:=by obtain⟨_,_,e,h1,_⟩:=ha.form;cases e;exact h1
  have hb:b<w.heap.size:=by
   obtain⟨_,_,e,_,_,_,hor⟩:=ha
   cases e
   rcases hor with h|⟨b',o',cur,e,fr,ha,hb,_⟩
   ·exact absurd h hn
   ·cases ha;exact hw.lt hb
  have hj:(Lib.join (p.map (·.data.toList)) (ByteArray.data ⟨#[32]⟩).toList)=joinL (p.map C8):=ca9 _
  refine(Tryz.strings_Join b o c p ⟨#[32]⟩ w (fun j x hx=> ?_) hb (by omega) hcap (by
   rw[hj]
   rw[aU7]at hz
   show _≤_
   have:(joinL (p.map C8)).length≤100000:=hz
   omega)).mono ?_
  ·obtain⟨b',o',c',e,_,hr⟩:=ha.str (show At p j x from hx)
   cases e
   exact hr w hw
  ·rintro e w' ⟨rfl,hb⟩
   refine⟨?_,hb⟩
   rw[hj,aU7];rfl
def P9 (w:World) (H:j5) (p:List ByteArray) (e:Ending) (w':World):Prop:=
 if(A7 p).kind=1 then ∃fv H',e= .returned (.tuple #[.agg #[.string (J9 p),fv],.bool true])∧Ext w H w' H'∧cq6 H' fv (A7 p).word (A7 p).nums
 else e= .returned (.tuple #[.agg #[.string ⟨#[]⟩,.nilFunc],.bool false])∧Below w.heap.size w w'
end
section
open Go.RowKit
attribute [local go_sem] j4.drew j4.alloc j4.drewN WB.holds Oper.semAt_some
structure ao9 (R:Nat) (T:TypeId) (w:World) (a b:Value):Prop where
 at_:w.heap[R]? =some (.cells #[a,b] T (0,0))
section
variable {R:Nat} {T:TypeId} {w w':World} {a b:Value}
theorem ao9.cells (r:ao9 R T w a b):w.cell? ⟨R,0,none⟩=some a∧w.cell? ⟨R,1,none⟩=some b∧∀i,w.frozen? ⟨R,i,none⟩=false:=by
 refine⟨?_, ?_,fun i=>Lib.frozen_of_heap r.at_ i⟩<;>(rw[Lib.cell_of_heap r.at_];rfl)
theorem ao9.set (r:ao9 R T w a b) (a' b':Value):ao9 R T ((w.setCell ⟨R,0,none⟩ a').setCell ⟨R,1,none⟩ b') a' b':=by
 have:=M7 (i:=1) (M7 (i:=0) r.at_ a') b'
 simp only[fe7,ff1,ff2]at this
 exact⟨this⟩
theorem ao9.set1 (r:ao9 R T w a b) (b':Value):ao9 R T (w.setCell ⟨R,1,none⟩ b') a b':=by
 have:=M7 (i:=1) r.at_ b'
 simp only[fe7,ff1,ff2]at this
 exact⟨this⟩
theorem ao9.other (r:ao9 R T w a b) {g:Nat} (i:Nat) (u:Value) (hg:g≠R):ao9 R T (w.setCell ⟨g,i,none⟩ u) a b:=⟨(heap_setCell_other w ⟨g,i,none⟩ R u (Ne.symm hg)).trans r.at_⟩
theorem ao9.below (r:ao9 R T w a b) {n:Nat} (hb:Below n w w') (hn:R<n):ao9 R T w' a b:=⟨(hb.block R hn).trans r.at_⟩
theorem ao9.lt (r:ao9 R T w a b):R<w.heap.size:=(Array.getElem?_eq_some_iff.1 r.at_).1
theorem ao9.alloc (r:ao9 R T w a b) (o:Obj):ao9 R T (w.alloc o) a b:=⟨(heap_alloc_old w o r.lt).trans r.at_⟩
theorem Ext.set2 {w0:World} {H0 H:j5} (x:Ext w0 H0 w H) (hR:w0.heap.size≤R) (hH:H R=none) (a' b':Value):Ext w0 H0 ((w.setCell ⟨R,0,none⟩ a').setCell ⟨R,1,none⟩ b') H:=
 (x.setCell (a:=⟨R,0,none⟩) hR hH a').setCell (a:=⟨R,1,none⟩) hR hH b'
end
theorem cT7 (va:Value) (s:ByteArray) (q:List ByteArray) (hl:q.length≤1000) (H:j5) (d:Doors H) (w:World) (hw:j4 H w) (ha:Sl H va (s::q)) (hn:T9 q=none):
 Calls Tryz.prog 118 #[va] w (P9 w H (s::q)):=by
 obtain⟨b,o,c,rfl,hss,r0⟩:=ha.str (show At (s::q) 0 s from rfl)
 have hcap:q.length+1≤c:=by obtain⟨_,_,e,h1,_⟩:=ha.form;cases e;exact h1
 have hcI:(1:Int)≤(c:Int):=by omega
 have hq0:(1:Int)≤((q.length:Int)+1):=by omega
 have hq1:((q.length:Int)+1)≤(c:Int):=by omega
 obtain⟨aT,Z7⟩:∃aT,(if c=1 then some (⟨b,o,none⟩:Addr)else some ⟨b,o+1,none⟩)=aT:=⟨_,rfl⟩
 have hsT:=ax8 rfl ha Z7
 have F5:=fun(H1:j5) (hle:D8 H H1) (W:World) (hW:j4 H1 W)=>U5 _ q (by omega) H1 (d.mono hle) W hW (hsT.mono hle)
 unfold V9 at F5
 rw[hn]at F5
 have hk:(A7 (s::q)).kind≠1:=by rw[aN9 (p:=s::q) hn];decide
 unfold P9
 simp only[if_neg hk]
 replace F5:=fe6 F5
 clear hn hk ha hsT d
 go_enter Tryz.func118,Tryz.ntmps118
 go_upto_region 1 with(refine u7 rfl _ rfl (Ext.refl hw) ?_;intro B w1 H1 hle hx hB hBw)
 have hb0:∀W,j4 H1 W→W.cell? ⟨B,0,none⟩=some (.slice (some ⟨b,o,none⟩) (q.length+1) c):=fun W hW=>D7 hB hW 0
 have hw1:=hx.holds
 have rz:ao9 w1.heap.size 145 (w1.alloc (.cells #[.string ⟨#[]⟩,.nilFunc] 145)) _ _:=⟨heap_alloc_new w1 _⟩
 have xa:=hx.alloc (.cells #[.string ⟨#[]⟩,.nilFunc] 145)
 have hRH:H1 w1.heap.size=none:=hw1.D6 (fh0 _)
 have hRb:w.heap.size≤w1.heap.size:=hx.below.size
 have hRl:=rz.lt
 go_wp2_with(go_at_call 123;refine(F5.out H1 hle _ (hw1.alloc _)).mono ?_;rintro e w2 ⟨rfl,hb2⟩;have r2:=(rz.below hb2 hRl).alloc (.cells #[.slice none 0 0] 24);obtain⟨z0,z1,zf⟩:=r2.cells)
 (try simp only[Exit.inBlock,Exit.then])
 refine bodyPost_ret (N8 rfl _ _ w1.heap.size 145 _ (0,0) _ rfl (r2.set _ _).at_ Tryz.underlying145 rfl (by kernel_rfl)) rfl ?_
 exact⟨rfl,(((xa.step (hb2.mono xa.below.size) (xa.holds.below hb2)).alloc _).set2 hRb hRH _ _).below⟩
theorem cC3 (va:Value) (s:ByteArray) (q:List ByteArray) (hl:q.length≤1000) (H:j5) (d:Doors H) (w:World) (hw:j4 H w) (ha:Sl H va (s::q)) (hz:(J9 (s::q)).size≤100000) (hss:s.size≤100000) {ns:List Int} (hn:T9 q=some ns) (hm:U3 s≠(ns.length:Int)):
 Calls Tryz.prog 118 #[va] w (P9 w H (s::q)):=by
 obtain⟨b,o,c,rfl,cT8,r0⟩:=ha.str (show At (s::q) 0 s from rfl)
 have hcap:q.length+1≤c:=by obtain⟨_,_,e,h1,_⟩:=ha.form;cases e;exact h1
 have hcI:(1:Int)≤(c:Int):=by omega
 have hq0:(1:Int)≤((q.length:Int)+1):=by omega
 have hq1:((q.length:Int)+1)≤(c:Int):=by omega
 obtain⟨aT,Z7⟩:∃aT,(if c=1 then some (⟨b,o,none⟩:Addr)else some ⟨b,o+1,none⟩)=aT:=⟨_,rfl⟩
 have hsT:=ax8 rfl ha Z7
 have F5:=fun(H1:j5) (hle:D8 H H1) (W:World) (hW:j4 H1 W)=>U5 _ q (by omega) H1 (d.mono hle) W hW (hsT.mono hle)
 unfold V9 at F5
 rw[hn]at F5
 replace F5:=fe6 F5
 have hnl:=(ax2 hn).2
 have hjn:=fun(H1:j5) (hle:D8 H H1) (W:World) (hW:j4 H1 W)=>bw5 _ (s::q) (by simp;omega) hz H1 W hW (ha.mono hle)
 have hI:K8 (ns.length:Int):=⟨by omega,by omega⟩
 have hit:=fun(H1:j5) (hle:D8 H H1) (W:World) (hW:j4 H1 W)=>ap8 (ns.length:Int) hI H1 (d.mono hle) W hW
 have hkz:¬9223372036854775807<s.size+(G6 (ns.length:Int)).size:=by
  have h1:(G6 (ns.length:Int)).size≤5:=by
   show(Lib.itoa (ns.length:Int)).length≤5
   rw[ay2];exact aI6 _ 4 (by omega)
  omega
 clear hnl
 replace hjn:=fe6 hjn
 replace hit:=fe6 hit
 obtain⟨J,hJ⟩:∃J,J9 (s::q)=J:=⟨_,rfl⟩
 rw[hJ]at hjn
 have hk:(A7 (s::q)).kind≠1:=cz9 hn hm
 unfold P9
 simp only[if_neg hk]
 have t0:((s++G6 (ns.length:Int)).toList==[109,97,99,104,105,110,101,51])=false:=j6 (aj8 (w:=R7) (d:=3) (by decide) (by decide) (by decide) (fun h=>hm (by obtain⟨h1,h2⟩:=h;rw[h1,h2];decide)))
 have t1:((s++G6 (ns.length:Int)).toList==[115,116,111,112,115,50])=false:=j6 (aj8 (w:=Y6) (d:=2) (by decide) (by decide) (by decide) (fun h=>hm (by obtain⟨h1,h2⟩:=h;rw[h1,h2];decide)))
 have t2:((s++G6 (ns.length:Int)).toList==[116,114,97,105,110,49])=false:=j6 (aj8 (w:=ac6) (d:=1) (by decide) (by decide) (by decide) (fun h=>hm (by obtain⟨h1,h2⟩:=h;rw[h1,h2];decide)))
 have t3:((s++G6 (ns.length:Int)).toList==[108,101,97,118,101,115,50])=false:=j6 (aj8 (w:=Q8) (d:=2) (by decide) (by decide) (by decide) (fun h=>hm (by obtain⟨h1,h2⟩:=h;rw[h1,h2];decide)))
 have t4:((s++G6 (ns.length:Int)).toList==[98,117,110,100,108,101,51])=false:=j6 (aj8 (w:=Z0) (d:=3) (by decide) (by decide) (by decide) (fun h=>hm (by obtain⟨h1,h2⟩:=h;rw[h1,h2];decide)))
 have t5:((s++G6 (ns.length:Int)).toList==[103,97,112,49])=false:=j6 (aj8 (w:=ar9) (d:=1) (by decide) (by decide) (by decide) (fun h=>hm (by obtain⟨h1,h2⟩:=h;rw[h1,h2];decide)))
 have t6:((s++G6 (ns.length:Int)).toList==[99,97,115,116,49])=false:=j6 (aj8 (w:=R8) (d:=1) (by decide) (by decide) (by decide) (fun h=>hm (by obtain⟨h1,h2⟩:=h;rw[h1,h2];decide)))
 have t7:((s++G6 (ns.length:Int)).toList==[98,114,111,107,101,49])=false:=j6 (aj8 (w:=O6) (d:=1) (by decide) (by decide) (by decide) (fun h=>hm (by obtain⟨h1,h2⟩:=h;rw[h1,h2];decide)))
 have t8:((s++G6 (ns.length:Int)).toList==[119,97,110,116,50])=false:=j6 (aj8 (w:=Y2) (d:=2) (by decide) (by decide) (by decide) (fun h=>hm (by obtain⟨h1,h2⟩:=h;rw[h1,h2];decide)))
 generalize G6 (ns.length:Int)=u at*
 clear hm hk ha hsT d hz hn
 go_enter Tryz.func118,Tryz.ntmps118
 go_upto_region 1 with(refine u7 rfl _ rfl (Ext.refl hw) ?_;intro B w1 H1 hle hx hB hBw)
 have hb0:∀W,j4 H1 W→W.cell? ⟨B,0,none⟩=some (.slice (some ⟨b,o,none⟩) (q.length+1) c):=fun W hW=>D7 hB hW 0
 have hw1:=hx.holds
 have rz:ao9 w1.heap.size 145 (w1.alloc (.cells #[.string ⟨#[]⟩,.nilFunc] 145)) _ _:=⟨heap_alloc_new w1 _⟩
 have xa:=hx.alloc (.cells #[.string ⟨#[]⟩,.nilFunc] 145)
 have hRH:H1 w1.heap.size=none:=hw1.D6 (fh0 _)
 have hRb:w.heap.size≤w1.heap.size:=hx.below.size
 have hRl:=rz.lt
 go_upto_region 2 with(go_at_call 123;refine(F5.out H1 hle _ (hw1.alloc _)).mono ?_;rintro e w2 ⟨v2,H2,rfl,x2,o2⟩;obtain⟨a2,c2,rfl,_,_⟩:=o2.form)
 obtain⟨H3,y3,l3,s3,hsame⟩:=(o2.weaken xa.below.size).close (xa.trans x2)
 obtain⟨y4,l4,hA4⟩:=y3.newF #[.slice a2 ns.length c2] 24
 have hR4:(H3.put w2.heap.size (.cells #[.slice a2 ns.length c2] 24 (0,0))) w1.heap.size=none:=by
  have hlt:w1.heap.size<w2.heap.size:=fh4 hRl x2.below.size
  rw[j5.F3 _ _ (fh5 hlt),hsame _ (fun e=>by have:=(o2.lt _ e).1;omega),x2.same _ hRl]
  exact hRH
 have r4:=(rz.below x2.below hRl).alloc (.cells #[.slice a2 ns.length c2] 24)
 have lx:=x2.le xa.holds
 have l14:D8 H1 (H3.put w2.heap.size (.cells #[.slice a2 ns.length c2] 24 (0,0))):=(lx.trans l3).trans l4
 have aa7:Cap (H3.put w2.heap.size (.cells #[.slice a2 ns.length c2] 24 (0,0))) w2.heap.size ns:=⟨_,hA4,s3.mono l4⟩
 clear o2 x2 hsame s3 l3 lx l4 y3 rz
 generalize H3.put w2.heap.size (.cells #[.slice a2 ns.length c2] 24 (0,0))=H4 at*
 generalize w2.alloc (.cells #[.slice a2 ns.length c2] 24)=w4 at*
 generalize w2.heap.size=A at*
 have hw4:=y4.holds
 have hA0:∀W,j4 H4 W→W.cell? ⟨A,0,none⟩=some (.slice a2 ns.length c2):=fun W hW=>D7 hA4 hW 0
 replace hb0:=lift l14 hb0
 have hr0:=lift (hle.trans l14) r0
 simp only[fh2]at hr0
 have hBH:=fe6 (l14 _ _ hB)
 clear r0 hB xa hx hw1 hRl
 go_upto_region 5 with(go_at_call 148;refine(hjn.out H4 (hle.trans l14) _ hw4).mono ?_;rintro e w5 ⟨rfl,hb5⟩)
 have y5:=y4.step (hb5.mono y4.below.size) (hw4.below hb5)
 have r5:=(r4.below hb5 r4.lt).alloc (.cells #[.string J,.nilFunc] 145)
 have cE:=J4.new y5 #[.string J,.nilFunc] 145
 have rE:ao9 w5.heap.size 145 (w5.alloc (.cells #[.string J,.nilFunc] 145)) _ _:=⟨cE.at_⟩
 have hRE:w1.heap.size≠w5.heap.size:=fh5 (fh4 r4.lt hb5.size)
 generalize w5.alloc (.cells #[.string J,.nilFunc] 145)=w6 at*
 generalize w5.heap.size=E at*
 generalize w1.heap.size=R at*
 have hw6:=cE.x.holds
 clear y5 y4 r4 hw4 hb5
 refine E8 H4 (by kernel_rfl) (by kernel_rfl) hw6 (fun hne=> ?_)
 repeat go_big_quiet_step((first|(go_at_call 149;exact Calls.am7 (hit.out H4 (hle.trans l14) _ (WB.holds _)))))
 refine wpQuiet_nil ?_
 rintro⟨w2,hw2,hb2⟩
 clear hne
 replace cE:=cE.below hb2
 replace rE:=rE.below hb2 rE.lt
 replace r5:=r5.below hb2 r5.lt
 clear hw6
 obtain⟨y0,y1,yf⟩:=r5.cells
 go_wp2
 (try simp only[Exit.inBlock,Exit.then])
 refine bodyPost_ret (N8 rfl _ _ R 145 _ (0,0) _ rfl (r5.set _ _).at_ Tryz.underlying145 rfl (by kernel_rfl)) rfl ?_
 exact⟨rfl,(cE.x.set2 hRb hR4 _ _).below⟩
end
section
open Go.RowKit
attribute [local go_sem] j4.drew j4.alloc j4.drewN WB.holds Oper.semAt_some
theorem bW2 {l:List Int} (h:l.length=1):∃x,l=[x]:=by match l,h with|[x],_=>exact⟨x,rfl⟩
theorem du5 {l:List Int} (h:l.length=2):∃x y,l=[x,y]:=by match l,h with|[x,y],_=>exact⟨x,y,rfl⟩
theorem dU8 {l:List Int} (h:l.length=3):∃x y z,l=[x,y,z]:=by match l,h with|[x,y,z],_=>exact⟨x,y,z,rfl⟩
theorem ag7 {s w:ByteArray} {n d:Nat} {l:List UInt8} (hw:aD6 (C8 w)=[]) (hd:d<10) (hl:J8 (C8 w++[UInt8.ofNat (48+d)])=J8 l):((s++G6 (n:Int)).toList==l)=decide (s=w∧n=d):=by
 by_cases h:s=w∧n=d
 ·rw[decide_eq_true h];exact G8 (dI2 hd hl h)
 ·rw[decide_eq_false h];exact j6 (aj8 hw hd hl h)
theorem cT9 (va:Value) (s:ByteArray) (q:List ByteArray) (hl:q.length≤1000) (H:j5) (d:Doors H) (w:World) (hw:j4 H w) (ha:Sl H va (s::q)) (hz:(J9 (s::q)).size≤100000) (hss:s.size≤100000) {ns:List Int} (hn:T9 q=some ns) (hc:(s=R7∧ns.length=3)∨(s=Y6∧ns.length=2)∨(s=ac6∧ns.length=1)∨(s=Q8∧ns.length=2)∨(s=Z0∧ns.length=3)∨(s=ar9∧ns.length=1)∨(s=R8∧ns.length=1)∨(s=O6∧ns.length=1)∨(s=Y2∧ns.length=2)):
 Calls Tryz.prog 118 #[va] w (P9 w H (s::q)):=by
 obtain⟨b,o,c,rfl,cT8,r0⟩:=ha.str (show At (s::q) 0 s from rfl)
 have hcap:q.length+1≤c:=by obtain⟨_,_,e,h1,_⟩:=ha.form;cases e;exact h1
 have hcI:(1:Int)≤(c:Int):=by omega
 have hq0:(1:Int)≤((q.length:Int)+1):=by omega
 have hq1:((q.length:Int)+1)≤(c:Int):=by omega
 obtain⟨aT,Z7⟩:∃aT,(if c=1 then some (⟨b,o,none⟩:Addr)else some ⟨b,o+1,none⟩)=aT:=⟨_,rfl⟩
 have hsT:=ax8 rfl ha Z7
 have F5:=fun(H1:j5) (hle:D8 H H1) (W:World) (hW:j4 H1 W)=>U5 _ q (by omega) H1 (d.mono hle) W hW (hsT.mono hle)
 unfold V9 at F5
 rw[hn]at F5
 replace F5:=fe6 F5
 have hnl:=(ax2 hn).2
 have hjn:=fun(H1:j5) (hle:D8 H H1) (W:World) (hW:j4 H1 W)=>bw5 _ (s::q) (by simp;omega) hz H1 W hW (ha.mono hle)
 have hI:K8 (ns.length:Int):=⟨by omega,by omega⟩
 have hit:=fun(H1:j5) (hle:D8 H H1) (W:World) (hW:j4 H1 W)=>ap8 (ns.length:Int) hI H1 (d.mono hle) W hW
 have hkz:¬9223372036854775807<s.size+(G6 (ns.length:Int)).size:=by
  have h1:(G6 (ns.length:Int)).size≤5:=by
   show(Lib.itoa (ns.length:Int)).length≤5
   rw[ay2];exact aI6 _ 4 (by omega)
  omega
 clear hnl
 replace hjn:=fe6 hjn
 replace hit:=fe6 hit
 obtain⟨J,hJ⟩:∃J,J9 (s::q)=J:=⟨_,rfl⟩
 rw[hJ]at hjn
 have hm:U3 s=(ns.length:Int):=by
  rcases hc with⟨hs,hnn⟩|⟨hs,hnn⟩|⟨hs,hnn⟩|⟨hs,hnn⟩|⟨hs,hnn⟩|⟨hs,hnn⟩|⟨hs,hnn⟩|⟨hs,hnn⟩|⟨hs,hnn⟩<;>(rw[hs,hnn];decide)
 unfold P9
 simp only[bj2 hn hm,if_true]
 rw[hJ]
 have hmf:∀(fn:Fn) (first cap:Array Value) (w:World),(Instr.makeFunc fn first cap).run Tryz.prog w= .ok (.func fn first cap) w:=fun _ _ _ _=>rfl
 have t0:=fe6 (ag7 (s:=s) (n:=ns.length) (w:=R7) (d:=3) (l:=[109,97,99,104,105,110,101,51]) (by decide) (by decide) (by decide))
 have t1:=fe6 (ag7 (s:=s) (n:=ns.length) (w:=Y6) (d:=2) (l:=[115,116,111,112,115,50]) (by decide) (by decide) (by decide))
 have t2:=fe6 (ag7 (s:=s) (n:=ns.length) (w:=ac6) (d:=1) (l:=[116,114,97,105,110,49]) (by decide) (by decide) (by decide))
 have t3:=fe6 (ag7 (s:=s) (n:=ns.length) (w:=Q8) (d:=2) (l:=[108,101,97,118,101,115,50]) (by decide) (by decide) (by decide))
 have t4:=fe6 (ag7 (s:=s) (n:=ns.length) (w:=Z0) (d:=3) (l:=[98,117,110,100,108,101,51]) (by decide) (by decide) (by decide))
 have t5:=fe6 (ag7 (s:=s) (n:=ns.length) (w:=ar9) (d:=1) (l:=[103,97,112,49]) (by decide) (by decide) (by decide))
 have t6:=fe6 (ag7 (s:=s) (n:=ns.length) (w:=R8) (d:=1) (l:=[99,97,115,116,49]) (by decide) (by decide) (by decide))
 have t7:=fe6 (ag7 (s:=s) (n:=ns.length) (w:=O6) (d:=1) (l:=[98,114,111,107,101,49]) (by decide) (by decide) (by decide))
 have t8:=fe6 (ag7 (s:=s) (n:=ns.length) (w:=Y2) (d:=2) (l:=[119,97,110,116,50]) (by decide) (by decide) (by decide))
 generalize G6 (ns.length:Int)=u at*
 replace hc:=fe6 hc
 clear hm ha hsT d hz hn
 go_enter Tryz.func118,Tryz.ntmps118
 go_upto_region 1 with(refine u7 rfl _ rfl (Ext.refl hw) ?_;intro B w1 H1 hle hx hB hBw)
 have hb0:∀W,j4 H1 W→W.cell? ⟨B,0,none⟩=some (.slice (some ⟨b,o,none⟩) (q.length+1) c):=fun W hW=>D7 hB hW 0
 have hw1:=hx.holds
 have rz:ao9 w1.heap.size 145 (w1.alloc (.cells #[.string ⟨#[]⟩,.nilFunc] 145)) _ _:=⟨heap_alloc_new w1 _⟩
 have xa:=hx.alloc (.cells #[.string ⟨#[]⟩,.nilFunc] 145)
 have hRH:H1 w1.heap.size=none:=hw1.D6 (fh0 _)
 have hRb:w.heap.size≤w1.heap.size:=hx.below.size
 have hRl:=rz.lt
 go_upto_region 2 with(go_at_call 123;refine(F5.out H1 hle _ (hw1.alloc _)).mono ?_;rintro e w2 ⟨v2,H2,rfl,x2,o2⟩;obtain⟨a2,c2,rfl,_,_⟩:=o2.form)
 obtain⟨H3,y3,l3,s3,hsame⟩:=(o2.weaken xa.below.size).close (xa.trans x2)
 obtain⟨y4,l4,hA4⟩:=y3.newF #[.slice a2 ns.length c2] 24
 have hR4:(H3.put w2.heap.size (.cells #[.slice a2 ns.length c2] 24 (0,0))) w1.heap.size=none:=by
  have hlt:w1.heap.size<w2.heap.size:=fh4 hRl x2.below.size
  rw[j5.F3 _ _ (fh5 hlt),hsame _ (fun e=>by have:=(o2.lt _ e).1;omega),x2.same _ hRl]
  exact hRH
 have r4:=(rz.below x2.below hRl).alloc (.cells #[.slice a2 ns.length c2] 24)
 have lx:=x2.le xa.holds
 have l14:D8 H1 (H3.put w2.heap.size (.cells #[.slice a2 ns.length c2] 24 (0,0))):=(lx.trans l3).trans l4
 have aa7:Cap (H3.put w2.heap.size (.cells #[.slice a2 ns.length c2] 24 (0,0))) w2.heap.size ns:=⟨_,hA4,s3.mono l4⟩
 clear o2 x2 hsame s3 l3 lx l4 y3 rz
 generalize H3.put w2.heap.size (.cells #[.slice a2 ns.length c2] 24 (0,0))=H4 at*
 generalize w2.alloc (.cells #[.slice a2 ns.length c2] 24)=w4 at*
 generalize w2.heap.size=A at*
 have hw4:=y4.holds
 have hA0:∀W,j4 H4 W→W.cell? ⟨A,0,none⟩=some (.slice a2 ns.length c2):=fun W hW=>D7 hA4 hW 0
 replace hb0:=lift l14 hb0
 have hr0:=lift (hle.trans l14) r0
 simp only[fh2]at hr0
 have hBH:=fe6 (l14 _ _ hB)
 clear r0 hB xa hx hw1 hRl
 go_upto_region 5 with(go_at_call 148;refine(hjn.out H4 (hle.trans l14) _ hw4).mono ?_;rintro e w5 ⟨rfl,hb5⟩)
 have y5:=y4.step (hb5.mono y4.below.size) (hw4.below hb5)
 have r5:=(r4.below hb5 r4.lt).alloc (.cells #[.string J,.nilFunc] 145)
 have cE:=J4.new y5 #[.string J,.nilFunc] 145
 have rE:ao9 w5.heap.size 145 (w5.alloc (.cells #[.string J,.nilFunc] 145)) _ _:=⟨cE.at_⟩
 have hRE:w1.heap.size≠w5.heap.size:=fh5 (fh4 r4.lt hb5.size)
 generalize w5.alloc (.cells #[.string J,.nilFunc] 145)=w6 at*
 generalize w5.heap.size=E at*
 generalize w1.heap.size=R at*
 have hw6:=cE.x.holds
 clear y5 y4 r4 hw4 hb5
 refine E8 H4 (by kernel_rfl) (by kernel_rfl) hw6 (fun hne=> ?_)
 repeat go_big_quiet_step((first|(go_at_call 149;exact Calls.am7 (hit.out H4 (hle.trans l14) _ (WB.holds _)))))
 refine wpQuiet_nil ?_
 rintro⟨w2,hw2,hb2⟩
 clear hne
 replace cE:=cE.below hb2
 replace rE:=rE.below hb2 rE.lt
 replace r5:=r5.below hb2 r5.lt
 clear hw6
 rcases hc.out with⟨hs,hnn⟩|⟨hs,hnn⟩|⟨hs,hnn⟩|⟨hs,hnn⟩|⟨hs,hnn⟩|⟨hs,hnn⟩|⟨hs,hnn⟩|⟨hs,hnn⟩|⟨hs,hnn⟩
 ·have e0:=t0.out.trans (decide_eq_true ⟨hs,hnn⟩)
  replace hs:=fe6 hs
  replace hnn:=fe6 hnn
  obtain⟨k0,k1,kf⟩:=rE.cells
  have rE2:=rE.set1 (.func (.func 150) #[] #[.pointer (some ⟨A,0,none⟩)])
  have rR2:=r5.other (g:=E) 1 (.func (.func 150) #[] #[.pointer (some ⟨A,0,none⟩)]) (Ne.symm hRE)
  have cE2:=cE.set 1 (.func (.func 150) #[] #[.pointer (some ⟨A,0,none⟩)])
  obtain⟨k2,k3,kg⟩:=rE2.cells
  obtain⟨y0,y1,yf⟩:=rR2.cells
  obtain⟨x,y,z,hns⟩:=dU8 hnn.out
  rw[hns]at aa7
  replace hns:=fe6 hns
  have hcapB:=fe6 aa7
  replace rR2:=fe6 rR2
  replace cE2:=fe6 cE2
  clear rE rE2 cE aa7 r5 hc
  go_wp2
  (try simp only[Exit.inBlock,Exit.then])
  refine bodyPost_ret (N8 rfl _ _ R 145 _ (0,0) _ rfl (rR2.out.set _ _).at_ Tryz.underlying145 rfl (by kernel_rfl)) rfl ?_
  refine⟨_,H4,rfl,cE2.out.x.set2 hRb hR4 _ _, ?_⟩
  rw[hs.out,hns.out]
  exact⟨_,_,rfl,enters_of Tryz.func150 (by kernel_rfl) rfl,fun H1 hle w0 W H0 O vm vb vt um uo ua t r v=>bV7 r v (hcapB.out.mono hle)⟩
 ·have e0:=t0.out.trans (decide_eq_false fun h=>absurd (hs.symm.trans h.1) (by decide))
  have e1:=t1.out.trans (decide_eq_true ⟨hs,hnn⟩)
  replace hs:=fe6 hs
  replace hnn:=fe6 hnn
  obtain⟨k0,k1,kf⟩:=rE.cells
  have rE2:=rE.set1 (.func (.func 152) #[] #[.pointer (some ⟨A,0,none⟩)])
  have rR2:=r5.other (g:=E) 1 (.func (.func 152) #[] #[.pointer (some ⟨A,0,none⟩)]) (Ne.symm hRE)
  have cE2:=cE.set 1 (.func (.func 152) #[] #[.pointer (some ⟨A,0,none⟩)])
  obtain⟨k2,k3,kg⟩:=rE2.cells
  obtain⟨y0,y1,yf⟩:=rR2.cells
  obtain⟨x,y,hns⟩:=du5 hnn.out
  rw[hns]at aa7
  replace hns:=fe6 hns
  have hcapB:=fe6 aa7
  replace rR2:=fe6 rR2
  replace cE2:=fe6 cE2
  clear rE rE2 cE aa7 r5 hc
  go_wp2
  (try simp only[Exit.inBlock,Exit.then])
  refine bodyPost_ret (N8 rfl _ _ R 145 _ (0,0) _ rfl (rR2.out.set _ _).at_ Tryz.underlying145 rfl (by kernel_rfl)) rfl ?_
  refine⟨_,H4,rfl,cE2.out.x.set2 hRb hR4 _ _, ?_⟩
  rw[hs.out,hns.out]
  exact⟨_,_,rfl,enters_of Tryz.func152 (by kernel_rfl) rfl,fun H1 hle w0 W H0 O vm vb vt um uo ua t r v=>cq8 r v (hcapB.out.mono hle)⟩
 ·have e0:=t0.out.trans (decide_eq_false fun h=>absurd (hs.symm.trans h.1) (by decide))
  have e1:=t1.out.trans (decide_eq_false fun h=>absurd (hs.symm.trans h.1) (by decide))
  have e2:=t2.out.trans (decide_eq_true ⟨hs,hnn⟩)
  replace hs:=fe6 hs
  replace hnn:=fe6 hnn
  obtain⟨k0,k1,kf⟩:=rE.cells
  have rE2:=rE.set1 (.func (.func 154) #[] #[.pointer (some ⟨A,0,none⟩)])
  have rR2:=r5.other (g:=E) 1 (.func (.func 154) #[] #[.pointer (some ⟨A,0,none⟩)]) (Ne.symm hRE)
  have cE2:=cE.set 1 (.func (.func 154) #[] #[.pointer (some ⟨A,0,none⟩)])
  obtain⟨k2,k3,kg⟩:=rE2.cells
  obtain⟨y0,y1,yf⟩:=rR2.cells
  obtain⟨x,hns⟩:=bW2 hnn.out
  rw[hns]at aa7
  replace hns:=fe6 hns
  have hcapB:=fe6 aa7
  replace rR2:=fe6 rR2
  replace cE2:=fe6 cE2
  clear rE rE2 cE aa7 r5 hc
  go_wp2
  (try simp only[Exit.inBlock,Exit.then])
  refine bodyPost_ret (N8 rfl _ _ R 145 _ (0,0) _ rfl (rR2.out.set _ _).at_ Tryz.underlying145 rfl (by kernel_rfl)) rfl ?_
  refine⟨_,H4,rfl,cE2.out.x.set2 hRb hR4 _ _, ?_⟩
  rw[hs.out,hns.out]
  exact⟨_,_,rfl,enters_of Tryz.func154 (by kernel_rfl) rfl,fun H1 hle w0 W H0 O vm vb vt um uo ua t r v=>cq7 r v (hcapB.out.mono hle)⟩
 ·have e0:=t0.out.trans (decide_eq_false fun h=>absurd (hs.symm.trans h.1) (by decide))
  have e1:=t1.out.trans (decide_eq_false fun h=>absurd (hs.symm.trans h.1) (by decide))
  have e2:=t2.out.trans (decide_eq_false fun h=>absurd (hs.symm.trans h.1) (by decide))
  have e3:=t3.out.trans (decide_eq_true ⟨hs,hnn⟩)
  replace hs:=fe6 hs
  replace hnn:=fe6 hnn
  obtain⟨k0,k1,kf⟩:=rE.cells
  have rE2:=rE.set1 (.func (.func 156) #[] #[.pointer (some ⟨A,0,none⟩)])
  have rR2:=r5.other (g:=E) 1 (.func (.func 156) #[] #[.pointer (some ⟨A,0,none⟩)]) (Ne.symm hRE)
  have cE2:=cE.set 1 (.func (.func 156) #[] #[.pointer (some ⟨A,0,none⟩)])
  obtain⟨k2,k3,kg⟩:=rE2.cells
  obtain⟨y0,y1,yf⟩:=rR2.cells
  obtain⟨x,y,hns⟩:=du5 hnn.out
  rw[hns]at aa7
  replace hns:=fe6 hns
  have hcapB:=fe6 aa7
  replace rR2:=fe6 rR2
  replace cE2:=fe6 cE2
  clear rE rE2 cE aa7 r5 hc
  go_wp2
  (try simp only[Exit.inBlock,Exit.then])
  refine bodyPost_ret (N8 rfl _ _ R 145 _ (0,0) _ rfl (rR2.out.set _ _).at_ Tryz.underlying145 rfl (by kernel_rfl)) rfl ?_
  refine⟨_,H4,rfl,cE2.out.x.set2 hRb hR4 _ _, ?_⟩
  rw[hs.out,hns.out]
  exact⟨_,_,rfl,enters_of Tryz.func156 (by kernel_rfl) rfl,fun H1 hle w0 W H0 O vm vb vt um uo ua t r v=>cg2 r v (hcapB.out.mono hle)⟩
 ·have e0:=t0.out.trans (decide_eq_false fun h=>absurd (hs.symm.trans h.1) (by decide))
  have e1:=t1.out.trans (decide_eq_false fun h=>absurd (hs.symm.trans h.1) (by decide))
  have e2:=t2.out.trans (decide_eq_false fun h=>absurd (hs.symm.trans h.1) (by decide))
  have e3:=t3.out.trans (decide_eq_false fun h=>absurd (hs.symm.trans h.1) (by decide))
  have e4:=t4.out.trans (decide_eq_true ⟨hs,hnn⟩)
  replace hs:=fe6 hs
  replace hnn:=fe6 hnn
  obtain⟨k0,k1,kf⟩:=rE.cells
  have rE2:=rE.set1 (.func (.func 158) #[] #[.pointer (some ⟨A,0,none⟩)])
  have rR2:=r5.other (g:=E) 1 (.func (.func 158) #[] #[.pointer (some ⟨A,0,none⟩)]) (Ne.symm hRE)
  have cE2:=cE.set 1 (.func (.func 158) #[] #[.pointer (some ⟨A,0,none⟩)])
  obtain⟨k2,k3,kg⟩:=rE2.cells
  obtain⟨y0,y1,yf⟩:=rR2.cells
  obtain⟨x,y,z,hns⟩:=dU8 hnn.out
  rw[hns]at aa7
  replace hns:=fe6 hns
  have hcapB:=fe6 aa7
  replace rR2:=fe6 rR2
  replace cE2:=fe6 cE2
  clear rE rE2 cE aa7 r5 hc
  go_wp2
  (try simp only[Exit.inBlock,Exit.then])
  refine bodyPost_ret (N8 rfl _ _ R 145 _ (0,0) _ rfl (rR2.out.set _ _).at_ Tryz.underlying145 rfl (by kernel_rfl)) rfl ?_
  refine⟨_,H4,rfl,cE2.out.x.set2 hRb hR4 _ _, ?_⟩
  rw[hs.out,hns.out]
  exact⟨_,_,rfl,enters_of Tryz.func158 (by kernel_rfl) rfl,fun H1 hle w0 W H0 O vm vb vt um uo ua t r v=>cg1 r v (hcapB.out.mono hle)⟩
 ·have e0:=t0.out.trans (decide_eq_false fun h=>absurd (hs.symm.trans h.1) (by decide))
  have e1:=t1.out.trans (decide_eq_false fun h=>absurd (hs.symm.trans h.1) (by decide))
  have e2:=t2.out.trans (decide_eq_false fun h=>absurd (hs.symm.trans h.1) (by decide))
  have e3:=t3.out.trans (decide_eq_false fun h=>absurd (hs.symm.trans h.1) (by decide))
  have e4:=t4.out.trans (decide_eq_false fun h=>absurd (hs.symm.trans h.1) (by decide))
  have e5:=t5.out.trans (decide_eq_true ⟨hs,hnn⟩)
  replace hs:=fe6 hs
  replace hnn:=fe6 hnn
  obtain⟨k0,k1,kf⟩:=rE.cells
  have rE2:=rE.set1 (.func (.func 160) #[] #[.pointer (some ⟨A,0,none⟩)])
  have rR2:=r5.other (g:=E) 1 (.func (.func 160) #[] #[.pointer (some ⟨A,0,none⟩)]) (Ne.symm hRE)
  have cE2:=cE.set 1 (.func (.func 160) #[] #[.pointer (some ⟨A,0,none⟩)])
  obtain⟨k2,k3,kg⟩:=rE2.cells
  obtain⟨y0,y1,yf⟩:=rR2.cells
  obtain⟨x,hns⟩:=bW2 hnn.out
  rw[hns]at aa7
  replace hns:=fe6 hns
  have hcapB:=fe6 aa7
  replace rR2:=fe6 rR2
  replace cE2:=fe6 cE2
  clear rE rE2 cE aa7 r5 hc
  go_wp2
  (try simp only[Exit.inBlock,Exit.then])
  refine bodyPost_ret (N8 rfl _ _ R 145 _ (0,0) _ rfl (rR2.out.set _ _).at_ Tryz.underlying145 rfl (by kernel_rfl)) rfl ?_
  refine⟨_,H4,rfl,cE2.out.x.set2 hRb hR4 _ _, ?_⟩
  rw[hs.out,hns.out]
  exact⟨_,_,rfl,enters_of Tryz.func160 (by kernel_rfl) rfl,fun H1 hle w0 W H0 O vm vb vt um uo ua t r v=>cQ1 r (hcapB.out.mono hle)⟩
 ·have e0:=t0.out.trans (decide_eq_false fun h=>absurd (hs.symm.trans h.1) (by decide))
  have e1:=t1.out.trans (decide_eq_false fun h=>absurd (hs.symm.trans h.1) (by decide))
  have e2:=t2.out.trans (decide_eq_false fun h=>absurd (hs.symm.trans h.1) (by decide))
  have e3:=t3.out.trans (decide_eq_false fun h=>absurd (hs.symm.trans h.1) (by decide))
  have e4:=t4.out.trans (decide_eq_false fun h=>absurd (hs.symm.trans h.1) (by decide))
  have e5:=t5.out.trans (decide_eq_false fun h=>absurd (hs.symm.trans h.1) (by decide))
  have e6:=t6.out.trans (decide_eq_true ⟨hs,hnn⟩)
  replace hs:=fe6 hs
  replace hnn:=fe6 hnn
  obtain⟨k0,k1,kf⟩:=rE.cells
  have rE2:=rE.set1 (.func (.func 161) #[] #[.pointer (some ⟨A,0,none⟩),.pointer (some ⟨B,0,none⟩)])
  have rR2:=r5.other (g:=E) 1 (.func (.func 161) #[] #[.pointer (some ⟨A,0,none⟩),.pointer (some ⟨B,0,none⟩)]) (Ne.symm hRE)
  have cE2:=cE.set 1 (.func (.func 161) #[] #[.pointer (some ⟨A,0,none⟩),.pointer (some ⟨B,0,none⟩)])
  obtain⟨k2,k3,kg⟩:=rE2.cells
  obtain⟨y0,y1,yf⟩:=rR2.cells
  have hcw:=fe6 (show bI4 H4 B ⟨#[99,97,115,116]⟩from⟨b,o,q.length+1,c,hBH.out,Nat.succ_pos _,fun W hW=>by rw[hr0 W hW,hs.out];rfl⟩)
  obtain⟨x,hns⟩:=bW2 hnn.out
  rw[hns]at aa7
  replace hns:=fe6 hns
  have hcapB:=fe6 aa7
  replace rR2:=fe6 rR2
  replace cE2:=fe6 cE2
  clear rE rE2 cE aa7 r5 hc
  go_wp2
  (try simp only[Exit.inBlock,Exit.then])
  refine bodyPost_ret (N8 rfl _ _ R 145 _ (0,0) _ rfl (rR2.out.set _ _).at_ Tryz.underlying145 rfl (by kernel_rfl)) rfl ?_
  refine⟨_,H4,rfl,cE2.out.x.set2 hRb hR4 _ _, ?_⟩
  rw[hs.out,hns.out]
  exact⟨_,_,rfl,enters_of Tryz.func161 (by kernel_rfl) rfl,fun H1 hle w0 W H0 O vm vb vt um uo ua t r v=>cA9 r v (hcapB.out.mono hle) (hcw.out.mono hle)⟩
 ·have e0:=t0.out.trans (decide_eq_false fun h=>absurd (hs.symm.trans h.1) (by decide))
  have e1:=t1.out.trans (decide_eq_false fun h=>absurd (hs.symm.trans h.1) (by decide))
  have e2:=t2.out.trans (decide_eq_false fun h=>absurd (hs.symm.trans h.1) (by decide))
  have e3:=t3.out.trans (decide_eq_false fun h=>absurd (hs.symm.trans h.1) (by decide))
  have e4:=t4.out.trans (decide_eq_false fun h=>absurd (hs.symm.trans h.1) (by decide))
  have e5:=t5.out.trans (decide_eq_false fun h=>absurd (hs.symm.trans h.1) (by decide))
  have e6:=t6.out.trans (decide_eq_false fun h=>absurd (hs.symm.trans h.1) (by decide))
  have e7:=t7.out.trans (decide_eq_true ⟨hs,hnn⟩)
  replace hs:=fe6 hs
  replace hnn:=fe6 hnn
  obtain⟨k0,k1,kf⟩:=rE.cells
  have rE2:=rE.set1 (.func (.func 161) #[] #[.pointer (some ⟨A,0,none⟩),.pointer (some ⟨B,0,none⟩)])
  have rR2:=r5.other (g:=E) 1 (.func (.func 161) #[] #[.pointer (some ⟨A,0,none⟩),.pointer (some ⟨B,0,none⟩)]) (Ne.symm hRE)
  have cE2:=cE.set 1 (.func (.func 161) #[] #[.pointer (some ⟨A,0,none⟩),.pointer (some ⟨B,0,none⟩)])
  obtain⟨k2,k3,kg⟩:=rE2.cells
  obtain⟨y0,y1,yf⟩:=rR2.cells
  have hcw:=fe6 (show bI4 H4 B ⟨#[98,114,111,107,101]⟩from⟨b,o,q.length+1,c,hBH.out,Nat.succ_pos _,fun W hW=>by rw[hr0 W hW,hs.out];rfl⟩)
  obtain⟨x,hns⟩:=bW2 hnn.out
  rw[hns]at aa7
  replace hns:=fe6 hns
  have hcapB:=fe6 aa7
  replace rR2:=fe6 rR2
  replace cE2:=fe6 cE2
  clear rE rE2 cE aa7 r5 hc
  go_wp2
  (try simp only[Exit.inBlock,Exit.then])
  refine bodyPost_ret (N8 rfl _ _ R 145 _ (0,0) _ rfl (rR2.out.set _ _).at_ Tryz.underlying145 rfl (by kernel_rfl)) rfl ?_
  refine⟨_,H4,rfl,cE2.out.x.set2 hRb hR4 _ _, ?_⟩
  rw[hs.out,hns.out]
  exact⟨_,_,rfl,enters_of Tryz.func161 (by kernel_rfl) rfl,fun H1 hle w0 W H0 O vm vb vt um uo ua t r v=>cr5 r v (hcapB.out.mono hle) (hcw.out.mono hle)⟩
 ·have e0:=t0.out.trans (decide_eq_false fun h=>absurd (hs.symm.trans h.1) (by decide))
  have e1:=t1.out.trans (decide_eq_false fun h=>absurd (hs.symm.trans h.1) (by decide))
  have e2:=t2.out.trans (decide_eq_false fun h=>absurd (hs.symm.trans h.1) (by decide))
  have e3:=t3.out.trans (decide_eq_false fun h=>absurd (hs.symm.trans h.1) (by decide))
  have e4:=t4.out.trans (decide_eq_false fun h=>absurd (hs.symm.trans h.1) (by decide))
  have e5:=t5.out.trans (decide_eq_false fun h=>absurd (hs.symm.trans h.1) (by decide))
  have e6:=t6.out.trans (decide_eq_false fun h=>absurd (hs.symm.trans h.1) (by decide))
  have e7:=t7.out.trans (decide_eq_false fun h=>absurd (hs.symm.trans h.1) (by decide))
  have e8:=t8.out.trans (decide_eq_true ⟨hs,hnn⟩)
  replace hs:=fe6 hs
  replace hnn:=fe6 hnn
  obtain⟨k0,k1,kf⟩:=rE.cells
  have rE2:=rE.set1 (.func (.func 163) #[] #[.pointer (some ⟨A,0,none⟩)])
  have rR2:=r5.other (g:=E) 1 (.func (.func 163) #[] #[.pointer (some ⟨A,0,none⟩)]) (Ne.symm hRE)
  have cE2:=cE.set 1 (.func (.func 163) #[] #[.pointer (some ⟨A,0,none⟩)])
  obtain⟨k2,k3,kg⟩:=rE2.cells
  obtain⟨y0,y1,yf⟩:=rR2.cells
  obtain⟨x,y,hns⟩:=du5 hnn.out
  rw[hns]at aa7
  replace hns:=fe6 hns
  have hcapB:=fe6 aa7
  replace rR2:=fe6 rR2
  replace cE2:=fe6 cE2
  clear rE rE2 cE aa7 r5 hc
  go_wp2
  (try simp only[Exit.inBlock,Exit.then])
  refine bodyPost_ret (N8 rfl _ _ R 145 _ (0,0) _ rfl (rR2.out.set _ _).at_ Tryz.underlying145 rfl (by kernel_rfl)) rfl ?_
  refine⟨_,H4,rfl,cE2.out.x.set2 hRb hR4 _ _, ?_⟩
  rw[hs.out,hns.out]
  exact⟨_,_,rfl,enters_of Tryz.func163 (by kernel_rfl) rfl,fun H1 hle w0 W H0 O vm vb vt um uo ua t r v=>cA8 r v (hcapB.out.mono hle)⟩
end
section
open Go.RowKit
attribute [local go_sem] j4.drew j4.alloc j4.drewN WB.holds Oper.semAt_some Q9 O1 J7
theorem bm4 {He:j5} {base:Nat} {w:World} {D:Nat} {gm gb gt gu go' ga rv:Value} {g:D5} {recs:List Rec} (d:L8 He base w D gm gb gt gu go' ga rv g recs) (v:F6 g=true) (line:Int):
 Calls Tryz.prog 79 #[.pointer (some ⟨D,0,none⟩),.int .i64 line] w (Post w He fun u H'=>bt6 H' u (U8 g (ahead recs line))):=by
 obtain⟨HP,hw,hle0,hD,hR⟩:=d.put
 have hl:=d.l
 have hT:=d.t
 have hHe:=d.h
 clear d
 obtain⟨a0,c0,rfl,_,_⟩:=hT.h.m.form
 obtain⟨a1,c1,rfl,_,_⟩:=hT.h.b.form
 obtain⟨a2,c2,rfl,_,_⟩:=hT.h.t.form
 obtain⟨a3,c3,rfl,_,_⟩:=hT.s.m.form
 obtain⟨a4,c4,rfl,_,_⟩:=hT.s.o.form
 obtain⟨a5,c5,rfl,_,_⟩:=hT.s.a.form
 have f0:∀W',j4 HP W'→W'.cell? ⟨D,0,none⟩=_:=fun W' h=>D7 hD h 0
 have f1:∀W',j4 HP W'→W'.cell? ⟨D,1,none⟩=_:=fun W' h=>D7 hD h 1
 have f2:∀W',j4 HP W'→W'.cell? ⟨D,2,none⟩=_:=fun W' h=>D7 hD h 2
 have f3:∀W',j4 HP W'→W'.cell? ⟨D,3,none⟩=_:=fun W' h=>D7 hD h 3
 have f4:∀W',j4 HP W'→W'.cell? ⟨D,4,none⟩=_:=fun W' h=>D7 hD h 4
 have f5:∀W',j4 HP W'→W'.cell? ⟨D,5,none⟩=_:=fun W' h=>D7 hD h 5
 have f6:∀W',j4 HP W'→W'.cell? ⟨D,6,none⟩=_:=fun W' h=>D7 hD h 6
 have f7:∀W',j4 HP W'→W'.cell? ⟨D,7,none⟩=_:=fun W' h=>D7 hD h 7
 simp at f0 f1 f2 f3 f4 f5 f6 f7
 refine Calls.aw5 (r:=none) (n:=3) (callsIn_of_wp_marks Tryz.func79 rfl trivial (wpIn_wide.2 ?_) rfl)
 simp only[Tryz.ntmps79,List.size_toArray,ff8,fg1,fh6,fh7,fg9,fg8,fg3,List.append_toArray,ff9,fg2]
 go_upto_region 2 with fail
 have hz:=heap_alloc_new w (.cells #[.slice none 0 0,.slice none 0 0,.slice none 0 0,.int .i64 0,.slice none 0 0,.slice none 0 0,.slice none 0 0,.int .i64 0] 32)
 generalize hR0:w.heap.size=R0 at hz ⊢
 have x1:=(Ext.refl hw).alloc (.cells #[.slice none 0 0,.slice none 0 0,.slice none 0 0,.int .i64 0,.slice none 0 0,.slice none 0 0,.slice none 0 0,.int .i64 0] 32)
 have hz2:=(Below.heap_alloc _ (.cells #[.slice a0 g.h.ms.length c0,.slice a1 g.h.bs.length c1,.slice a2 g.h.ts.length c2,.int .i64 g.h.ch,.slice a3 g.s.mo.length c3,.slice a4 g.s.wo.length c4,.slice a5 g.s.wa.length c5,.int .i64 g.s.fr] 32) R0 (by rw[World.size_alloc];omega)).trans hz
 have ht1:=heap_alloc_new (w.alloc (.cells #[.slice none 0 0,.slice none 0 0,.slice none 0 0,.int .i64 0,.slice none 0 0,.slice none 0 0,.slice none 0 0,.int .i64 0] 32)) (.cells #[.slice a0 g.h.ms.length c0,.slice a1 g.h.bs.length c1,.slice a2 g.h.ts.length c2,.int .i64 g.h.ch,.slice a3 g.s.mo.length c3,.slice a4 g.s.wo.length c4,.slice a5 g.s.wa.length c5,.int .i64 g.s.fr] 32)
 replace x1:=x1.alloc (.cells #[.slice a0 g.h.ms.length c0,.slice a1 g.h.bs.length c1,.slice a2 g.h.ts.length c2,.int .i64 g.h.ch,.slice a3 g.s.mo.length c3,.slice a4 g.s.wo.length c4,.slice a5 g.s.wa.length c5,.int .i64 g.s.fr] 32)
 have hsz:((w.alloc (.cells #[.slice none 0 0,.slice none 0 0,.slice none 0 0,.int .i64 0,.slice none 0 0,.slice none 0 0,.slice none 0 0,.int .i64 0] 32)).alloc (.cells #[.slice a0 g.h.ms.length c0,.slice a1 g.h.bs.length c1,.slice a2 g.h.ts.length c2,.int .i64 g.h.ch,.slice a3 g.s.mo.length c3,.slice a4 g.s.wo.length c4,.slice a5 g.s.wa.length c5,.int .i64 g.s.fr] 32)).heap.size=R0+2:=by
  rw[World.size_alloc,World.size_alloc,hR0]
 rw[World.size_alloc,hR0]at ht1
 have hbe:Below w.heap.size w ((w.alloc (.cells #[.slice none 0 0,.slice none 0 0,.slice none 0 0,.int .i64 0,.slice none 0 0,.slice none 0 0,.slice none 0 0,.int .i64 0] 32)).alloc (.cells #[.slice a0 g.h.ms.length c0,.slice a1 g.h.bs.length c1,.slice a2 g.h.ts.length c2,.int .i64 g.h.ch,.slice a3 g.s.mo.length c3,.slice a4 g.s.wo.length c4,.slice a5 g.s.wa.length c5,.int .i64 g.s.fr] 32)):=x1.below
 generalize(w.alloc (.cells #[.slice none 0 0,.slice none 0 0,.slice none 0 0,.int .i64 0,.slice none 0 0,.slice none 0 0,.slice none 0 0,.int .i64 0] 32)).alloc (.cells #[.slice a0 g.h.ms.length c0,.slice a1 g.h.bs.length c1,.slice a2 g.h.ts.length c2,.int .i64 g.h.ch,.slice a3 g.s.mo.length c3,.slice a4 g.s.wo.length c4,.slice a5 g.s.wa.length c5,.int .i64 g.s.fr] 32)=w1 at*
 have hw1:=x1.holds
 have hgo:=fun(W:World) (hW:j4 HP W)=>bI5 _ _ _ _ _ _ rv g recs line v D He HP W hW hle0 hT hD hR (by omega)
 replace hgo:=fe6 (hgo w1 hw1)
 clear f0 f1 f2 f3 f4 f5 f6 f7 hR hD
 go_wp2_with(go_at_call 77;refine hgo.out.mono ?_;rintro e w2 ⟨lb,H2,rfl,x2,hit⟩)
 have hw2:=x2.holds
 have hle2:=x2.le hw1
 have hn0:∀b,w.heap.size≤b→b<w1.heap.size→H2 b=none:=fun b h1 h2=>(x2.same b h2).trans (hw.D6 h1)
 have hHn:∀b,w.heap.size≤b→He b=none:=fun b h=>hHe.D6 h
 have bW3:=x2.below
 have hj0:ba8 w.heap.size w HP He (R0+1) R0 g H2 [] w2:=
  ⟨x1.trans x2,hn0 _ (by omega) (by omega),hn0 _ (by omega) (by omega),by omega,⟨(bW3.block R0 (by omega)).trans hz2⟩,He,_,_,_,_,_,_,⟨hHe.below (hbe.trans (bW3.mono hbe.size)),fun b o e=> .inl (hHe.lt e),D8.refl _,fun _ _=>rfl⟩,hHn _ (by omega),hHn _ (by omega),hT,⟨(bW3.block (R0+1) (by omega)).trans ht1⟩⟩
 have hs2:w.heap.size≤w2.heap.size:=fh1 hbe.size bW3.size
 have hs3:R0+2≤w2.heap.size:=by have:=bW3.size;omega
 clear hz hz2 ht1 x1 hsz hbe hw1 hgo x2 hn0 hHn bW3
 refine(wpIn_wide (n:=3)).1 (at6 (k:=3) (H:=H2) rfl (enters_of Tryz.func126 (by kernel_rfl) rfl) hw2 hit (fun _ _ _ ⟨_,e,_⟩=>by rw[e];rfl) (fun _ _ _ _ _ ⟨p,e,h1,h2⟩=>⟨p,e,h1,h2⟩)
  (J:=ba8 w.heap.size w HP He (R0+1) R0 g)
  (Jx:=fun _ _ _ _=>False)
  (J2:=fun Hc pre x args aa W=>ba8 w.heap.size w HP He (R0+1) R0 g Hc pre W∧∃LB p,(W.heap[LB]? =some (.cells #[.int .i64 x.1.ln,p] 142 (0,0))∧Hc LB=none)∧RdP He p x.1.en∧aa={tmps:= #[.pointer (some ⟨D,0,none⟩),.int .i64 line,undef,undef,.pointer (some ⟨R0,0,none⟩),.pointer (some ⟨R0+1,0,none⟩),.pointer (some ⟨LB,0,none⟩),.bool x.2,.pointer (some ⟨D,0,none⟩),.pointer (some ⟨D,0,none⟩),.pointer (some ⟨D,0,none⟩),.agg #[.slice a0 g.h.ms.length c0,.slice a1 g.h.bs.length c1,.slice a2 g.h.ts.length c2,.int .i64 g.h.ch,.slice a3 g.s.mo.length c3,.slice a4 g.s.wo.length c4,.slice a5 g.s.wa.length c5,.int .i64 g.s.fr],.pointer (some ⟨D,0,none⟩),.int .i64 line,.func (.func 126) #[] lb,.agg #[.int .i64 x.1.ln,p],.bool x.2,undef,undef,undef,undef,undef,undef,undef,undef,undef],defers:=[]})
  (ba8.abides hs2 hs2) (fun _ _ _ _ _ _ h _ _=>h) (fun _ _ _=> ?hJ2) hj0 ?assign ?body ?done ?stop)
 case hJ2=>exact fun _ _ _ _ _ ⟨h1,LB,p,h2,h3,e⟩ hh ht=>⟨ba8.abides hs2 hs2 _ _ _ _ _ h1 hh ht,LB,p,ht.keep _ _ _ _ h2.1 h2.2,h3,e⟩
 case assign=>
  rintro l Hc pre x W args hl hWc K5 hj ⟨p,rfl,hi,hrd⟩ hpre
  have hja:=ba8.abides (g:=g) (fh0 w.heap.size) (fh0 _) _ _ _ _ _ hj hWc (Q6.bN5 ((Ext.refl hWc).alloc (.cells #[.int .i64 x.1.ln,p] 142)) hj.x.below.size)
  have hLn:=heap_alloc_new W (.cells #[.int .i64 x.1.ln,p] 142)
  have hWn:=hWc.D6 (fh0 W.heap.size)
  obtain⟨q,rfl⟩:∃q,p= .pointer q:=by
   cases he:x.1.en with
   |none=>rw[he]at hrd;exact⟨none,hrd⟩
   |some y=>rw[he]at hrd;exact⟨_,hrd.choose_spec.1⟩
  gi_wp2
  exact⟨hWc.alloc _,hja,_,_,⟨hLn,hWn⟩,hrd,rfl⟩
 case body=>
  rintro l rc Hc pre x args aa W hl hrc hWc K5 ⟨p',rfl,hi,du6⟩ hpre ⟨hj,LB,p,hLB,hrd,rfl⟩
  clear du6
  have aE0:=cS5 g pre x
  obtain⟨jx,jtb,jr0,jne,jr,K,vm,vb,vt,um,uo,ua,jk,k1,k2,tw,row⟩:=hj
  have vp:=cB7 v pre
  obtain⟨⟨ln,en⟩,b⟩:=x
  simp only at hrd hi aE0 hLB ⊢
  cases b with
  |false=>
   simp only[Bool.false_eq_true,if_false]at aE0
   replace aE0:=fe6 aE0
   gi_wp2
   exact⟨hWc,jx,jtb,jr0,jne,jr,K,vm,vb,vt,um,uo,ua,jk,k1,k2,by rw[aE0.out];exact tw,by rw[aE0.out];exact row⟩
  |true=>
   obtain⟨y,hy⟩:=cr9 _ (hpre.subset (show(⟨⟨ln,en⟩,true⟩:Rec × Bool)∈pre++[(⟨ln,en⟩,true)]by simp)) rfl
   simp only at hy
   subst hy
   obtain⟨E,rfl,hE⟩:=hrd
   simp only[if_true,ac9]at aE0
   have hon:=cr6 E y vm vb vt um uo ua (aD9 g pre) vp K W jk.h (hE.mono jk.le) tw
   unfold aX0 at hon
   generalize aD9 g pre=t at*
   obtain⟨t2,b2,hcb⟩:∃t2 b2,changed t y.word y.nums=(t2,b2):=⟨_,_,rfl⟩
   rw[hcb]at hon aE0
   simp only at aE0
   replace aE0:=fe6 aE0
   obtain⟨m0,m1,m2,m3,m4,m5,m6,m7,mf⟩:=row.cells
   have n0:W.cell? ⟨LB,0,none⟩=some (.int .i64 ln):=by simp[World.cell?,hLB.1]
   have n1:W.cell? ⟨LB,1,none⟩=some (.pointer (some ⟨E,0,none⟩)):=by simp[World.cell?,hLB.1]
   replace hon:=fe6 hon
   clear hcb
   gi_wp2_with (gi_at_call 119;go_must (refine(Calls.wide hon.out).mono ?_;rintro e w3 ⟨_,G3,rfl,xg,u,rfl,qm,qb,qt,qu,qo,qa,rfl,tw2⟩;obtain⟨p0,n0',rfl,_,_⟩:=tw2.h.m.form;obtain⟨p1,n1',rfl,_,_⟩:=tw2.h.b.form;obtain⟨p2,n2,rfl,_,_⟩:=tw2.h.t.form;obtain⟨p3,n3,rfl,_,_⟩:=tw2.s.m.form;obtain⟨p4,n4,rfl,_,_⟩:=tw2.s.o.form;obtain⟨p5,n5,rfl,_,_⟩:=tw2.s.a.form;obtain⟨K4,jk4,tw4,hs4⟩:=jk.ext xg hWc jx.below.size tw2;have k14:=(hs4 _ row.lt).trans k1;have k24:=(hs4 _ jr.lt).trans k2;have jx3:=jx.step (xg.below.mono jx.below.size) (hWc.below xg.below);have jr3:=jr.below xg.below jr.lt;have dV1:=row.below xg.below row.lt;obtain⟨z0,z1,z2,z3,z4,z5,z6,z7,zf⟩:=dV1.cells))
   have rz:=dV1.set (.slice p0 t2.h.ms.length n0') (.slice p1 t2.h.bs.length n1') (.slice p2 t2.h.ts.length n2) (.int .i64 t2.h.ch) (.slice p3 t2.s.mo.length n3) (.slice p4 t2.s.wo.length n4) (.slice p5 t2.s.wa.length n5) (.int .i64 t2.s.fr)
   have hs0:=jx.below.size
   have jx4:=Ext.aC3 jx3 (R:=R0+1) (by omega) jtb (.slice p0 t2.h.ms.length n0') (.slice p1 t2.h.bs.length n1') (.slice p2 t2.h.ts.length n2) (.int .i64 t2.h.ch) (.slice p3 t2.s.mo.length n3) (.slice p4 t2.s.wo.length n4) (.slice p5 t2.s.wa.length n5) (.int .i64 t2.s.fr)
   have jr4:=jr3.off jne (.slice p0 t2.h.ms.length n0') (.slice p1 t2.h.bs.length n1') (.slice p2 t2.h.ts.length n2) (.int .i64 t2.h.ch) (.slice p3 t2.s.mo.length n3) (.slice p4 t2.s.wo.length n4) (.slice p5 t2.s.wa.length n5) (.int .i64 t2.s.fr)
   have jk5:=jk4.with (M9.setH jk4.h k14 (.slice p0 t2.h.ms.length n0') (.slice p1 t2.h.bs.length n1') (.slice p2 t2.h.ts.length n2) (.int .i64 t2.h.ch) (.slice p3 t2.s.mo.length n3) (.slice p4 t2.s.wo.length n4) (.slice p5 t2.s.wa.length n5) (.int .i64 t2.s.fr))
   exact⟨jx4.holds,jx4,jtb,jr0,jne,jr4,K4,_,_,_,_,_,_,jk5,k14,k24,by rw[aE0.out];exact tw4,by rw[aE0.out];exact rz⟩
 case done=>
  rintro DD Hc W hDD hWc K5 hdef ⟨jx,jtb,jr0,jne,jr,K,vm,vb,vt,um,uo,ua,jk,k1,k2,tw,row⟩
  rw[cS7]at tw row
  obtain⟨p0,n0,rfl,_,_⟩:=tw.h.m.form;obtain⟨p1,n1,rfl,_,_⟩:=tw.h.b.form;obtain⟨p2,n2,rfl,_,_⟩:=tw.h.t.form;obtain⟨p3,n3,rfl,_,_⟩:=tw.s.m.form;obtain⟨p4,n4,rfl,_,_⟩:=tw.s.o.form;obtain⟨p5,n5,rfl,_,_⟩:=tw.s.a.form
  have hDW:=hWc.at_ _ _ hdef
  have hDlt:=(Array.getElem?_eq_some_iff.1 hDW).1
  obtain⟨m0,m1,m2,m3,m4,m5,m6,m7,mf⟩:=row.cells
  obtain⟨z0,z1,z2,z3,z4,z5,z6,z7,zf⟩:=jr.cells
  obtain⟨t,ht⟩:∃t,Hid (U8 g (ahead recs line)=t):=⟨_,rfl⟩
  simp only[ht.out]at m0 m1 m2 m3 m4 m5 m6 m7 tw row
  go_wp2_with fail
  have rz:=jr.set (.slice p0 t.h.ms.length n0) (.slice p1 t.h.bs.length n1) (.slice p2 t.h.ts.length n2) (.int .i64 t.h.ch) (.slice p3 t.s.mo.length n3) (.slice p4 t.s.wo.length n4) (.slice p5 t.s.wa.length n5) (.int .i64 t.s.fr)
  have hKz:=M9.setH jk.h k2 (.slice p0 t.h.ms.length n0) (.slice p1 t.h.bs.length n1) (.slice p2 t.h.ts.length n2) (.int .i64 t.h.ch) (.slice p3 t.s.mo.length n3) (.slice p4 t.s.wo.length n4) (.slice p5 t.s.wa.length n5) (.int .i64 t.s.fr)
  have hbz:=(Ext.aC3 jx (by omega) jr0 (.slice p0 t.h.ms.length n0) (.slice p1 t.h.bs.length n1) (.slice p2 t.h.ts.length n2) (.int .i64 t.h.ch) (.slice p3 t.s.mo.length n3) (.slice p4 t.s.wo.length n4) (.slice p5 t.s.wa.length n5) (.int .i64 t.s.fr)).below
  have hne:R0≠DD:=by omega
  have hDz:=(bw0 (W:=W) (S:=R0) hne.symm (.slice p0 t.h.ms.length n0) (.slice p1 t.h.bs.length n1) (.slice p2 t.h.ts.length n2) (.int .i64 t.h.ch) (.slice p3 t.s.mo.length n3) (.slice p4 t.s.wo.length n4) (.slice p5 t.s.wa.length n5) (.int .i64 t.s.fr)).trans hDW
  have rz2:=rz.am3 hne (.deferred none)
  refine ak6 hDz (results_cell_row rfl _ _ R0 32 _ (0,0) _ rfl rz2.at_ Tryz.underlying32 rfl (by kernel_rfl)) ?_
  exact⟨_,K,rfl,⟨ao7 hbz (by omega) (Array.getElem?_eq_some_iff.1 hDz).1,(jk.with hKz).am3 hDz (by omega) _,jk.same⟩,by rw[ht.out];exact⟨_,_,_,_,_,_,rfl,tw⟩⟩
 case stop=>rintro _ _ _ _ _ _ _ _ _ _ h;exact h.elim
end
section
open Go.RowKit
structure Only (D:Nat) (rv:Value) (w w':World):Prop where
 b:Below 0 w w'
 k:∀b,b<w.heap.size→b≠D→rv.ownBlock≠some b→w'.heap[b]? =w.heap[b]?
theorem Only.of {D:Nat} {rv:Value} {w w':World} (h:Below w.heap.size w w'):Only D rv w w':=⟨h.mono (fh3 _),fun b hb _ _=>h.block b hb⟩
theorem Only.trans {D:Nat} {rv rv':Value} {a b c:World} (h:Only D rv a b) (k:Only D rv' b c) (hr:∀g,g<a.heap.size→rv'.ownBlock=some g→rv.ownBlock=some g):Only D rv a c:=
 ⟨h.b.trans k.b,fun g hg h1 h2=>(k.k g (fh4 hg h.b.size) h1 (fun e=>h2 (hr g hg e))).trans (h.k g hg h1 h2)⟩
theorem Only.below {D n:Nat} {rv:Value} {w w':World} (h:Only D rv w w') (hn:n≤w.heap.size) (hD:n≤D) (hr:∀g,rv.ownBlock=some g→n≤g):Below n w w':=
 ⟨h.b.os,h.b.tape,h.b.output,h.b.size,fun g hg=>h.k g (by omega) (by omega) (fun e=>by have:=hr g e;omega)⟩
theorem Only.setRow {D i:Nat} {rv:Value} {w w':World} {g:Nat} (h:Only D rv w w') (hg:rv.ownBlock=some g∨g=D∨w.heap.size≤g) (u:Value):Only D rv w (w'.setCell ⟨g,i,none⟩ u):=
 ⟨h.b.setCell (fh3 _) u,fun b hb h1 h2=>(heap_setCell_other w' ⟨g,i,none⟩ b u (by rintro rfl;rcases hg with hg|hg|hg;exact h2 hg;exact h1 hg;omega)).trans (h.k b hb h1 h2)⟩
section
variable {He:j5} {base:Nat} {w w':World} {D:Nat} {gm gb gt gu go' ga rv:Value} {g:D5} {recs:List Rec}
theorem L8.lt (d:L8 He base w D gm gb gt gu go' ga rv g recs):D<w.heap.size:=(Array.getElem?_eq_some_iff.1 d.row).1
theorem L8.ext {H':j5} (d:L8 He base w D gm gb gt gu go' ga rv g recs) (hx:Ext w He w' H'):L8 H' base w' D gm gb gt gu go' ga rv g recs:=
 ⟨hx.holds,(hx.below.block D d.lt).trans d.row,(hx.same D d.lt).trans d.nD,d.t.mono (hx.le d.h),d.own.ext d.h hx,d.l⟩
theorem L8.below (d:L8 He base w D gm gb gt gu go' ga rv g recs) (hb:Below w.heap.size w w'):L8 He base w' D gm gb gt gu go' ga rv g recs:=d.ext ⟨hb,d.h.below hb,fun _ _=>rfl⟩
theorem L8.neD (d:L8 He base w D gm gb gt gu go' ga rv g recs):rv.ownBlock≠some D:=fun e=>by
 obtain⟨cur,h⟩:=d.own.X7 e
 rw[d.row]at h
 simp only[Option.some.injEq,Obj.cells.injEq]at h
 exact absurd h.2.1 (by decide)
theorem L8.ex2 {b o c k:Nat} {r:Rec} {p:Value} {en:Option F7} (d:L8 He base w D gm gb gt gu go' ga rv g recs) (hv:rv= .slice (some ⟨b,o,none⟩) recs.length c) (hk:At recs k r) (hp:RdP He p en):
 rv.ownBlock=some b∧o=0∧base≤b∧He b=none∧(∃u,w.cell? ⟨b,o+k*2+1,none⟩=some u)∧w.frozen? ⟨b,o+k*2+1,none⟩=false∧
   L8 He base (w.setCell ⟨b,o+k*2+1,none⟩ p) D gm gb gt gu go' ga rv g (recs.set k ⟨r.ln,en⟩):=by
 subst hv
 obtain⟨g',e⟩:=d.own.addr rfl (by have:=hk.lt;omega)
 cases e
 obtain⟨ds,⟨p0,hds,hi,hp0⟩,h1,h2,h3,h4,h5⟩:=d.own.as9 hk
 have hne:b≠D:=fun e=>d.neD (by rw[←e];rfl)
 have e1:(0:Nat)+k*2+1=k*Enc.sz Rec+1:=by show 0+k*2+1=k*2+1;omega
 rw[e1]
 refine⟨rfl,rfl,h1,h2,⟨p0,h4 1 _ (by rw[hds];rfl)⟩,h5 _,d.h.setCell (a:=⟨b,_,none⟩) h2 _, ?_,d.nD,d.t, ?_,by rw[List.length_set];exact d.l⟩
 ·exact(heap_setCell_other w ⟨b,_,none⟩ D p (Ne.symm hne)).trans d.row
 ·refine d.own.aV3 hk (by decide) fun ds ⟨q,e,k1,k2⟩=>⟨p, ?_,k1,hp⟩
  rw[e];rfl
end
end
section
open Go.RowKit
section
variable {He:j5} {base:Nat} {w W':World} {D:Nat} {gm gb gt gu go' ga rv v':Value} {g:D5} {recs:List Rec} {r:Rec}
theorem L8.app {o:Obj} (d:L8 He base w D gm gb gt gu go' ga rv g recs) (hl:recs.length<1000) (ho:Own He base W' 142 v' (recs++[r])) (hg:(w.alloc o).grownBy W' rv.ownBlock) (hw:j4 He W'):
 W'.cell? ⟨D,8,none⟩=some rv∧W'.frozen? ⟨D,8,none⟩=false∧Only D rv w (W'.setCell ⟨D,8,none⟩ v')∧L8 He base (W'.setCell ⟨D,8,none⟩ v') D gm gb gt gu go' ga v' g (recs++[r]):=by
 have hD:W'.heap[D]? =some (.cells #[gm,gb,gt,.int .i64 g.h.ch,gu,go',ga,.int .i64 g.s.fr,rv] 137 (0,0)):=
  (hg.block D (by rw[World.size_alloc];have:=d.lt;omega) (fun e=>d.neD e.symm)).trans ((heap_alloc_old w o d.lt).trans d.row)
 have hne:v'.ownBlock≠some D:=fun e=>by
  obtain⟨cur,h⟩:=ho.X7 e
  rw[hD]at h
  simp only[Option.some.injEq,Obj.cells.injEq]at h
  exact absurd h.2.1 (by decide)
 refine⟨by rw[Lib.cell_of_heap hD];rfl,Lib.frozen_of_heap hD 8, ?_,hw.setCell (a:=⟨D,8,none⟩) d.nD _, ?_,d.nD,d.t,ho.setCell (a:=⟨D,8,none⟩) hne _,by rw[ff4,ff7];omega⟩
 ·refine Only.setRow ⟨?_,fun b hb h1 h2=> ?_⟩ (.inr (.inl rfl)) v'
  ·exact((Below.refl 0 w).alloc (fh3 _) o).grown hg (fh3 _) (fun _ _=>fh3 _)
  ·exact(hg.block b (by rw[World.size_alloc];omega) (fun e=>h2 e.symm)).trans (heap_alloc_old w o hb)
 ·have:=M7 (i:=8) hD v'
  simp only[fe7,ff1,ff2]at this
  exact this
end
end
section
open Go.RowKit
attribute [local go_sem] j4.drew j4.alloc j4.drewN WB.holds Oper.semAt_some Q9 O1 J7
def bit (b:Bool):Int:=if b then 1 else 0
theorem bm5 (b:Bool) (w:World):Calls Tryz.prog 120 #[.int .i64 (bit b)] w (fun e w'=>e= .returned (.string (ae4 b))∧w=w'):=by
 have x0:∀w:World,(Instr.index 238 (.agg #[.string ⟨#[110,111]⟩,.string ⟨#[111,107]⟩]) (.int .i64 0)).run Tryz.prog w= .ok (.string ⟨#[110,111]⟩) w:=fun _=>by kernel_rfl
 have x1:∀w:World,(Instr.index 238 (.agg #[.string ⟨#[110,111]⟩,.string ⟨#[111,107]⟩]) (.int .i64 1)).run Tryz.prog w= .ok (.string ⟨#[111,107]⟩) w:=fun _=>by kernel_rfl
 cases b
 all_goals
  simp only[bit,if_true,Bool.false_eq_true,if_false]
  go_enter Tryz.func120,Tryz.ntmps120
  go_wp2
  go_ret
  exact⟨rfl,rfl⟩
def aE1 (recs:List Rec) (was is:List Int):Nat→ByteArray
 |0=>wOk
 |k+1=>if is.getD k 0=was.getD k 0 then aE1 recs was is k else aE1 recs was is k++(((⟨#[32]⟩++G6 (recs.getD k default).ln)++⟨#[58]⟩)++ae4 (decide (is.getD k 0=1)))
def cU0 (g:D5) (recs ap0:List Rec) (line:Int):ByteArray:=aE1 ap0 (al6 g recs line) (al6 g ap0 line) (al6 g ap0 line).length
def X8 (He:j5) (base:Nat) (w:World) (D:Nat) (gm gb gt gu go' ga rv:Value) (g:D5) (ap0:List Rec) (s:ByteArray) (e:Ending) (w':World):Prop:=
 ∃He' rv',e= .returned (.string s)∧Only D rv w w'∧(∀b,b<w.heap.size→He' b=He b)∧L8 He' base w' D gm gb gt gu go' ga rv' g ap0
def aE2 (recs:List Rec) (n line:Int) (en:Option F7):List Rec:=match av8 recs n line with
 |none=>recs
 |some k=>recs.set k ⟨n,en⟩
def bm6 (g:D5) (recs:List Rec) (n line:Int) (en:Option F7):ByteArray:=match av8 recs n line with
 |none=>wNo
 |some _=>cU0 g recs (aE2 recs n line en) line
theorem bm7 {n:Int} (h0:0≤n) (h1:n≤9999):(G6 n).size≤4:=by
 obtain⟨k,rfl⟩:=Int.eq_ofNat_of_zero_le h0
 show(Lib.itoa (k:Int)).length≤4
 rw[ay2];exact aI6 _ 3 (by omega)
theorem du7 (recs:List Rec) (was is:List Int) (hr:∀r∈recs,0≤r.ln∧r.ln≤9999) (k:Nat) (hk:k≤recs.length):(aE1 recs was is k).size≤2+8*k:=by
 induction k with
 |zero=>exact fh0 _
 |succ k ih=>
  have h:=ih (by omega)
  unfold aE1
  split
  ·omega
  ·have e:recs.getD k default=recs[k]:=by rw[ff3,fg0 (by omega)];rfl
   have h1:=hr recs[k] (List.getElem_mem _)
   have h2:=bm7 h1.1 h1.2
   have h3:(ae4 (decide (is.getD k 0=1))).size=2:=by cases decide (is.getD k 0=1)<;>rfl
   rw[e]
   simp only[ByteArray.size_append,h3]
   have h4:(⟨#[32]⟩:ByteArray).size=1:=rfl
   have h5:(⟨#[58]⟩:ByteArray).size=1:=rfl
   omega
theorem cd1 (recs:List Rec) (line:Int):(ahead recs line).length=((recs.map Rec.ln).takeWhile fun n=>decide (n<line)).length:=by
 unfold ahead
 rw[List.takeWhile_map,fg5];rfl
theorem dJ4 {recs:List Rec} {k:Nat} {r:Rec} (hk:At recs k r) (en:Option F7):(recs.set k ⟨r.ln,en⟩).map Rec.ln=recs.map Rec.ln:=by
 rw[List.map_set]
 refine List.ext_getElem? fun i=> ?_
 by_cases h:k=i
 ·subst h
  rw[List.getElem?_set_self (by rw[fg5];exact hk.lt),List.getElem?_map,show recs[k]? =some r from hk];rfl
 ·rw[List.getElem?_set_ne h]
theorem dh2 {g:D5} {recs:List Rec} {line:Int} {k:Nat} {y:Int} (h:At (al6 g recs line) k y):∃b,y=bit b:=by
 unfold al6 at h
 obtain⟨x,_,rfl⟩:=List.mem_map.1 h.mem
 exact⟨x.2,rfl⟩
theorem At.dB9 {l:List Int} {k:Nat} {y:Int} (h:At l k y):l.getD k 0=y:=by rw[ff3,show l[k]? =some y from h];rfl
theorem At.du8 {l:List Rec} {k:Nat} {y:Rec} (h:At l k y):l.getD k default=y:=by rw[ff3,show l[k]? =some y from h];rfl
theorem bF8 {He:j5} {base:Nat} {w:World} {D:Nat} {gm gb gt gu go' ga rv:Value} {g:D5} {recs:List Rec} (d:L8 He base w D gm gb gt gu go' ga rv g recs) (v:F6 g=true) (dr:Doors He) (hr:∀r∈recs,0≤r.ln∧r.ln≤9999) (line n:Int) (q:Option Addr) (en:Option F7) (hp:RdP He (.pointer q) en):
 Calls Tryz.prog 125 #[.pointer (some ⟨D,0,none⟩),.int .i64 line,.int .i64 n,.pointer q] w (X8 He base w D gm gb gt gu go' ga rv g (aE2 recs n line en) (bm6 g recs n line en)):=by
 have hfind:=cs3 d n line
 unfold X8 aE2 bm6
 cases hf:av8 recs n line with
 |none=>
  rw[hf]at hfind
  replace hfind:=fe6 hfind
  clear hf
  go_enter Tryz.func125,Tryz.ntmps125
  go_wp2_with(first|((go_at_call 124;refine hfind.out.mono ?_;rintro e w1 ⟨hb,_,rfl,rfl⟩))|((go_at_call 120;refine(bm5 false w1).mono ?_;rintro e w2 ⟨rfl,rfl⟩)))
  go_ret
  exact⟨He,rv,rfl,Only.of hb,fun _ _=>rfl,d.below hb⟩
 |some k=>
  rw[hf]at hfind
  have hrc:aE2 recs n line en=recs.set k ⟨n,en⟩:=by unfold aE2;rw[hf]
  obtain⟨r,hrk,hln,hlt⟩:=bI6 hf
  clear hf
  replace hfind:=fe6 hfind
  dsimp only
  generalize dh3:recs.set k ⟨n,en⟩=ap0
  rw[dh3]at hrc
  generalize hS:cU0 g recs ap0 line=S
  rw[←hrc]at hS
  replace hS:=fe6 hS
  go_enter Tryz.func125,Tryz.ntmps125
  go_upto_region 4 with(go_at_call 124;refine hfind.out.mono ?_;rintro e w1 ⟨hb,_,rfl,hk,b,o,c,hv,rfl⟩)
  have d1:=d.below hb
  have dC0:=fe6 (bF4 d1 v line)
  go_upto_region 5 with(go_at_call 179;refine dC0.out.mono ?_;rintro e w2 ⟨u1,H2,rfl,x2,hu1⟩)
  have d2:=d1.ext x2
  obtain⟨hob,rfl,hbb,eV5,⟨u0,hu0⟩,hfz,d3⟩:=d2.ex2 hv hrk (hp.mono (x2.le d1.h))
  simp only[Nat.zero_add]at hu0 hfz d3
  have hle:=(cc6 g recs line)
  have hlen3:=cc6 g (recs.set k ⟨r.ln,en⟩) line
  have hlen:(al6 g (recs.set k ⟨r.ln,en⟩) line).length=(al6 g recs line).length:=by rw[hlen3,hle,cd1,cd1,dJ4 hrk]
  have hlr:(al6 g (recs.set k ⟨r.ln,en⟩) line).length≤(recs.set k ⟨r.ln,en⟩).length:=by rw[hlen3];exact bw1 _ _
  have hr3:∀x∈recs.set k ⟨r.ln,en⟩,0≤x.ln∧x.ln≤9999:=fun x hx=>by
   rcases List.mem_or_eq_of_mem_set hx with h|rfl
   ·exact hr x h
   ·exact hr r hrk.mem
  have hon:=Only.of (D:=D) (rv:=rv) (hb.trans (x2.below.mono hb.size))
  replace hon:=hon.setRow (i:=k*2+1) (.inl hob) (.pointer q)
  rw[hln]at d3 hlen hlr hr3 hlen3
  have eK0:=d3.l
  rw[dh3]at d3 hlen hlr hr3
  have dC1:∀g',g'<w.heap.size→H2 g'=He g':=fun g' h=>x2.same g' (fh4 h hb.size)
  have ex3:=hon
  clear hlt hrk hv hk hle hlen3
  go_upto_region 7 with(go_at_call 120;refine(bm5 true _).mono ?_;rintro e w5 ⟨rfl,rfl⟩)
  generalize w2.setCell ⟨b,k*2+1,none⟩ (.pointer q)=w4 at*
  have dC2:=fe6 (bF4 d3 v line)
  go_wp2_with(go_at_call 179;refine dC2.out.mono ?_;rintro e w3 ⟨u2,H3,rfl,x3,hu2⟩;obtain⟨p2,c2,rfl,_,_⟩:=hu2.form)
  have hw3:=x3.holds
  have hle3:=x3.le d3.h
  have ex4:=hu1.mono hle3
  obtain⟨p1,c1,rfl,_,_⟩:=hu1.form
  have d5:=d3.ext x3
  have dr3:Doors H3:=((dr.mono (x2.le d1.h)).mono hle3)
  have hl5:=d3.l
  have ch8:=fun(k:Nat) (y:Int) (h:At (al6 g ap0 line) k y)=>dh2 h
  have hS2:Hid (aE1 ap0 (al6 g recs line) (al6 g ap0 line) (al6 g ap0 line).length=S):=by show _=_;rw[←hS.out,hrc];rfl
  clear hrc
  replace ch8:=fe6 ch8
  generalize al6 g ap0 line=L2 at*
  generalize al6 g recs line=L1 at*
  have ct5:=hon.trans (Only.of x3.below) (fun _ _ h=>h)
  have ex5:∀g',g'<w.heap.size→H3 g'=He g':=fun g' h=>(x3.same g' (fh4 h hon.b.size)).trans (dC1 g' h)
  have hle':=du7 ap0 L1 L2 hr3
  clear dC2 dC0 hfind d1 d2 d3 d hb dC1 hon ex3 x2 x3 hu1
  go_loopw [11,12,13,33] (fun out _ _ i wr=>∃(j:Nat) (acc:ByteArray),j≤L2.length∧i= .int .i64 j∧out= .string acc∧Hid (acc=aE1 ap0 L1 L2 j)∧Ext w3 H3 wr H3) (fun _ _ _ i _=>L2.length-(intOf i).toNat)
  case atStart=>exact⟨0,wOk,fh3 _,rfl,rfl,rfl,Ext.refl hw3⟩
  case round=>
   obtain⟨j,acc,hj,rfl,rfl,hacc,E5⟩:=hrel
   have hwr:=E5.holds
   by_cases hlk:j<L2.length
   ·obtain⟨y,hy⟩:=At.mk hlk
    obtain⟨x,hx⟩:=At.mk (xs:=L1) (k:=j) (by omega)
    obtain⟨rj,hrj⟩:=At.mk (xs:=ap0) (k:=j) (by omega)
    obtain⟨b2,o2,cc2,he2,hi2,hc2⟩:=hu2.int hy
    cases he2
    obtain⟨b1,o1,cc1,he1,hi1,hc1⟩:=ex4.int hx
    cases he1
    obtain⟨by',rfl⟩:=ch8.out _ _ hy
    have dj:=d5.ext E5
    obtain⟨ar,cr,hrv,_,_⟩:=dj.own.form
    subst hrv
    obtain⟨gr,rfl⟩:=dj.own.addr rfl (by have:=hrj.lt;omega)
    obtain⟨ds,⟨pj,hds,hij,hpj⟩,_,_,_,hcr,_⟩:=dj.own.as9 hrj
    have du9:=hcr 0 _ (by rw[hds];rfl)
    have hD8:wr.cell? ⟨D,8,none⟩=some (.slice (some ⟨gr,0,none⟩) ap0.length cr):=by simp[World.cell?,dj.row]
    simp only[Enc.sz,fh2]at du9
    have hx0:=hx.dB9
    have hy0:=hy.dB9
    have hr0:=hrj.du8
    have dV4:=hr3 rj hrj.mem
    have htl:=bm7 dV4.1 dV4.2
    have hal:=hle' j (by omega)
    rw[←hacc.out]at hal
    have hsucc:aE1 ap0 L1 L2 (j+1)=if bit by'=x then acc else acc++(((⟨#[32]⟩++G6 rj.ln)++⟨#[58]⟩)++ae4 by'):=by
     rw[hacc.out]
     show(if L2.getD j 0=L1.getD j 0 then _ else _++(((⟨#[32]⟩++G6 (ap0.getD j default).ln)++⟨#[58]⟩)++ae4 (decide (L2.getD j 0=1))))=_
     rw[hx0,hy0,hr0]
     have:decide (bit by'=1)=by':=by cases by'<;>rfl
     rw[this]
    have hit:=ap8 rj.ln (by unfold K8;omega) H3 dr3
    have hwd:=bm5 by'
    have hj0:(0:Int)≤(j:Int):=by omega
    have hj1:(j:Int)<(L2.length:Int):=by omega
    have hj2:(j:Int)<(L1.length:Int):=by omega
    have hj3:(j:Int)<(ap0.length:Int):=by omega
    have hok2:(ae4 by').size=2:=by cases by'<;>rfl
    replace hit:=fe6 hit
    replace hwd:=fe6 hwd
    clear dj hcr hds hpj ch8 hle' hy hx hrj hr3 hx0 hy0 hr0
    by_cases hyx:bit by'=x
    ·rw[if_pos hyx]at hsucc
     replace hsucc:=fe6 hsucc
     have hne:(bit by' != x)=false:=by rw[hyx];exact bne_self_eq_false x
     go_wp2
     go_roundw
     case rel=>exact⟨j+1,acc,hlk,by go_num,rfl,by show _=_;rw[hsucc.out],E5⟩
     case measure=>simp[intOf];omega
    ·rw[if_neg hyx]at hsucc
     replace hsucc:=fe6 hsucc
     have hne:(bit by' != x)=true:=bne_iff_ne.2 hyx
     generalize G6 rj.ln=u at*
     go_wp2_with(first|(go_at_call 149;refine(hit.out _ hwr).mono ?_;rintro e w6 ⟨rfl,hb6⟩)|(go_at_call 120;refine(hwd.out _).mono ?_;rintro e w7 ⟨rfl,rfl⟩))
     go_roundw
     case rel=>exact⟨j+1,_,hlk,by go_num,rfl,by show _=_;rw[hsucc.out],E5.step (hb6.mono E5.below.size) (hwr.below hb6)⟩
     case measure=>simp[intOf];omega
   ·have hje:j=L2.length:=by omega
    go_wp2_with fail
    go_ret
    rw[hS.out,←hS2.out,←hje,←hacc.out]
    exact⟨H3,rv,rfl,ct5.trans (Only.of E5.below) (fun _ _ h=>h),ex5,d5.ext E5⟩
end
section
open Go.RowKit
attribute [local go_sem] j4.drew j4.alloc j4.drewN WB.holds Oper.semAt_some
theorem bg4 (n e:Int) (w:World):Calls Tryz.prog 166 #[.int .i64 n,.int .i64 e] w fun r w'=>r= .returned (.tuple #[.iface 241 (.int .i64 n),.int .i64 e])∧w=w':=by
 go_enter Tryz.func166,Tryz.ntmps166
 go_wp2
 refine bodyPost_ret (results_tmp2 rfl _ _ _) rfl ?_
 exact⟨rfl,rfl⟩
theorem ct6 (a:Option Addr) (n c:Nat) (e:Int) (w:World):Calls Tryz.prog 168 #[.slice a n c,.int .i64 e] w fun r w'=>r= .returned (.tuple #[.iface 245 (.slice a n c),.int .i64 e])∧w=w':=by
 go_enter Tryz.func168,Tryz.ntmps168
 go_wp2
 refine bodyPost_ret (results_tmp2 rfl _ _ _) rfl ?_
 exact⟨rfl,rfl⟩
theorem cC4 (n:Int) (hn:K8 n) (H:j5) (d:Doors H) (w:World) (hw:j4 H w):Calls Tryz.prog 278 #[.int .i64 n] w (I1 w (.string (G6 n))):=by
 have hit:=fun(W:World) (hW:j4 H W)=>ap8 n hn H d W hW
 replace hit:=fe6 hit
 go_enter Tryz.func278,Tryz.ntmps278
 go_wp2_with(first|((go_at_call 149;refine(hit.out _ hw).mono ?_;rintro e w2 ⟨rfl,hb2⟩)))
 go_ret
 exact⟨rfl,hb2⟩
def bB2 (l:List Int):ByteArray:=if l=[]then bH2 else J9 (l.map G6)
theorem bF9 (l:List ByteArray) (m:Nat) (h:∀s∈l,s.size≤m):∀k,k≤l.length→(ah6 l k).length≤k*(m+1)
 |0,_=>by simp[ah6]
 |k+1,hk=>by
  have ih:=bF9 l m h k (by omega)
  have hs:=h (l.getD k ⟨#[]⟩) (by rw[ff3,fg0 (by omega)];exact List.getElem_mem _)
  have hb:(C8 (l.getD k ⟨#[]⟩)).length≤m:=by unfold C8;simpa using hs
  rw[aE8,ff4,ff4,Nat.add_mul]
  split<;>simp only[fg1,ff7]<;>omega
theorem bO3 (l:List ByteArray) (m:Nat) (h:∀s∈l,s.size≤m):(J9 l).size≤l.length*(m+1):=bF9 l m h _ (fh0 _)
theorem aC4 {n:Int} (h0:0≤n) (h1:n≤9999):(G6 n).size≤4:=by
 obtain⟨k,rfl⟩:=Int.eq_ofNat_of_zero_le h0
 show(Lib.itoa (k:Int)).length≤4
 rw[ay2];exact aI6 _ 3 (by omega)
theorem ct7 (v:Value) (l:List Int) (hl:l.length≤1000) (hb:∀x∈l,0≤x∧x≤9999) (H:j5) (d:Doors H) (w:World) (hw:j4 H w) (hv:Sl H v l):Calls Tryz.prog 279 #[v] w (I1 w (.string (bB2 l))):=by
 obtain⟨a,c,rfl,_,_⟩:=hv.form
 by_cases hn:l.length=0
 ·have e:bB2 l=bH2:=by unfold bB2;rw[if_pos (List.eq_nil_of_length_eq_zero hn)]
  have hz:((l.length:Int)==0)=true:=beq_iff_eq.2 (by omega)
  rw[e]
  clear e
  go_enter Tryz.func279,Tryz.ntmps279
  go_wp2
  go_ret
  exact⟨rfl,Below.refl _ _⟩
 ·have e:bB2 l=J9 (l.map G6):=by unfold bB2;rw[if_neg (fun h=>hn (by rw[h];rfl))]
  have hz:((l.length:Int)==0)=false:=beq_eq_false_iff_ne.2 (by omega)
  rw[e]
  clear e
  have hjz:(J9 (l.map G6)).size≤100000:=by
   have h1:=bO3 (l.map G6) 4 (fun s hs=>by
    obtain⟨x,hx,rfl⟩:=List.mem_map.1 hs
    exact aC4 (hb x hx).1 (hb x hx).2)
   rw[fg5]at h1
   omega
  have hjn:=fun(va:Value) (H1:j5) (W:World) (hW:j4 H1 W) (ha:Sl H1 va (l.map G6))=>bw5 va (l.map G6) (by rw[fg5];omega) hjz H1 W hW ha
  replace hjn:=fe6 hjn
  obtain⟨J,hJ⟩:∃J,Hid (J9 (l.map G6)=J):=⟨_,rfl⟩
  rw[hJ.out]
  have hit:=fun(n:Int) (hn:K8 n) (W:World) (hW:j4 H W)=>ap8 n hn H d W hW
  replace hit:=fe6 hit
  clear hjz
  go_enter Tryz.func279,Tryz.ntmps279
  go_wp2
  go_loopw [3,5,11] (fun v3 _ i wr=>∃k:Nat,k≤l.length∧i= .int .i64 (k:Int)∧Ext w H wr H∧Own H w.heap.size wr 9 v3 ((l.take k).map G6)) (fun _ _ i _=>l.length-(intOf i).toNat)
  case atStart=>exact⟨0,fh3 _,rfl,Ext.refl hw,Own.nil _ _ _ _⟩
  case round=>
   obtain⟨k,hk,rfl,E5,ho⟩:=hrel
   have hwr:=E5.holds
   have hk0:(0:Int)≤(k:Int):=by omega
   obtain⟨av,cv,rfl,_,_⟩:=ho.form
   by_cases hlk:k<l.length
   ·obtain⟨x,hx⟩:=At.mk hlk
    obtain⟨b,o,cc,he,hi,hc⟩:=hv.int hx
    cases he
    have hk1:(k:Int)<(l.length:Int):=by omega
    have hbx:=hb x hx.mem
    have hsz:(G6 x).size≤140737488355328:=fh1 (aC4 hbx.1 hbx.2) (by omega)
    have ex6:=fe6 (hit.out x hi)
    have hml:((l.take k).map G6).length≤1000:=by rw[fg5,fg6];omega
    have hsn:(l.take (k+1)).map G6=(l.take k).map G6++[G6 x]:=by rw[hx.take,List.map_append];rfl
    generalize G6 x=u at*
    generalize(l.take k).map G6=acc at*
    replace hsn:=fe6 hsn
    have hbS:Hid ((acc.length+1)*Enc.M4 ByteArray≤140737488355328):=by show _*16≤_;omega
    have aH8:Hid (acc.length+1≤9223372036854775807):=by show _≤_;omega
    go_wp2_with(first|((at_builtin;go_must (refine au7 (c:=1) (cs:=[.string u]) bi0 rfl _ _ rfl rfl o2 rfl ⟨rfl,hsz⟩ x2.holds hbS.out aH8.out x2.below.size ?_);intro v3 w3 o3 g3 hw3 _;have x3:=(x2.alloc _).grown g3 (fun k hk=>(o2.lt k hk).1) (fun k hk=>o2.free k hk)))|((go_at_call 149;refine(ex6.out _ hwr).mono ?_;rintro e w2 ⟨rfl,hb2⟩;have x2:=E5.step (hb2.mono E5.below.size) (hwr.below hb2);have o2:=ho.az2 hb2)))
    go_roundw
    case rel=>exact⟨k+1,hlk,by go_num,x3,by rw[hsn.out];exact o3⟩
    case measure=>simp[intOf];omega
   ·have hke:k=l.length:=by omega
    have hnk:¬(k:Int)<(l.length:Int):=by omega
    rw[hke,List.take_length]at ho
    obtain⟨H3,x3,I9,s3,_⟩:=ho.close E5
    have hw3:=x3.holds
    simp only[fg5,fg6]at s3 ⊢
    go_wp2_with(first|((go_at_call 148;refine(hjn.out _ H3 _ hw3 (by simpa [hke]using s3)).mono ?_;rintro e w2 ⟨rfl,hb2⟩)))
    go_ret
    rw[←hJ.out]
    exact⟨rfl,x3.below.trans (hb2.mono x3.below.size)⟩
end
section
def aQ7 (x:F7):Option F7:=if x.kind=1 then some x else none
def an3 (written:List F7) (i:Nat):Bool:=decide ((written.getD i E9).kind=1)
def ae9 (now:List F7) (i:Nat):Rec:=⟨(i:Int),aQ7 (now.getD i E9)⟩
def I6 (written now:List F7) (k:Nat):List Rec:=((List.range k).filter (an3 written)).map (ae9 now)
structure ac7 (written now:List F7):Prop where
 len:now.length=written.length
 no:∀i,(written.getD i E9).kind≠1→(now.getD i E9).kind≠1
theorem ab8 (written now:List F7) (k:Nat):I6 written now (k+1)=I6 written now k++(if an3 written k then [ae9 now k]else []):=by
 unfold I6
 rw[List.range_succ,List.filter_append,List.map_append]
 congr 1
 rw[List.filter_cons,List.filter_nil]
 split<;>rfl
theorem bO4 (t:D5) (i:Int) (x:F7):ac9 t ⟨i,aQ7 x⟩=M8 t x:=by
 unfold aQ7 M8
 by_cases h:x.kind=1
 ·rw[if_pos h,if_pos h];rfl
 ·rw[if_neg h,if_neg h];rfl
theorem bW4 (l:List F7) {k:Nat} (h:k<l.length):l.take (k+1)=l.take k++[l.getD k E9]:=by
 rw[List.take_succ,fg0 h,ff3,fg0 h];rfl
theorem bm8 {written now:List F7} (d:ac7 written now) (g:D5):∀k,k≤now.length→U8 g (I6 written now k)=Z5 g (now.take k)
 |0,_=>rfl
 |k+1,hk=>by
  rw[ab8,cc5,bm8 d g k (by omega),bW4 now (by omega),ck6]
  by_cases h:an3 written k=true
  ·rw[if_pos h]
   show(ac9 _ (ae9 now k)).1=_
   unfold ae9
   rw[bO4]
  ·rw[if_neg h]
   have h2:=d.no k (by unfold an3 at h;simpa using h)
   rw[bi9 h2];rfl
theorem bm9 (written now:List F7) (line:Int):∀k,ahead (I6 written now k) line=I6 written now (min line.toNat k)
 |0=>by rw[Nat.min_zero];rfl
 |k+1=>by
  have ih:=bm9 written now line k
  rw[ab8]
  unfold ahead at*
  rw[List.takeWhile_append,ih]
  by_cases h:k<line.toNat
  ·rw[Nat.min_eq_right (Nat.le_of_lt h),if_pos rfl,Nat.min_eq_right h,ab8]
   congr 1
   split
   ·rw[List.takeWhile_cons,if_pos (by unfold ae9;exact decide_eq_true (by show(k:Int)<line;omega))];rfl
   ·rfl
  ·rw[Nat.min_eq_left (by omega),Nat.min_eq_left (by omega)]
   by_cases e:(I6 written now line.toNat).length=(I6 written now k).length
   ·rw[if_pos e]
    have hpre:I6 written now k=I6 written now line.toNat:=by
     have h1:List.takeWhile (fun r=>decide (r.ln<line)) (I6 written now k)=I6 written now line.toNat:=by rw[ih,Nat.min_eq_left (by omega)]
     have h2:=List.takeWhile_prefix (l:=I6 written now k) (fun r=>decide (r.ln<line))
     rw[h1]at h2
     exact(h2.eq_of_length e).symm
    rw[hpre]
    split
    ·rw[List.takeWhile_cons,if_neg (by unfold ae9;simp;omega),List.append_nil]
    ·rw[List.takeWhile_nil,List.append_nil]
   ·rw[if_neg e]
theorem bw7 {written now:List F7} (d:ac7 written now) (g:D5) {line:Int} (h0:0≤line):U8 g (ahead (I6 written now now.length) line)=Z5 g (now.take line.toNat):=by
 rw[bm9,bm8 d g _ (Nat.min_le_right _ _)]
 by_cases h:line.toNat≤now.length
 ·rw[Nat.min_eq_left h]
 ·rw[Nat.min_eq_right (by omega),List.take_length,fg7 (by omega)]
end
section
theorem aU0 (g:D5) (now:List F7) {k:Nat} (hk:k<now.length):(O3 g now).getD k false=(M8 (Z5 g (now.take k)) (now.getD k E9)).2:=by
 have e:now=now.take k++(now[k]::now.drop (k+1)):=by rw[←List.drop_eq_getElem_cons hk,List.take_append_drop]
 have e2:now.getD k E9=now[k]:=by rw[ff3,fg0 hk];rfl
 rw[e2]
 conv=>lhs;rw[e,cz2]
 rw[ff3,List.getElem?_append_right (by rw[aE9,fg6];omega),aE9,fg6,Nat.min_eq_left (by omega),Nat.sub_self]
 rfl
theorem bw8 {written now:List F7} (d:ac7 written now) (g:D5):∀k,k≤now.length→U4 g (I6 written now k)=((List.range k).filter (an3 written)).map fun i=>(ae9 now i,(O3 g now).getD i false)
 |0,_=>rfl
 |k+1,hk=>by
  rw[ab8,bv8,bw8 d g k (by omega),bm8 d g k (by omega),List.range_succ,List.filter_append,List.map_append]
  congr 1
  rw[List.filter_cons,List.filter_nil]
  by_cases h:an3 written k=true
  ·rw[if_pos h,if_pos h]
   show [(ae9 now k,(ac9 _ (ae9 now k)).2)]=[(ae9 now k,_)]
   rw[aU0 g now (by omega)]
   unfold ae9
   rw[bO4]
  ·rw[if_neg h,if_neg h];rfl
theorem cd2 (written now:List F7) {line:Int} (h:(now.length:Int)≤line):ahead (I6 written now now.length) line=I6 written now now.length:=by
 rw[bm9,Nat.min_eq_right (by omega)]
theorem cd3 {written now:List F7} (d:ac7 written now) (g:D5) {line:Int} (h:(now.length:Int)≤line):al6 g (I6 written now now.length) line=((List.range now.length).filter (an3 written)).map fun i=>bit ((O3 g now).getD i false):=by
 unfold al6
 rw[cd2 written now h,bw8 d g _ (fh0 _),List.map_map]
 rfl
theorem dh4 {written now:List F7} (d:ac7 written now) (g:D5) {line:Int} (h:(now.length:Int)≤line):
 ((U4 g (ahead (I6 written now now.length) line)).filter fun x=>x.2).map (fun x=>match x.1.en with|some y=>y.text|none=>⟨#[]⟩)=bK9 g now:=by
 rw[cd2 written now h,bw8 d g _ (fh0 _)]
 unfold bK9 bf0
 rw[List.filter_map,List.map_map,List.filter_filter]
 have e:(List.range now.length).filter (fun a=>((fun x:Rec × Bool=>x.2) ∘ fun i=>(ae9 now i,(O3 g now).getD i false)) a&&an3 written a)=(List.range now.length).filter fun i=>(O3 g now).getD i false:=by
  refine List.filter_congr fun i hi=> ?_
  have hi':=List.mem_range.1 hi
  show((O3 g now).getD i false&&an3 written i)=_
  cases hb:(O3 g now).getD i false with
  |false=>rfl
  |true=>
   rw[aU0 g now hi']at hb
   have:an3 written i=true:=by
    by_cases hh:an3 written i=true
    ·exact hh
    ·have h2:=d.no i (by unfold an3 at hh;simpa using hh)
     rw[bi9 h2]at hb;cases hb
   rw[this];rfl
 rw[e]
 refine List.map_congr_left fun i hi=> ?_
 have hi2:=List.mem_filter.1 hi
 have hi':=List.mem_range.1 hi2.1
 have hb:=hi2.2
 rw[aU0 g now hi']at hb
 show(match (ae9 now i).en with|some y=>y.text|none=>⟨#[]⟩)=(now.getD i E9).text
 unfold ae9 aQ7
 by_cases hk:(now.getD i E9).kind=1
 ·rw[if_pos hk]
 ·rw[bi9 hk]at hb;cases hb
end
section
theorem bB3 (a b:ByteArray):C8 (a++b)=C8 a++C8 b:=by
 unfold C8
 simp[ByteArray.data_append]
theorem aH9 {α:Type} (l m:List α) (d:α) {k:Nat} (h:k<l.length):(l++m).getD k d=l.getD k d:=by
 rw[ff3,ff3,List.getElem?_append_left h]
theorem aC5 {α:Type} (l:List α) (x d:α):(l++[x]).getD l.length d=x:=by
 rw[ff3,List.getElem?_append_right (fh0 _),Nat.sub_self];rfl
theorem cd4 (R R':List Rec) (W W' V V':List Int):∀k,k≤R.length→k≤W.length→k≤V.length→aE1 (R++R') (W++W') (V++V') k=aE1 R W V k
 |0,_,_,_=>rfl
 |k+1,h1,h2,h3=>by
  show(if _ then _ else _)=(if _ then _ else _)
  rw[cd4 R R' W W' V V' k (by omega) (by omega) (by omega),aH9 R R' _ h1,aH9 W W' _ h2,aH9 V V' _ h3]
theorem dJ5 {a b:Bool}:bit a=bit b↔a=b:=by cases a<;>cases b<;>decide
theorem dJ6 (b:Bool):decide (bit b=1)=b:=by cases b<;>rfl
theorem dh5 (f:Nat→Rec) (wf vf:Nat→Bool):∀F:List Nat,C8 (aE1 (F.map f) (F.map fun i=>bit (wf i)) (F.map fun i=>bit (vf i)) F.length)=C8 wOk++F.flatMap fun i=>if vf i=wf i then []else [32]++C8 (G6 (f i).ln)++[58]++C8 (ae4 (vf i)):=
 ad1 (by show C8 wOk=C8 wOk++[];rw[List.append_nil]) fun F i ih=>by
  rw[List.map_append,List.map_append,List.map_append,List.flatMap_append,ff4,←List.append_assoc,←ih]
  show C8 (if(_++[bit (vf i)]).getD F.length 0=(_++[bit (wf i)]).getD F.length 0 then _ else _)=_
  have e1:(F.map (fun i=>bit (vf i))++[bit (vf i)]).getD F.length 0=bit (vf i):=by
   have:=aC5 (F.map fun i=>bit (vf i)) (bit (vf i)) 0
   rwa [fg5]at this
  have e2:(F.map (fun i=>bit (wf i))++[bit (wf i)]).getD F.length 0=bit (wf i):=by
   have:=aC5 (F.map fun i=>bit (wf i)) (bit (wf i)) 0
   rwa [fg5]at this
  have e3:(F.map f++[f i]).getD F.length default=f i:=by
   have:=aC5 (F.map f) (f i) default
   rwa [fg5]at this
  have e4:=cd4 (F.map f) [f i] (F.map fun i=>bit (wf i)) [bit (wf i)] (F.map fun i=>bit (vf i)) [bit (vf i)] F.length (by rw[fg5];exact fh0 _) (by rw[fg5];exact fh0 _) (by rw[fg5];exact fh0 _)
  simp only[List.map_cons,List.map_nil,e1,e2,e3,e4,dJ5,dJ6,List.flatMap_cons,List.flatMap_nil,List.append_nil]
  by_cases h:vf i=wf i
  ·rw[if_pos h,if_pos h,List.append_nil]
  ·rw[if_neg h,if_neg h,bB3,bB3,bB3,bB3]
   rfl
theorem aN1 {α:Type} (p:Nat→Bool) (f:Nat→List α) (h:∀i,p i=false→f i=[]):∀l:List Nat,(l.filter p).flatMap f=l.flatMap f
 |[]=>rfl
 |i::l=>by
  rw[List.filter_cons,List.flatMap_cons]
  cases hp:p i with
  |true=>rw[if_pos rfl,List.flatMap_cons,aN1 p f h l]
  |false=>rw[if_neg (by decide),h i hp,aN1 p f h l];rfl
theorem dh6 {written now now':List F7} (d:ac7 written now) (d':ac7 written now') (g:D5) {line:Int} (h:(now.length:Int)≤line):
 C8 (aE1 (I6 written now' now'.length) (al6 g (I6 written now now.length) line) (al6 g (I6 written now' now'.length) line) (al6 g (I6 written now' now'.length) line).length)=C8 (dy4 (O3 g now) (O3 g now')):=by
 have hl:now'.length=now.length:=d'.len.trans d.len.symm
 rw[cd3 d g h,cd3 d' g (by rw[hl];exact h),hl,fg5]
 show C8 (aE1 (((List.range now.length).filter (an3 written)).map (ae9 now')) _ _ _)=_
 rw[dh5 (ae9 now') (fun i=>(O3 g now).getD i false) (fun i=>(O3 g now').getD i false)]
 show _=C8 wOk++aP1 (O3 g now) (O3 g now') (O3 g now').length
 congr 1
 rw[aE9,hl]
 unfold aP1
 refine aN1 (an3 written) (fun i=>if(O3 g now').getD i false=(O3 g now).getD i false then []else [32]++C8 (G6 (i:Int))++[58]++C8 (ae4 ((O3 g now').getD i false))) (fun i hi=> ?_) _
 have hk:∀{n:List F7},ac7 written n→(O3 g n).getD i false=false:=fun{n} dn=>by
  by_cases hlt:i<n.length
  ·rw[aU0 g n hlt,bi9 (dn.no i (by unfold an3 at hi;simpa using hi))]
  ·rw[ff3,List.getElem?_eq_none (by rw[aE9];omega)];rfl
 rw[hk d,hk d'];rfl
end
end Go.Proofs.YtbliehinagkldaaGreatDoor
