import Derived.Test.YtdmcfjkgopmlgaaGreatDoorR10
import Derived.Shelf.Strings.Trim
import Derived.Shelf.Small.Utf8
import Derived.Shelf.Small.Bits
import Derived.Shelf.Small.Strs
import Derived.Shelf.Small.Wraps
import Derived.Shelf.Strconv.Itoa0
import Derived.Shelf.Strings.Search1
import Derived.Shelf.Strings.Search2
import Derived.Shelf.Strings.Search3
import Derived.Shelf.LaysM
import Derived.Shelf.Strings.Shaped
import Derived.Shelf.Unicode.Decode
import Derived.Shelf.Strings.Runes
import Derived.Shelf.Strings.AsciiSet
import Derived.Shelf.Unicode.DecodeSlow
import Derived.Shelf.Unicode.DecodeAny
import Derived.Shelf.Unicode.DecodeLast
import Derived.Shelf.Slices.Turned
import Derived.Ground.Names2Prog
import Derived.Shelf.Slices.Clone
import Derived.Shelf.Slices.SearchI
import Derived.Ground.SlgnProg
import Derived.Shelf.SlicesE.Clone
import Derived.Shelf.SlGeneric
import Derived.Shelf.SlSortCmp.NoneTotal
import Derived.Shelf.Spec.SlicesGrow
import Derived.Ground.SlsfProg
import Derived.Ground.Names8Prog
import Derived.Test.YtdmcfjkgopmlgaaGreatDoorProg
import Derived.Test.YtdmcfjkgopmlgaaGreatDoorRows
import Derived.Shelf.Strings.SlTrimAscii
import Derived.KernelRfl
import Derived.WalkSmall
import Derived.Lay
import Derived.LaidMore
import Derived.Stop.Joined
set_option linter.unusedVariables false
set_option linter.unusedSimpArgs false
set_option linter.unusedSectionVars false
namespace Go.Proofs
open Go.Shelf
def Tryz.lays160_ren:Go.Shelf.Ren:=⟨fun|160=>128|232=>201|231=>200|227=>202|234=>204|233=>203|236=>206|235=>205|228=>255|271=>258|151=>257|197=>256|120=>308|152=>307|260=>306|137=>334|119=>335|224=>253|225=>252|217=>251|266=>304|n=>n,fun|9=>9|4=>4|3=>3|5=>5|117=>290|116=>289|0=>0|124=>293|21=>21|105=>330|46=>250|119=>385|139=>388|138=>387|n=>n,fun|3=>1|4=>2|n=>n⟩
theorem Tryz.lays160:Go.Proofs.Lays.n160 Tryz.prog Tryz.lays160_ren:={
 mixed:=by kernel_rfl
 f119:=Tryz.func335.trans (congrArg some (by kernel_rfl))
 f120:=Tryz.func308.trans (congrArg some (by kernel_rfl))
 f137:=Tryz.func334.trans (congrArg some (by kernel_rfl))
 f151:=Tryz.func257.trans (congrArg some (by kernel_rfl))
 f152:=Tryz.func307.trans (congrArg some (by kernel_rfl))
 f160:=Tryz.func128.trans (congrArg some (by kernel_rfl))
 f197:=Tryz.func256.trans (congrArg some (by kernel_rfl))
 f217:=Tryz.func251.trans (congrArg some (by kernel_rfl))
 f224:=Tryz.func253.trans (congrArg some (by kernel_rfl))
 f225:=Tryz.func252.trans (congrArg some (by kernel_rfl))
 f227:=Tryz.func202.trans (congrArg some (by kernel_rfl))
 f228:=Tryz.func255.trans (congrArg some (by kernel_rfl))
 f231:=Tryz.func200.trans (congrArg some (by kernel_rfl))
 f232:=Tryz.func201.trans (congrArg some (by kernel_rfl))
 f233:=Tryz.func203.trans (congrArg some (by kernel_rfl))
 f234:=Tryz.func204.trans (congrArg some (by kernel_rfl))
 f235:=Tryz.func205.trans (congrArg some (by kernel_rfl))
 f236:=Tryz.func206.trans (congrArg some (by kernel_rfl))
 f260:=Tryz.func306.trans (congrArg some (by kernel_rfl))
 f266:=Tryz.func304.trans (congrArg some (by kernel_rfl))
 f271:=Tryz.func258.trans (congrArg some (by kernel_rfl))
 t0:=Tryz.underlying0
 a0:=Tryz.isAgg0
 z0:=Tryz.sizeOf0
 v0:=Tryz.zeroValue0
 t3:=Tryz.underlying3
 a3:=Tryz.isAgg3
 z3:=Tryz.sizeOf3
 v3:=Tryz.zeroValue3
 t4:=Tryz.underlying4
 a4:=Tryz.isAgg4
 z4:=Tryz.sizeOf4
 v4:=Tryz.zeroValue4
 t5:=Tryz.underlying5
 a5:=Tryz.isAgg5
 z5:=Tryz.sizeOf5
 v5:=Tryz.zeroValue5
 t9:=Tryz.underlying9
 a9:=Tryz.isAgg9
 z9:=Tryz.sizeOf9
 v9:=Tryz.zeroValue9
 t21:=Tryz.underlying21
 a21:=Tryz.isAgg21
 z21:=Tryz.sizeOf21
 v21:=Tryz.zeroValue21
 t46:=Tryz.underlying250
 a46:=Tryz.isAgg250
 z46:=Tryz.sizeOf250
 v46:=Tryz.zeroValue250
 t105:=Tryz.underlying330
 a105:=Tryz.isAgg330
 z105:=Tryz.sizeOf330
 v105:=Tryz.zeroValue330
 t116:=Tryz.underlying289
 a116:=Tryz.isAgg289
 z116:=Tryz.sizeOf289
 t117:=Tryz.underlying290
 a117:=Tryz.isAgg290
 z117:=Tryz.sizeOf290
 v117:=Tryz.zeroValue290
 t119:=Tryz.underlying385
 a119:=Tryz.isAgg385
 z119:=Tryz.sizeOf385
 t124:=Tryz.underlying293
 a124:=Tryz.isAgg293
 z124:=Tryz.sizeOf293
 v124:=Tryz.zeroValue293
 t138:=Tryz.underlying387
 a138:=Tryz.isAgg387
 z138:=Tryz.sizeOf387
 v138:=Tryz.zeroValue387
 t139:=Tryz.underlying388
 a139:=Tryz.isAgg388
 z139:=Tryz.sizeOf388
 v139:=Tryz.zeroValue388
 g3:=by kernel_rfl
 g4:=by kernel_rfl}
def Tryz.lays144_ren:Go.Shelf.Ren:=⟨fun|144=>60|143=>127|219=>199|217=>251|225=>252|224=>253|267=>254|266=>304|314=>305|n=>n,fun|9=>9|4=>4|3=>3|5=>5|46=>250|146=>361|51=>318|n=>n,fun|1=>0|n=>n⟩
theorem Tryz.lays144:Go.Proofs.Lays.n144 Tryz.prog Tryz.lays144_ren:={
 mixed:=by kernel_rfl
 f143:=Tryz.func127.trans (congrArg some (by kernel_rfl))
 f144:=Tryz.func60.trans (congrArg some (by kernel_rfl))
 f217:=Tryz.func251.trans (congrArg some (by kernel_rfl))
 f219:=Tryz.func199.trans (congrArg some (by kernel_rfl))
 f224:=Tryz.func253.trans (congrArg some (by kernel_rfl))
 f225:=Tryz.func252.trans (congrArg some (by kernel_rfl))
 f266:=Tryz.func304.trans (congrArg some (by kernel_rfl))
 f267:=Tryz.func254.trans (congrArg some (by kernel_rfl))
 f314:=Tryz.func305.trans (congrArg some (by kernel_rfl))
 t3:=Tryz.underlying3
 a3:=Tryz.isAgg3
 z3:=Tryz.sizeOf3
 v3:=Tryz.zeroValue3
 t4:=Tryz.underlying4
 a4:=Tryz.isAgg4
 z4:=Tryz.sizeOf4
 v4:=Tryz.zeroValue4
 t5:=Tryz.underlying5
 a5:=Tryz.isAgg5
 z5:=Tryz.sizeOf5
 v5:=Tryz.zeroValue5
 t9:=Tryz.underlying9
 a9:=Tryz.isAgg9
 z9:=Tryz.sizeOf9
 v9:=Tryz.zeroValue9
 t46:=Tryz.underlying250
 a46:=Tryz.isAgg250
 z46:=Tryz.sizeOf250
 v46:=Tryz.zeroValue250
 t51:=Tryz.underlying318
 a51:=Tryz.isAgg318
 z51:=Tryz.sizeOf318
 v51:=Tryz.zeroValue318
 t146:=Tryz.underlying361
 a146:=Tryz.isAgg361
 z146:=Tryz.sizeOf361
 v146:=Tryz.zeroValue361
 g1:=by kernel_rfl}
def Tryz.lays106_ren:Go.Shelf.Ren:=⟨fun|106=>140|213=>208|265=>267|n=>n,fun|9=>9|3=>3|n=>n,fun|n=>n⟩
theorem Tryz.lays106:Go.Proofs.Lays.n106 Tryz.prog Tryz.lays106_ren:={
 mixed:=by kernel_rfl
 f106:=Tryz.func140.trans (congrArg some (by kernel_rfl))
 f213:=Tryz.func208.trans (congrArg some (by kernel_rfl))
 f265:=Tryz.func267.trans (congrArg some (by kernel_rfl))
 t3:=Tryz.underlying3
 a3:=Tryz.isAgg3
 z3:=Tryz.sizeOf3
 v3:=Tryz.zeroValue3
 t9:=Tryz.underlying9
 a9:=Tryz.isAgg9
 z9:=Tryz.sizeOf9
 v9:=Tryz.zeroValue9}
open Go.RowKit Go.Lib in
theorem Tryz.strings_Contains_one(s:ByteArray)(c:UInt8)(w:World):
 Calls Tryz.prog 60 #[.string s,.string ⟨#[c]⟩] w fun e w'=>e= .returned (.bool (decide (0≤Lib.indexByte s.data.toList c)))∧w'=w:=Any.strings_Contains_one Tryz.lays144 s c w
open Go.RowKit in
theorem Tryz.strings_Compare(a b:ByteArray)(w:World):
 Calls Tryz.prog 140 #[.string a,.string b] w fun e w'=>e= .returned (.int .i64 (Lib.compareBytes a.data.toList b.data.toList))∧w'=w:=Any.strings_Compare Tryz.lays106 a b w
def Tryz.sortB_ren:Go.Shelf.Ren:=⟨fun|6=>273|15=>163|14=>313|28=>237|29=>238|20=>337|21=>338|22=>339|23=>340|24=>341|25=>342|26=>343|27=>344|46=>353|47=>296|48=>297|49=>354|50=>355|57=>365|n=>n,fun|22=>75|24=>261|25=>343|3=>3|39=>250|0=>0|53=>318|55=>320|4=>4|46=>312|45=>311|50=>160|5=>5|9=>9|66=>353|70=>100|76=>381|77=>382|n=>n,fun|n=>n⟩
theorem Tryz.sortB:Go.Proofs.SlLaysF0.n6 Tryz.prog Tryz.sortB_ren:={
 mixed:=by kernel_rfl
 f6:=⟨Tryz.f273.name,by decide,Tryz.func273.trans (congrArg some (by kernel_rfl))⟩
 f14:=⟨Tryz.f313.name,by decide,Tryz.func313.trans (congrArg some (by kernel_rfl))⟩
 f15:=Tryz.func163.trans (congrArg some (by kernel_rfl))
 f20:=⟨Tryz.f337.name,by decide,Tryz.func337.trans (congrArg some (by kernel_rfl))⟩
 f21:=⟨Tryz.f338.name,by decide,Tryz.func338.trans (congrArg some (by kernel_rfl))⟩
 f22:=⟨Tryz.f339.name,by decide,Tryz.func339.trans (congrArg some (by kernel_rfl))⟩
 f23:=⟨Tryz.f340.name,by decide,Tryz.func340.trans (congrArg some (by kernel_rfl))⟩
 f24:=⟨Tryz.f341.name,by decide,Tryz.func341.trans (congrArg some (by kernel_rfl))⟩
 f25:=⟨Tryz.f342.name,by decide,Tryz.func342.trans (congrArg some (by kernel_rfl))⟩
 f26:=⟨Tryz.f343.name,by decide,Tryz.func343.trans (congrArg some (by kernel_rfl))⟩
 f27:=⟨Tryz.f344.name,by decide,Tryz.func344.trans (congrArg some (by kernel_rfl))⟩
 f28:=Tryz.func237.trans (congrArg some (by kernel_rfl))
 f29:=Tryz.func238.trans (congrArg some (by kernel_rfl))
 f46:=⟨Tryz.f353.name,by decide,Tryz.func353.trans (congrArg some (by kernel_rfl))⟩
 f47:=Tryz.func296.trans (congrArg some (by kernel_rfl))
 f48:=Tryz.func297.trans (congrArg some (by kernel_rfl))
 f49:=⟨Tryz.f354.name,by decide,Tryz.func354.trans (congrArg some (by kernel_rfl))⟩
 f50:=⟨Tryz.f355.name,by decide,Tryz.func355.trans (congrArg some (by kernel_rfl))⟩
 f57:=⟨Tryz.f365.name,by decide,Tryz.func365.trans (congrArg some (by kernel_rfl))⟩
 t0:=Tryz.underlying0
 a0:=Tryz.isAgg0
 z0:=Tryz.sizeOf0
 v0:=Tryz.zeroValue0
 t3:=Tryz.underlying3
 a3:=Tryz.isAgg3
 z3:=Tryz.sizeOf3
 v3:=Tryz.zeroValue3
 t4:=Tryz.underlying4
 a4:=Tryz.isAgg4
 z4:=Tryz.sizeOf4
 v4:=Tryz.zeroValue4
 t5:=Tryz.underlying5
 a5:=Tryz.isAgg5
 z5:=Tryz.sizeOf5
 v5:=Tryz.zeroValue5
 t9:=Tryz.underlying9
 a9:=Tryz.isAgg9
 z9:=Tryz.sizeOf9
 v9:=Tryz.zeroValue9
 t22:=Tryz.underlying75
 a22:=Tryz.isAgg75
 z22:=Tryz.sizeOf75
 v22:=Tryz.zeroValue75
 t25:=Tryz.underlying343
 a25:=Tryz.isAgg343
 z25:=Tryz.sizeOf343
 v25:=Tryz.zeroValue343
 t39:=Tryz.underlying250
 a39:=Tryz.isAgg250
 z39:=Tryz.sizeOf250
 v39:=Tryz.zeroValue250
 t45:=Tryz.underlying311
 a45:=Tryz.isAgg311
 z45:=Tryz.sizeOf311
 v45:=Tryz.zeroValue311
 t46:=Tryz.underlying312
 a46:=Tryz.isAgg312
 z46:=Tryz.sizeOf312
 v46:=Tryz.zeroValue312
 t50:=Tryz.underlying160
 a50:=Tryz.isAgg160
 z50:=Tryz.sizeOf160
 v50:=Tryz.zeroValue160
 t53:=Tryz.underlying318
 a53:=Tryz.isAgg318
 z53:=Tryz.sizeOf318
 v53:=Tryz.zeroValue318
 t55:=Tryz.underlying320
 a55:=Tryz.isAgg320
 z55:=Tryz.sizeOf320
 v55:=Tryz.zeroValue320
 t66:=Tryz.underlying353
 a66:=Tryz.isAgg353
 z66:=Tryz.sizeOf353
 v66:=Tryz.zeroValue353
 t70:=Tryz.underlying100
 a70:=Tryz.isAgg100
 z70:=Tryz.sizeOf100
 v70:=Tryz.zeroValue100
 t76:=Tryz.underlying381
 a76:=Tryz.isAgg381
 z76:=Tryz.sizeOf381
 v76:=Tryz.zeroValue381
 t77:=Tryz.underlying382
 a77:=Tryz.isAgg382
 z77:=Tryz.sizeOf382
 v77:=Tryz.zeroValue382}
def Tryz.sortV_ren:Go.Shelf.Ren:=⟨fun|6=>323|15=>163|14=>349|28=>237|29=>238|20=>357|21=>358|22=>359|23=>360|24=>361|25=>362|26=>363|27=>364|46=>374|47=>296|48=>297|49=>375|50=>376|57=>380|n=>n,fun|22=>205|24=>327|25=>374|3=>3|39=>250|0=>0|53=>318|55=>320|4=>4|46=>312|45=>311|50=>160|5=>5|9=>9|66=>353|70=>100|76=>381|77=>382|n=>n,fun|n=>n⟩
theorem Tryz.sortV:Go.Proofs.SlLaysF0.n6 Tryz.prog Tryz.sortV_ren:={
 mixed:=by kernel_rfl
 f6:=⟨Tryz.f323.name,by decide,Tryz.func323.trans (congrArg some (by kernel_rfl))⟩
 f14:=⟨Tryz.f349.name,by decide,Tryz.func349.trans (congrArg some (by kernel_rfl))⟩
 f15:=Tryz.func163.trans (congrArg some (by kernel_rfl))
 f20:=⟨Tryz.f357.name,by decide,Tryz.func357.trans (congrArg some (by kernel_rfl))⟩
 f21:=⟨Tryz.f358.name,by decide,Tryz.func358.trans (congrArg some (by kernel_rfl))⟩
 f22:=⟨Tryz.f359.name,by decide,Tryz.func359.trans (congrArg some (by kernel_rfl))⟩
 f23:=⟨Tryz.f360.name,by decide,Tryz.func360.trans (congrArg some (by kernel_rfl))⟩
 f24:=⟨Tryz.f361.name,by decide,Tryz.func361.trans (congrArg some (by kernel_rfl))⟩
 f25:=⟨Tryz.f362.name,by decide,Tryz.func362.trans (congrArg some (by kernel_rfl))⟩
 f26:=⟨Tryz.f363.name,by decide,Tryz.func363.trans (congrArg some (by kernel_rfl))⟩
 f27:=⟨Tryz.f364.name,by decide,Tryz.func364.trans (congrArg some (by kernel_rfl))⟩
 f28:=Tryz.func237.trans (congrArg some (by kernel_rfl))
 f29:=Tryz.func238.trans (congrArg some (by kernel_rfl))
 f46:=⟨Tryz.f374.name,by decide,Tryz.func374.trans (congrArg some (by kernel_rfl))⟩
 f47:=Tryz.func296.trans (congrArg some (by kernel_rfl))
 f48:=Tryz.func297.trans (congrArg some (by kernel_rfl))
 f49:=⟨Tryz.f375.name,by decide,Tryz.func375.trans (congrArg some (by kernel_rfl))⟩
 f50:=⟨Tryz.f376.name,by decide,Tryz.func376.trans (congrArg some (by kernel_rfl))⟩
 f57:=⟨Tryz.f380.name,by decide,Tryz.func380.trans (congrArg some (by kernel_rfl))⟩
 t0:=Tryz.underlying0
 a0:=Tryz.isAgg0
 z0:=Tryz.sizeOf0
 v0:=Tryz.zeroValue0
 t3:=Tryz.underlying3
 a3:=Tryz.isAgg3
 z3:=Tryz.sizeOf3
 v3:=Tryz.zeroValue3
 t4:=Tryz.underlying4
 a4:=Tryz.isAgg4
 z4:=Tryz.sizeOf4
 v4:=Tryz.zeroValue4
 t5:=Tryz.underlying5
 a5:=Tryz.isAgg5
 z5:=Tryz.sizeOf5
 v5:=Tryz.zeroValue5
 t9:=Tryz.underlying9
 a9:=Tryz.isAgg9
 z9:=Tryz.sizeOf9
 v9:=Tryz.zeroValue9
 t22:=Tryz.underlying205
 a22:=Tryz.isAgg205
 z22:=Tryz.sizeOf205
 v22:=Tryz.zeroValue205
 t25:=Tryz.underlying374
 a25:=Tryz.isAgg374
 z25:=Tryz.sizeOf374
 v25:=Tryz.zeroValue374
 t39:=Tryz.underlying250
 a39:=Tryz.isAgg250
 z39:=Tryz.sizeOf250
 v39:=Tryz.zeroValue250
 t45:=Tryz.underlying311
 a45:=Tryz.isAgg311
 z45:=Tryz.sizeOf311
 v45:=Tryz.zeroValue311
 t46:=Tryz.underlying312
 a46:=Tryz.isAgg312
 z46:=Tryz.sizeOf312
 v46:=Tryz.zeroValue312
 t50:=Tryz.underlying160
 a50:=Tryz.isAgg160
 z50:=Tryz.sizeOf160
 v50:=Tryz.zeroValue160
 t53:=Tryz.underlying318
 a53:=Tryz.isAgg318
 z53:=Tryz.sizeOf318
 v53:=Tryz.zeroValue318
 t55:=Tryz.underlying320
 a55:=Tryz.isAgg320
 z55:=Tryz.sizeOf320
 v55:=Tryz.zeroValue320
 t66:=Tryz.underlying353
 a66:=Tryz.isAgg353
 z66:=Tryz.sizeOf353
 v66:=Tryz.zeroValue353
 t70:=Tryz.underlying100
 a70:=Tryz.isAgg100
 z70:=Tryz.sizeOf100
 v70:=Tryz.zeroValue100
 t76:=Tryz.underlying381
 a76:=Tryz.isAgg381
 z76:=Tryz.sizeOf381
 v76:=Tryz.zeroValue381
 t77:=Tryz.underlying382
 a77:=Tryz.isAgg382
 z77:=Tryz.sizeOf382
 v77:=Tryz.zeroValue382}
def Tryz.sortT_ren:Go.Shelf.Ren:=⟨fun|6=>88|15=>163|14=>162|28=>237|29=>238|20=>229|21=>230|22=>231|23=>232|24=>233|25=>234|26=>235|27=>236|46=>295|47=>296|48=>297|49=>298|50=>299|57=>332|n=>n,fun|22=>32|24=>43|25=>167|3=>3|39=>250|0=>0|53=>318|55=>320|4=>4|46=>312|45=>311|50=>160|5=>5|9=>9|66=>353|70=>100|76=>381|77=>382|n=>n,fun|n=>n⟩
theorem Tryz.sortT:Go.Proofs.SlLaysF0.n6 Tryz.prog Tryz.sortT_ren:={
 mixed:=by kernel_rfl
 f6:=⟨Tryz.f88.name,by decide,Tryz.func88.trans (congrArg some (by kernel_rfl))⟩
 f14:=⟨Tryz.f162.name,by decide,Tryz.func162.trans (congrArg some (by kernel_rfl))⟩
 f15:=Tryz.func163.trans (congrArg some (by kernel_rfl))
 f20:=⟨Tryz.f229.name,by decide,Tryz.func229.trans (congrArg some (by kernel_rfl))⟩
 f21:=⟨Tryz.f230.name,by decide,Tryz.func230.trans (congrArg some (by kernel_rfl))⟩
 f22:=⟨Tryz.f231.name,by decide,Tryz.func231.trans (congrArg some (by kernel_rfl))⟩
 f23:=⟨Tryz.f232.name,by decide,Tryz.func232.trans (congrArg some (by kernel_rfl))⟩
 f24:=⟨Tryz.f233.name,by decide,Tryz.func233.trans (congrArg some (by kernel_rfl))⟩
 f25:=⟨Tryz.f234.name,by decide,Tryz.func234.trans (congrArg some (by kernel_rfl))⟩
 f26:=⟨Tryz.f235.name,by decide,Tryz.func235.trans (congrArg some (by kernel_rfl))⟩
 f27:=⟨Tryz.f236.name,by decide,Tryz.func236.trans (congrArg some (by kernel_rfl))⟩
 f28:=Tryz.func237.trans (congrArg some (by kernel_rfl))
 f29:=Tryz.func238.trans (congrArg some (by kernel_rfl))
 f46:=⟨Tryz.f295.name,by decide,Tryz.func295.trans (congrArg some (by kernel_rfl))⟩
 f47:=Tryz.func296.trans (congrArg some (by kernel_rfl))
 f48:=Tryz.func297.trans (congrArg some (by kernel_rfl))
 f49:=⟨Tryz.f298.name,by decide,Tryz.func298.trans (congrArg some (by kernel_rfl))⟩
 f50:=⟨Tryz.f299.name,by decide,Tryz.func299.trans (congrArg some (by kernel_rfl))⟩
 f57:=⟨Tryz.f332.name,by decide,Tryz.func332.trans (congrArg some (by kernel_rfl))⟩
 t0:=Tryz.underlying0
 a0:=Tryz.isAgg0
 z0:=Tryz.sizeOf0
 v0:=Tryz.zeroValue0
 t3:=Tryz.underlying3
 a3:=Tryz.isAgg3
 z3:=Tryz.sizeOf3
 v3:=Tryz.zeroValue3
 t4:=Tryz.underlying4
 a4:=Tryz.isAgg4
 z4:=Tryz.sizeOf4
 v4:=Tryz.zeroValue4
 t5:=Tryz.underlying5
 a5:=Tryz.isAgg5
 z5:=Tryz.sizeOf5
 v5:=Tryz.zeroValue5
 t9:=Tryz.underlying9
 a9:=Tryz.isAgg9
 z9:=Tryz.sizeOf9
 v9:=Tryz.zeroValue9
 t22:=Tryz.underlying32
 a22:=Tryz.isAgg32
 z22:=Tryz.sizeOf32
 v22:=Tryz.zeroValue32
 t25:=Tryz.underlying167
 a25:=Tryz.isAgg167
 z25:=Tryz.sizeOf167
 v25:=Tryz.zeroValue167
 t39:=Tryz.underlying250
 a39:=Tryz.isAgg250
 z39:=Tryz.sizeOf250
 v39:=Tryz.zeroValue250
 t45:=Tryz.underlying311
 a45:=Tryz.isAgg311
 z45:=Tryz.sizeOf311
 v45:=Tryz.zeroValue311
 t46:=Tryz.underlying312
 a46:=Tryz.isAgg312
 z46:=Tryz.sizeOf312
 v46:=Tryz.zeroValue312
 t50:=Tryz.underlying160
 a50:=Tryz.isAgg160
 z50:=Tryz.sizeOf160
 v50:=Tryz.zeroValue160
 t53:=Tryz.underlying318
 a53:=Tryz.isAgg318
 z53:=Tryz.sizeOf318
 v53:=Tryz.zeroValue318
 t55:=Tryz.underlying320
 a55:=Tryz.isAgg320
 z55:=Tryz.sizeOf320
 v55:=Tryz.zeroValue320
 t66:=Tryz.underlying353
 a66:=Tryz.isAgg353
 z66:=Tryz.sizeOf353
 v66:=Tryz.zeroValue353
 t70:=Tryz.underlying100
 a70:=Tryz.isAgg100
 z70:=Tryz.sizeOf100
 v70:=Tryz.zeroValue100
 t76:=Tryz.underlying381
 a76:=Tryz.isAgg381
 z76:=Tryz.sizeOf381
 v76:=Tryz.zeroValue381
 t77:=Tryz.underlying382
 a77:=Tryz.isAgg382
 z77:=Tryz.sizeOf382
 v77:=Tryz.zeroValue382}
def Tryz.sortW_ren:Go.Shelf.Ren:=⟨fun|6=>347|15=>163|14=>356|28=>237|29=>238|20=>366|21=>367|22=>368|23=>369|24=>370|25=>371|26=>372|27=>373|46=>377|47=>296|48=>297|49=>378|50=>379|57=>381|n=>n,fun|22=>80|24=>244|25=>399|3=>3|39=>250|0=>0|53=>318|55=>320|4=>4|46=>312|45=>311|50=>160|5=>5|9=>9|66=>353|70=>100|76=>381|77=>382|n=>n,fun|n=>n⟩
theorem Tryz.sortW:Go.Proofs.SlLaysF0.n6 Tryz.prog Tryz.sortW_ren:={
 mixed:=by kernel_rfl
 f6:=⟨Tryz.f347.name,by decide,Tryz.func347.trans (congrArg some (by kernel_rfl))⟩
 f14:=⟨Tryz.f356.name,by decide,Tryz.func356.trans (congrArg some (by kernel_rfl))⟩
 f15:=Tryz.func163.trans (congrArg some (by kernel_rfl))
 f20:=⟨Tryz.f366.name,by decide,Tryz.func366.trans (congrArg some (by kernel_rfl))⟩
 f21:=⟨Tryz.f367.name,by decide,Tryz.func367.trans (congrArg some (by kernel_rfl))⟩
 f22:=⟨Tryz.f368.name,by decide,Tryz.func368.trans (congrArg some (by kernel_rfl))⟩
 f23:=⟨Tryz.f369.name,by decide,Tryz.func369.trans (congrArg some (by kernel_rfl))⟩
 f24:=⟨Tryz.f370.name,by decide,Tryz.func370.trans (congrArg some (by kernel_rfl))⟩
 f25:=⟨Tryz.f371.name,by decide,Tryz.func371.trans (congrArg some (by kernel_rfl))⟩
 f26:=⟨Tryz.f372.name,by decide,Tryz.func372.trans (congrArg some (by kernel_rfl))⟩
 f27:=⟨Tryz.f373.name,by decide,Tryz.func373.trans (congrArg some (by kernel_rfl))⟩
 f28:=Tryz.func237.trans (congrArg some (by kernel_rfl))
 f29:=Tryz.func238.trans (congrArg some (by kernel_rfl))
 f46:=⟨Tryz.f377.name,by decide,Tryz.func377.trans (congrArg some (by kernel_rfl))⟩
 f47:=Tryz.func296.trans (congrArg some (by kernel_rfl))
 f48:=Tryz.func297.trans (congrArg some (by kernel_rfl))
 f49:=⟨Tryz.f378.name,by decide,Tryz.func378.trans (congrArg some (by kernel_rfl))⟩
 f50:=⟨Tryz.f379.name,by decide,Tryz.func379.trans (congrArg some (by kernel_rfl))⟩
 f57:=⟨Tryz.f381.name,by decide,Tryz.func381.trans (congrArg some (by kernel_rfl))⟩
 t0:=Tryz.underlying0
 a0:=Tryz.isAgg0
 z0:=Tryz.sizeOf0
 v0:=Tryz.zeroValue0
 t3:=Tryz.underlying3
 a3:=Tryz.isAgg3
 z3:=Tryz.sizeOf3
 v3:=Tryz.zeroValue3
 t4:=Tryz.underlying4
 a4:=Tryz.isAgg4
 z4:=Tryz.sizeOf4
 v4:=Tryz.zeroValue4
 t5:=Tryz.underlying5
 a5:=Tryz.isAgg5
 z5:=Tryz.sizeOf5
 v5:=Tryz.zeroValue5
 t9:=Tryz.underlying9
 a9:=Tryz.isAgg9
 z9:=Tryz.sizeOf9
 v9:=Tryz.zeroValue9
 t22:=Tryz.underlying80
 a22:=Tryz.isAgg80
 z22:=Tryz.sizeOf80
 v22:=Tryz.zeroValue80
 t25:=Tryz.underlying399
 a25:=Tryz.isAgg399
 z25:=Tryz.sizeOf399
 v25:=Tryz.zeroValue399
 t39:=Tryz.underlying250
 a39:=Tryz.isAgg250
 z39:=Tryz.sizeOf250
 v39:=Tryz.zeroValue250
 t45:=Tryz.underlying311
 a45:=Tryz.isAgg311
 z45:=Tryz.sizeOf311
 v45:=Tryz.zeroValue311
 t46:=Tryz.underlying312
 a46:=Tryz.isAgg312
 z46:=Tryz.sizeOf312
 v46:=Tryz.zeroValue312
 t50:=Tryz.underlying160
 a50:=Tryz.isAgg160
 z50:=Tryz.sizeOf160
 v50:=Tryz.zeroValue160
 t53:=Tryz.underlying318
 a53:=Tryz.isAgg318
 z53:=Tryz.sizeOf318
 v53:=Tryz.zeroValue318
 t55:=Tryz.underlying320
 a55:=Tryz.isAgg320
 z55:=Tryz.sizeOf320
 v55:=Tryz.zeroValue320
 t66:=Tryz.underlying353
 a66:=Tryz.isAgg353
 z66:=Tryz.sizeOf353
 v66:=Tryz.zeroValue353
 t70:=Tryz.underlying100
 a70:=Tryz.isAgg100
 z70:=Tryz.sizeOf100
 v70:=Tryz.zeroValue100
 t76:=Tryz.underlying381
 a76:=Tryz.isAgg381
 z76:=Tryz.sizeOf381
 v76:=Tryz.zeroValue381
 t77:=Tryz.underlying382
 a77:=Tryz.isAgg382
 z77:=Tryz.sizeOf382
 v77:=Tryz.zeroValue382}
def Tryz.sortP_ren:Go.Shelf.Ren:=⟨fun|6=>137|15=>163|14=>207|28=>237|29=>238|20=>259|21=>260|22=>261|23=>262|24=>263|25=>264|26=>265|27=>266|46=>309|47=>296|48=>297|49=>310|50=>311|57=>336|n=>n,fun|22=>168|24=>171|25=>235|3=>3|39=>250|0=>0|53=>318|55=>320|4=>4|46=>312|45=>311|50=>160|5=>5|9=>9|66=>353|70=>100|76=>381|77=>382|n=>n,fun|n=>n⟩
theorem Tryz.sortP:Go.Proofs.SlLaysF0.n6 Tryz.prog Tryz.sortP_ren:={
 mixed:=by kernel_rfl
 f6:=⟨Tryz.f137.name,by decide,Tryz.func137.trans (congrArg some (by kernel_rfl))⟩
 f14:=⟨Tryz.f207.name,by decide,Tryz.func207.trans (congrArg some (by kernel_rfl))⟩
 f15:=Tryz.func163.trans (congrArg some (by kernel_rfl))
 f20:=⟨Tryz.f259.name,by decide,Tryz.func259.trans (congrArg some (by kernel_rfl))⟩
 f21:=⟨Tryz.f260.name,by decide,Tryz.func260.trans (congrArg some (by kernel_rfl))⟩
 f22:=⟨Tryz.f261.name,by decide,Tryz.func261.trans (congrArg some (by kernel_rfl))⟩
 f23:=⟨Tryz.f262.name,by decide,Tryz.func262.trans (congrArg some (by kernel_rfl))⟩
 f24:=⟨Tryz.f263.name,by decide,Tryz.func263.trans (congrArg some (by kernel_rfl))⟩
 f25:=⟨Tryz.f264.name,by decide,Tryz.func264.trans (congrArg some (by kernel_rfl))⟩
 f26:=⟨Tryz.f265.name,by decide,Tryz.func265.trans (congrArg some (by kernel_rfl))⟩
 f27:=⟨Tryz.f266.name,by decide,Tryz.func266.trans (congrArg some (by kernel_rfl))⟩
 f28:=Tryz.func237.trans (congrArg some (by kernel_rfl))
 f29:=Tryz.func238.trans (congrArg some (by kernel_rfl))
 f46:=⟨Tryz.f309.name,by decide,Tryz.func309.trans (congrArg some (by kernel_rfl))⟩
 f47:=Tryz.func296.trans (congrArg some (by kernel_rfl))
 f48:=Tryz.func297.trans (congrArg some (by kernel_rfl))
 f49:=⟨Tryz.f310.name,by decide,Tryz.func310.trans (congrArg some (by kernel_rfl))⟩
 f50:=⟨Tryz.f311.name,by decide,Tryz.func311.trans (congrArg some (by kernel_rfl))⟩
 f57:=⟨Tryz.f336.name,by decide,Tryz.func336.trans (congrArg some (by kernel_rfl))⟩
 t0:=Tryz.underlying0
 a0:=Tryz.isAgg0
 z0:=Tryz.sizeOf0
 v0:=Tryz.zeroValue0
 t3:=Tryz.underlying3
 a3:=Tryz.isAgg3
 z3:=Tryz.sizeOf3
 v3:=Tryz.zeroValue3
 t4:=Tryz.underlying4
 a4:=Tryz.isAgg4
 z4:=Tryz.sizeOf4
 v4:=Tryz.zeroValue4
 t5:=Tryz.underlying5
 a5:=Tryz.isAgg5
 z5:=Tryz.sizeOf5
 v5:=Tryz.zeroValue5
 t9:=Tryz.underlying9
 a9:=Tryz.isAgg9
 z9:=Tryz.sizeOf9
 v9:=Tryz.zeroValue9
 t22:=Tryz.underlying168
 a22:=Tryz.isAgg168
 z22:=Tryz.sizeOf168
 v22:=Tryz.zeroValue168
 t25:=Tryz.underlying235
 a25:=Tryz.isAgg235
 z25:=Tryz.sizeOf235
 v25:=Tryz.zeroValue235
 t39:=Tryz.underlying250
 a39:=Tryz.isAgg250
 z39:=Tryz.sizeOf250
 v39:=Tryz.zeroValue250
 t45:=Tryz.underlying311
 a45:=Tryz.isAgg311
 z45:=Tryz.sizeOf311
 v45:=Tryz.zeroValue311
 t46:=Tryz.underlying312
 a46:=Tryz.isAgg312
 z46:=Tryz.sizeOf312
 v46:=Tryz.zeroValue312
 t50:=Tryz.underlying160
 a50:=Tryz.isAgg160
 z50:=Tryz.sizeOf160
 v50:=Tryz.zeroValue160
 t53:=Tryz.underlying318
 a53:=Tryz.isAgg318
 z53:=Tryz.sizeOf318
 v53:=Tryz.zeroValue318
 t55:=Tryz.underlying320
 a55:=Tryz.isAgg320
 z55:=Tryz.sizeOf320
 v55:=Tryz.zeroValue320
 t66:=Tryz.underlying353
 a66:=Tryz.isAgg353
 z66:=Tryz.sizeOf353
 v66:=Tryz.zeroValue353
 t70:=Tryz.underlying100
 a70:=Tryz.isAgg100
 z70:=Tryz.sizeOf100
 v70:=Tryz.zeroValue100
 t76:=Tryz.underlying381
 a76:=Tryz.isAgg381
 z76:=Tryz.sizeOf381
 v76:=Tryz.zeroValue381
 t77:=Tryz.underlying382
 a77:=Tryz.isAgg382
 z77:=Tryz.sizeOf382
 v77:=Tryz.zeroValue382}
def Tryz.growI_ren:Go.Shelf.Ren:=⟨fun|4=>161|n=>n,fun|22=>32|25=>43|3=>3|4=>4|9=>9|20=>20|0=>0|2=>3|n=>n,fun|n=>n⟩
theorem Tryz.growI:Go.Proofs.Lays8.n4 Tryz.prog Tryz.growI_ren:={
 mixed:=by kernel_rfl
 f4:=⟨Tryz.f161.name,by decide,Tryz.func161.trans (congrArg some (by kernel_rfl))⟩
 t0:=Tryz.underlying0
 a0:=Tryz.isAgg0
 z0:=Tryz.sizeOf0
 v0:=Tryz.zeroValue0
 t3:=Tryz.underlying3
 a3:=Tryz.isAgg3
 z3:=Tryz.sizeOf3
 v3:=Tryz.zeroValue3
 t4:=Tryz.underlying4
 a4:=Tryz.isAgg4
 z4:=Tryz.sizeOf4
 v4:=Tryz.zeroValue4
 t9:=Tryz.underlying9
 a9:=Tryz.isAgg9
 z9:=Tryz.sizeOf9
 v9:=Tryz.zeroValue9
 t20:=Tryz.underlying20
 a20:=Tryz.isAgg20
 z20:=Tryz.sizeOf20
 v20:=Tryz.zeroValue20
 t22:=Tryz.underlying32
 a22:=Tryz.isAgg32
 z22:=Tryz.sizeOf32
 v22:=Tryz.zeroValue32}
end Go.Proofs
namespace Go.Proofs.YtdmcfjkgopmlgaaGreatDoor.Ev.CK
open Go Go.RowKit
def G1:Base→Prop:=fun b=>b.dr=false
theorem zgR:JG Tryz.prog G1:=fun _ _ _ _ _ _ h=>h
theorem zgu:Tryz.prog.follows .mixedOrders=true:=by kernel_rfl
theorem Rel.newer{P:Program}{w0:Base}(hd:w0.dr=false){ρ:Nat→Ph}{h:LH}{w w':World}(R:Rel P w0 ρ h w)(hb:Below w.heap.size w w'):Rel P w0 ρ h w':=by
 have hcell:∀(x:Addr),x.block<w.heap.size→w'.cell? x=w.cell? x:=fun x hx=>by unfold World.cell?;rw[hb.block _ hx]
 have hfr:∀(x:Addr),x.block<w.heap.size→w'.frozen? x=w.frozen? x:=fun x hx=>by unfold World.frozen?;rw[hb.block _ hx]
 refine⟨R.below.tr (hb.mono R.size) (fun e=>by rw[hd] at e;cases e),R.hB,fun k hk=> ?_,R.out,fun i o' hi=> ?_,R.inj⟩
 ·obtain⟨k1,k2⟩:=R.keep k hk;exact⟨k1,by rw[hb.block k (zvB k1 R.below.size)];exact k2⟩
 ·have hlt:(o'.holds=true∨(ρ i).blk<w0.B)→(ρ i).blk<w.heap.size:=by
   rintro(hk|hk)
   ·have:=R.obj i o' hi;cases o'<;>simp[LO.holds] at hk<;>exact this.2.1
   ·have:=R.size;omega
  exact(R.obj i o' hi).moved (Ext.refl _ _) (zuL _) hb.size (fun hk j v hv=>by rw[hcell _ (hlt hk)];exact hv) (fun hk j=>hfr _ (hlt (.inl hk))) (fun hk=>hb.block _ (hlt (.inl (by cases o'<;>first|rfl|cases hk))))
theorem x35:XOK Tryz.prog G1 60 e60:=by
 refine⟨2,1,gHas,rfl,fun b hg args h vs h' ρ w _ hga hm hf R hwf=>⟨⟨Tryz.f60,Tryz.func60,by decide+kernel,by kernel_rfl⟩,?_⟩⟩;unfold gHas at hga;split at hga
 ·rename_i s t h0;split at hga
  ·rename_i c hc;obtain⟨rfl,rfl⟩:=zuZ (zuG hga);obtain rfl:t=⟨#[c]⟩:=by
    obtain⟨t⟩:=t;have:t= #[c]:=Array.toList_inj.1 hc;rw[this]
   refine(Tryz.strings_Contains_one s c w).mono fun e w' hq=> ?_;obtain⟨rfl,rfl⟩:=hq;exact⟨ρ,rfl,R,Ext.refl _ _,zuL _,trivial⟩
  ·cases hga
 ·cases hga
theorem x51:XOK Tryz.prog G1 128 e128:=by
 refine⟨2,1,zhq,rfl,fun b hg args h vs h' ρ w _ hga hm hf R hwf=>⟨⟨Tryz.f128,Tryz.func128,by decide+kernel,by kernel_rfl⟩,?_⟩⟩;unfold zhq at hga;split at hga
 ·rename_i s t h0;split at hga
  ·rename_i hc;obtain⟨rfl,rfl⟩:=zuZ (zuG hga);refine(Any.strings_Trim_laid Tryz.lays160 (by kernel_rfl) s t w hc.1 (by omega) (ascii_of_all hc.2.2)).mono fun e w' hq=> ?_;obtain⟨rfl,hb⟩:=hq;exact⟨ρ,rfl,Rel.newer hg R hb,Ext.refl _ _,zuL _,trivial⟩
  ·cases hga
 ·cases hga
theorem t33:jv Tryz.prog 58 (qg e58.body)=some e58:=by kernel_rfl
theorem t34:jv Tryz.prog 59 (qg e59.body)=some e59:=by kernel_rfl
theorem t36:jv Tryz.prog 61 (qg e61.body)=some e61:=by kernel_rfl
theorem t37:jv Tryz.prog 62 (qg e62.body)=some e62:=by kernel_rfl
theorem zue:∀f e,C f=some e→(∃hs,jv Tryz.prog f hs=some e)∨XOK Tryz.prog G1 f e:=by
 intro f e h;unfold C at h;split at h
 ·cases h;exact .inl ⟨_,t33⟩
 ·cases h;exact .inl ⟨_,t34⟩
 ·cases h;exact .inl ⟨_,t36⟩
 ·cases h;exact .inl ⟨_,t37⟩
 ·cases h;exact .inr x35
 ·cases h;exact .inr x51
 ·cases h
theorem zkk:∀w0,G1 w0→ZE Tryz.prog w0 (zy C):=fun w0 hg=>zcZ zgR hg zgu zue
def cL:Code→Code
 | .seq a _=>a
 |c=>c
def cR:Code→Code
 | .seq _ b=>b
 |c=>c
def cB:Code→Code
 | .block _ b=>b
 | .loop b=>b
 |c=>c
def cO:Code→Array Oper
 | .region _ o _=>o
 |_=> #[]
noncomputable def B0:Code:=(Tryz.f24.body).getD .skip
noncomputable def p0:=cL B0
noncomputable def p1:=cL (cR B0)
noncomputable def p2:=cL (cR (cR B0))
noncomputable def m1:=cL (cR (cR (cR B0)))
noncomputable def m2:=cL (cR (cR (cR (cR B0))))
noncomputable def p3:=cR (cR (cR (cR (cR B0))))
noncomputable def o4:=cO (cL m1)
noncomputable def lo1:=cB (cB (cR m1))
noncomputable def o5:=cO (cL lo1)
noncomputable def bd1:=cB (cR (cR lo1))
noncomputable def o6:=cO (cL bd1)
noncomputable def zss:=cR bd1
noncomputable def o10:=cO (cL m2)
noncomputable def lo2:=cB (cB (cR m2))
noncomputable def o11:=cO (cL lo2)
noncomputable def bd2:=cB (cR (cR lo2))
noncomputable def o12:=cO (cL bd2)
noncomputable def zst:=cR bd2
theorem zsH:Tryz.f24.body=some (.seq p0 (.seq p1 (.seq p2 (.seq (.seq (.region 4 o4 false) (.block 0 (.loop (.seq (.region 5 o5 false) (.seq (.cond (.tmp 18) .skip (.exit 0)) (.block 1 (.seq (.region 6 o6 false) zss)))))))
 (.seq (.seq (.region 10 o10 false) (.block 2 (.loop (.seq (.region 11 o11 false) (.seq (.cond (.tmp 43) .skip (.exit 2)) (.block 3 (.seq (.region 12 o12 false) zst))))))) p3))))):=by kernel_rfl
def g5:List EG:=[⟨some 18,.ext (.t 17) 0,none⟩]
def g6:List EG:=[⟨some 20,.ext (.t 19) 0,none⟩,⟨some 21,.ext (.t 19) 1,none⟩,⟨some 4,.mov (.t 20),none⟩,⟨some 5,.mov (.t 21),none⟩]
def g11:List EG:=[⟨some 43,.ext (.t 42) 0,none⟩]
def g12:List EG:=[⟨some 45,.ext (.t 44) 0,none⟩,⟨some 46,.ext (.t 44) 1,none⟩,⟨some 7,.mov (.t 45),none⟩,⟨some 8,.mov (.t 46),none⟩]
theorem zfQ{c:EC}(hn:ZR c=true){fr:Fr}{h:LH}{Φ:Ex→Fr→LH→Prop}(w:WPk C c fr h Φ):∃x fr' h',zp (zy C) 0 c fr h=some (x,fr',h')∧Φ x fr' h':=by obtain⟨x,fr',h',e,r⟩:=w;exact⟨x,fr',h',by rw[zfP c hn];exact e,r⟩
noncomputable def loop1(m:Cm)(h:LH)(iB ii:Nat):MapLoop Tryz.prog 55 (zy C) 0 (txtM m) (good1 m.k) h (fr1 iB ii m.k) (frB1 iB ii m.k) frR [1,3,16] 16 18 17 19 o5 o6 zss where
 o1:=o5.toList.headD default
 o2:=o6.toList.headD default
 l1:=o5.toList.tail
 l2:=o6.toList.tail
 g1:=g5
 g2:=g6
 hs:=[[1,3,5,6,16],[1,3,16,38],[2],[2]]
 er:=er1
 hs':=[]
 frA:=zlL iB ii m.k
 frC:=zjh iB ii m.k
 e1:=by kernel_rfl
 e2:=by kernel_rfl
 p1:=by kernel_rfl
 p2:=by kernel_rfl
 q1:=by kernel_rfl
 q2:=by kernel_rfl
 r1:=by kernel_rfl
 r2:=by kernel_rfl
 k1:=by decide
 k2:=by decide
 c1:=by kernel_rfl
 c2:=by kernel_rfl
 c3:=by kernel_rfl
 h1t:=fun k v h'=>⟨rfl,rfl⟩
 h1f:=fun h'=>⟨rfl,rfl⟩
 h2i:=fun k v=>rfl
 h2:=fun k v h'=>rfl
 h3:=fun x hx h' gr=>by
  have key:∀(c:UInt8) (s:ByteArray),x=(.str ⟨#[c]⟩,.str s)→∃ex fr2 h2,zp (zy C) 0 er1 (zjh iB ii m.k x.1 x.2) h'=some (ex,fr2,h2)∧Gr h' h2∧((good1 m.k x=true∧ex= .normal∧zl [1,3,16] fr2=fr1 iB ii m.k)∨(good1 m.k x=false∧ex= .ret∧fr2=frR)):=by rintro c s rfl;obtain⟨ex,f2,h2,e,rfl,r⟩:=zfQ (c:=er1) rfl (zt2 (iB:=iB) (ii:=ii) (k:=m.k) (c:=c) (s:=s) h');exact⟨ex,f2,h2,e,Gr.refl _,r⟩
  unfold txtM at hx;simp only[zuX,zvS,or_false] at hx;rcases hx with hx|hx|hx<;>exact key _ _ hx
noncomputable def loop2(m:Cm)(h:LH)(ii:Nat):MapLoop Tryz.prog 55 (zy C) 0 (numM m) (good2 m.k) h (fr2 ii m.k) (frB2 ii m.k) frR [3,41] 41 43 42 44 o11 o12 zst where
 o1:=o11.toList.headD default
 o2:=o12.toList.headD default
 l1:=o11.toList.tail
 l2:=o12.toList.tail
 g1:=g11
 g2:=g12
 hs:=[[3,41,54],[2],[2]]
 er:=er2
 hs':=[]
 frA:=znD ii m.k
 frC:=zlM ii m.k
 e1:=by kernel_rfl
 e2:=by kernel_rfl
 p1:=by kernel_rfl
 p2:=by kernel_rfl
 q1:=by kernel_rfl
 q2:=by kernel_rfl
 r1:=by kernel_rfl
 r2:=by kernel_rfl
 k1:=by decide
 k2:=by decide
 c1:=by kernel_rfl
 c2:=by kernel_rfl
 c3:=by kernel_rfl
 h1t:=fun k v h'=>⟨rfl,rfl⟩
 h1f:=fun h'=>⟨rfl,rfl⟩
 h2i:=fun k v=>rfl
 h2:=fun k v h'=>rfl
 h3:=fun x hx h' gr=>by
  have key:∀(c:UInt8) (n:Int),x=(.str ⟨#[c]⟩,.int .i64 n)→∃ex fr2' h2,zp (zy C) 0 er2 (zlM ii m.k x.1 x.2) h'=some (ex,fr2',h2)∧Gr h' h2∧((good2 m.k x=true∧ex= .normal∧zl [3,41] fr2'=fr2 ii m.k)∨(good2 m.k x=false∧ex= .ret∧fr2'=frR)):=by rintro c s rfl;obtain⟨ex,f2,h2,e,rfl,r⟩:=zfQ (c:=er2) rfl (zt3 (ii:=ii) (k:=m.k) (c:=c) (n:=s) h');exact⟨ex,f2,h2,e,Gr.refl _,r⟩
  unfold numM at hx;simp only[zuX,zvS,or_false] at hx;rcases hx with hx|hx|hx|hx|hx|hx|hx|hx<;>exact key _ _ hx
theorem cok{w0:Base}(hg:w0.dr=false){ρ:Nat→Ph}{h:LH}{w:World}{a:Act}{fr:Fr}(c:Code)(hs:List (List Nat))(ec:EC)(hs':List (List Nat))(hc:yu Tryz.prog 55 c hs=some (ec,hs'))(hn:ZR ec=true){Φ:Ex→Fr→LH→Prop}(wk:WPk C ec fr h Φ)(R:Rel Tryz.prog w0 ρ h w)(F:FrR ρ h.length 55 fr a){Q:Exit→Act→World→Prop}
 (hQ:∀x fr' h' ρ' a' w',Φ x fr' h'→Rel Tryz.prog w0 ρ' h' w'→FrR ρ' h'.length 55 fr' a'→Ext h.length ρ ρ'→h.length≤h'.length→Q (zf2 x) a' w'):c.wp Tryz.prog Q a w:=by
 obtain⟨x,fr',h',e,r⟩:=zfQ hn wk;exact zcy zgR hg zgu zkk (zaa C) 0 c hs ec hs' hc fr h x fr' h' e ρ a w R F Q fun ρ' a' w' q1 q2 q3 q4=>hQ x fr' h' ρ' a' w' r q1 q2 q3 q4
def ec0:EC:= .ops [⟨some 1,.new 28 12 (.t 0),none⟩,⟨some 2,.mov (.c (.s (.int .i64 0))),none⟩] [1]
def ec1:EC:= .ops [⟨some 9,.fad 0 (.t 1),none⟩,⟨some 10,.load false 1 (.t 9),none⟩,⟨some 11,.call 58 [.t 10],none⟩,⟨some 3,.mov (.t 11),none⟩] [1,3]
def ec2:EC:= .seq (.ops [⟨some 12,.mov (.t 3),none⟩,⟨some 13,.bin .eql (.t 12) (.c (.s (.str ⟨#[63]⟩))),none⟩] [1,3,13]) (.cond (.t 13) (.seq (.ops [⟨some 2,.mov (.c (.s (.int .i64 1))),none⟩] [2]) (.ret [2])) .skip)
def ec3:EC:= .seq (.ops [⟨some 2,.mov (.c (.s (.int .i64 0))),none⟩] [2]) (.ret [2])
def g4:List EG:=[⟨some 14,.load true 12 (.t 1),none⟩,⟨some 15,.call 59 [.t 14],none⟩]
def g10:List EG:=[⟨some 39,.load true 12 (.t 1),none⟩,⟨some 40,.call 62 [.t 39],none⟩]
theorem ziR(k:Int):((jz k).toList==(⟨#[63]⟩:ByteArray).toList)=(fieldsL k==[63]):=by rw[zwc,zwc];rfl
theorem zqs{w0:Base}{ρ:Nat→Ph}{h:LH}{w:World}(R:Rel Tryz.prog w0 ρ h w)(p:Ph):∀i o,(h++[LO.dead])[i]? =some o→o.holds=true→(upd ρ h.length p i).blk≠w.heap.size:=by
 intro i o hi hh;rcases zwk i h.length with hlt|hge
 ·rw[zuK hlt] at hi;rw[yx ρ h.length p i hlt];have:=R.obj i o hi;have hb:(ρ i).blk<w.heap.size:=by cases o<;>simp[LO.holds] at hh<;>exact this.2.1
  omega
 ·have hlt:=yI hi;rw[zuM,zuS] at hlt;obtain rfl:i=h.length:=by omega
  rw[zuN (zuL _),zvG] at hi;obtain rfl:=zuG hi;cases hh
theorem zfh{w0:Base}(hd0:w0.dr=false){ρ:Nat→Ph}{h h2:LH}{w:World}{a:Act}{fr fr2:Fr}{ops:Array Oper}{l1:List Oper}{o:Oper}{gs:List EG}{im tm it:Nat}{es:List (SV×SV)}{t k e:TypeId}(hsp:ops.toList=l1++[o])(hc:Zh Tryz.prog 55 ops l1=some gs)(he:jY (zy C) gs fr h=some (fr2,h2))
 (him:h2[im]? =some (.map es)) (htm:yq fr2 tm=some (.s (.mp im))) (ho:o.op= .range t (.tmp tm)) (hd:o.dst=some it) (hit:it<55) (hg:o.guard=none) (ht:Tryz.prog.underlying t=some (.map k e)) (R:Rel Tryz.prog w0 ρ h w) (F:FrR ρ h.length 55 fr a) {Q:Exit→Act→World→Prop} {id:Nat}
 (hQ:∀ρ' a' w' r,Rel Tryz.prog w0 ρ' (h2++[.dead]) w'→FrR ρ' (h2++[LO.dead]).length 55 ((it,some (.s (.ptr h2.length 0)))::fr2) a'→Ext h.length ρ ρ'→w0.B≤r→¬w0.F r→(ρ' h2.length).blk=r→(ρ' h2.length).base=0→w'.heap[r]? =some (.mapIter (some (ρ' im).blk) es.length #[] es.length)→
   (∀i o,(h2++[LO.dead])[i]? =some o→o.holds=true→(ρ' i).blk≠r)→Q .normal a' w'):(Code.region id ops false).wp Tryz.prog Q a w:=by
 refine wp_region_list ?_;rw[hsp];refine zgB (zkk w0 hd0) [o] l1 gs fr h fr2 h2 ρ a w hc he R F (fun ρ1 a1 w1 R1 F1 E1 L1=> ?_);unfold wpList;have hw:Region.wanted o (yielded ops a1.tmps)=true:=by unfold Region.wanted;rw[hg]
 rw[hw,zuO rfl];refine .inl ?_;unfold Oper.wp;obtain⟨w',hr,R2,hi⟩:=R1.range him ht;have hev:a1.eval (.tmp tm)=c0 ρ1 (.mp im):=by obtain⟨_,q,_⟩:=F1.get tm _ htm;exact q
 have hex:(execOp a1.eval o).run Tryz.prog w1= .ok (.value (.pointer (some ⟨w1.heap.size,0,none⟩))) w':=by unfold execOp;rw[ho];simp only;rw[hev];exact qT hr
 rw[hex,Oper.upon_value,hd];have hix:im<h2.length:=yI him;have ep:(Value.pointer (some ⟨w1.heap.size,0,none⟩))=cv (upd ρ1 h2.length ⟨w1.heap.size,0,1,1,undef⟩) (.s (.ptr h2.length 0)):=by simp[cv,c0,zu]
 rw[ep];unfold wpList;refine hQ _ _ w' w1.heap.size R2 ((F1.ext (yx _ _ _) (by simp)).put (v:= .s (.ptr h2.length 0)) (d:=some it) (fun t ht=>by cases ht;exact hit) (by simp[wfV,wf])) (E1.trans L1 (yx _ _ _)) R1.size (fun hF=> ?_) (by rw[zu]) (by rw[zu]) ?_ (zqs R1 _)
 ·have:=(R1.keep _ hF).1;have:=R1.below.size;omega
 ·rw[yx ρ1 h2.length _ im hix];exact hi
set_option maxRecDepth 20000 in
theorem check_calls{w0:Base}(hg:w0.dr=false){ρ:Nat→Ph}{h:LH}{w:World}(m:Cm)(R:Rel Tryz.prog w0 ρ h w)(hwf:wfV ρ h.length (.agg (encC m))):
 Calls Tryz.prog 24 (([FV.agg (encC m)]).map (cv ρ)).toArray w fun e w'=>∃ρ',e= .returned (cv ρ' (.s (.int .i64 (if okC m then 0 else 1))))∧Rel Tryz.prog w0 ρ' h w'∧Ext h.length ρ ρ':=by
 refine calls_of_wp Tryz.func24 zsH ?_;have hF0:FrR ρ h.length 55 (jj 0 [FV.agg (encC m)]) {tmps:=(([FV.agg (encC m)]).map (cv ρ)).toArray++Array.replicate (Tryz.f24.ntmps-(([FV.agg (encC m)]).map (cv ρ)).toArray.size) undef,defers:=[]}:=by
  have hnt:Tryz.f24.ntmps=55:=by kernel_rfl
  rw[hnt];refine⟨by simp,rfl,fun t u hu=> ?_⟩;obtain⟨q1,q2⟩:=zaU [FV.agg (encC m)] 0 t u hu;rw[Nat.sub_zero] at q2;have hlt:=(zuJ.1 q2).1;simp only[zuS] at hlt;obtain rfl:t=0:=by omega
  simp only[zvt,zuE] at q2;subst q2;exact⟨by omega,by simp,hwf⟩
 have fin:∀(v:Int),v=(if okC m then 0 else 1)→∀(ρ':Nat→Ph) (h'':LH) (a':Act) (w':World) (fr':Fr),Rel Tryz.prog w0 ρ' h'' w'→Gr h h''→Ext h.length ρ ρ'→FrR ρ' h''.length 55 fr' a'→yq fr' 2=some (.s (.int .i64 v))→
  bodyPost Tryz.prog Tryz.f24 (fun e w'=>∃ρ',e= .returned (cv ρ' (.s (.int .i64 (if okC m then 0 else 1))))∧Rel Tryz.prog w0 ρ' h w'∧Ext h.length ρ ρ') .ret a' w':=by
  rintro v rfl ρ' h'' a' w' fr' R' gr E' F' hv;have hcr:zae Tryz.prog Tryz.f24.results.toList=some [.tmp 2]:=by kernel_rfl
  obtain⟨r1,r2,_⟩:=zao (P:=Tryz.prog) R' F' (es:=[.tmp 2]) (v:= .s (.int .i64 (if okC m then 0 else 1))) (h':=h'') hcr (by simp only[jO,zgG,hv,zvb,qR,Yg,if_true,qL]);exact⟨F'.defers,_,r1,ρ',rfl,Rel.forget R R' E' gr.le gr.same,E'⟩
 --ahead of the loops
 refine _root_.Go.wp_seq (cok hg p0 [[1]] ec0 [] (by kernel_rfl) rfl (Φ:=fun x fr' h'=>x= .normal∧fr'=[(1,some (.s (.ptr h.length 0)))]∧h'=h++[.own 28 (encC m)]) (by simp[ec0,encC]) R hF0 ?_);rintro _ _ _ ρ1 a1 w1 ⟨rfl,rfl,rfl⟩ R1 F1 E1 L1;have ob:∀h':LH,Gr (h++[.own 28 (encC m)]) h'→h'[h.length]? =some (.own 28 (encC m)):=fun h' g=>g.get zga;have ob1:=ob _ (Gr.refl _);refine _root_.Go.wp_seq (cok hg p1 [[1,3]] ec1 [] (by kernel_rfl) rfl (Φ:=fun x fr' h'=>x= .normal∧fr'=[(1,some (.s (.ptr h.length 0))),(3,some (.s (.str (jz m.k))))]∧h'=h++[.own 28 (encC m)]) (by
  have e0:(encC m)[0]? =some (.int .i64 m.k):=rfl;simp[ec1,ob1,e0,zlH]) R1 F1 ?_)
 rintro _ _ _ ρ2 a2 w2 ⟨rfl,rfl,rfl⟩ R2 F2 E2 L2;have bf:=ziR m.k;cases hq:fieldsL m.k==[63] with
 |true=>
  rw[hq] at bf;have hno:okC m=false:=by unfold okC;rw[hq];rfl
  have bf':(jz m.k).toList=[63]:=by rw[zwc];simpa[jz] using hq
  refine _root_.Go.wp_seq (cok hg p2 [[1,3,13],[2],[2]] ec2 [] (by kernel_rfl) rfl (Φ:=fun x fr' h'=>x= .ret∧fr'=[(2,some (.s (.int .i64 1)))]∧h'=h++[.own 28 (encC m)]) (by simp[ec2,bf,bf']) R2 F2 ?_);rintro _ _ _ ρ3 a3 w3 ⟨rfl,rfl,rfl⟩ R3 F3 E3 L3;exact fin 1 (by rw[hno];rfl) ρ3 _ a3 w3 _ R3 (Gr.self _ _) ((E1.trans (zuL _) (fun i hi=>rfl)).trans (by simp) ((E2.trans (zuL _) E3))) F3 rfl
 |false=>
  rw[hq] at bf;have bf':¬(jz m.k).toList=[63]:=by rw[zwc];simpa[jz] using hq
  refine _root_.Go.wp_seq (cok hg p2 [[1,3,13],[2],[2]] ec2 [] (by kernel_rfl) rfl (Φ:=fun x fr' h'=>x= .normal∧fr'=[(1,some (.s (.ptr h.length 0))),(3,some (.s (.str (jz m.k)))),(13,some (.s (.bool false)))]∧h'=h++[.own 28 (encC m)]) (by simp[ec2,bf,bf']) R2 F2 ?_);rintro _ _ _ ρ3 a3 w3 ⟨rfl,rfl,rfl⟩ R3 F3 E3 L3;have E03:Ext h.length ρ ρ3:=E1.trans (by simp) (E2.trans (zuL _) E3)
  --the texts
  obtain⟨_,h4,t1,t2,rfl,t3⟩:=zoW m (h++[.own 28 (encC m)]);have hl12:(encC m).length=12:=rfl;have htk:(encC m).take 12=encC m:=rfl;have he4:jY (zy C) g4 [(1,some (.s (.ptr h.length 0))),(3,some (.s (.str (jz m.k)))),(13,some (.s (.bool false)))] (h++[.own 28 (encC m)])=some ([(15,some (.s (.mp ((h++[LO.own 28 (encC m)]).length+1)))),(14,some (.agg (encC m))),(1,some (.s (.ptr h.length 0))),(3,some (.s (.str (jz m.k)))),(13,some (.s (.bool false)))],h4):=by simp[g4,jY,jt,zK,jA,jU,opE,odS,odE,odL,yq,qx,zV,ob1,zab,hl12,htk,t1]
  refine _root_.Go.wp_seq (_root_.Go.wp_seq ?_);refine zfh hg (tm:=15) (it:=16) (l1:=o4.toList.take 2) (o:=o4.toList.getD 2 default) (t:=133) (k:=9) (e:=9) (by kernel_rfl) (by kernel_rfl) he4 t3 rfl (by kernel_rfl) (by kernel_rfl) (by decide) (by kernel_rfl) (by kernel_rfl) R3 F3 ?_;intro ρ4 a4 w4 r4 R4 F4 E4 hB4 hF4 hb4 hbs4 hi4 hfr4;have gr4:Gr h (h4++[.dead]):=((Gr.self h _).trans t2).app _;have E04:Ext h.length ρ ρ4:=E03.trans (by simp) E4;refine wp_block (wp_loop_rounds (zlu (txtM m).length []+1) ?_);refine zdO zgR hg zgu zkk (zaa C) (loop1 m (h4++[.dead]) h.length h4.length) (ii:=h4.length) (im:=(h++[LO.own 28 (encC m)]).length+1) (r:=r4) (ρ0:=ρ4) rfl (by simp) (by rw[zgb (yI t3)];exact t3) hB4 hF4 ?_ ?_ _ #[] ρ4 (h4++[.dead]) a4 w4 (by simp) R4 (Gr.refl _) (Ext.refl _ _) (F4.keep [1,3,16]) hb4 hbs4 hi4 (fun j hj=>by cases hj) hfr4
  ·--all are right
   intro hall ρ5 h5 a5 w5 R5 gr5 E5 F5;simp only[Exit.inBlock,if_true];have gr05:Gr h h5:=gr4.trans gr5;have E05:Ext h.length ρ ρ5:=E04.trans gr4.le E5;have ob5:=ob h5 ((t2.app [.dead]).trans gr5);obtain⟨_,h6,t4,t5,rfl,t6⟩:=zjB m h5;have he10:jY (zy C) g10 (frB1 h.length h4.length m.k) h5=some ((40,some (.s (.mp (h5.length+1))))::(39,some (.agg (encC m)))::frB1 h.length h4.length m.k,h6):=by simp[g10,frB1,fr1,jY,jt,zK,jA,jU,opE,odS,odE,odL,yq,qx,zV,ob5,zab,hl12,htk,t4]
   refine _root_.Go.wp_seq (_root_.Go.wp_seq ?_);refine zfh hg (tm:=40) (it:=41) (l1:=o10.toList.take 2) (o:=o10.toList.getD 2 default) (t:=137) (k:=9) (e:=3) (by kernel_rfl) (by kernel_rfl) he10 t6 rfl (by kernel_rfl) (by kernel_rfl) (by decide) (by kernel_rfl) (by kernel_rfl) R5 F5 ?_;intro ρ7 a7 w7 r7 R7 F7 E7 hB7 hF7 hb7 hbs7 hi7 hfr7;have gr7:Gr h (h6++[.dead]):=(gr05.trans t5).app _;have E07:Ext h.length ρ ρ7:=E05.trans gr05.le E7;refine wp_block (wp_loop_rounds (zlu (numM m).length []+1) ?_);refine zdO zgR hg zgu zkk (zaa C) (loop2 m (h6++[.dead]) h6.length) (ii:=h6.length) (im:=h5.length+1) (r:=r7) (ρ0:=ρ7) rfl (by simp) (by rw[zgb (yI t6)];exact t6) hB7 hF7 ?_ ?_ _ #[] ρ7 (h6++[.dead]) a7 w7 (by simp) R7 (Gr.refl _) (Ext.refl _ _) (F7.keep [3,41]) hb7 hbs7 hi7 (fun j hj=>by cases hj) hfr7
   ·intro hall2 ρ8 h8 a8 w8 R8 gr8 E8 F8;simp only[Exit.inBlock,if_true];have hyes:okC m=true:=by
     unfold okC;rw[hq,zu4.2 hall,zu4.2 hall2];rfl
    refine cok hg p3 [[2],[2]] ec3 [] (by kernel_rfl) rfl (Φ:=fun x fr' h'=>x= .ret∧fr'=[(2,some (.s (.int .i64 0)))]∧h'=h8) (by simp[ec3]) R8 F8 ?_;rintro _ _ _ ρ9 a9 w9 ⟨rfl,rfl,rfl⟩ R9 F9 E9 L9;exact fin 0 (by rw[hyes];rfl) ρ9 _ a9 w9 _ R9 (gr7.trans gr8) (E07.trans gr7.le (E8.trans gr8.le E9)) F9 rfl
   ·rintro⟨x,hx,hxg⟩ ρ8 h8 a8 w8 R8 gr8 E8 F8;have hno:okC m=false:=by
     cases ho:okC m with
     |false=>rfl
     |true=>
      unfold okC at ho;simp only[zuP] at ho;rw[zu4.1 ho.2.2 x hx] at hxg;cases hxg
    exact fin 1 (by rw[hno];rfl) ρ8 _ a8 w8 _ R8 (gr7.trans gr8) (E07.trans gr7.le E8) F8 rfl
  ·rintro⟨x,hx,hxg⟩ ρ5 h5 a5 w5 R5 gr5 E5 F5;have hno:okC m=false:=by
    cases ho:okC m with
    |false=>rfl
    |true=>
     unfold okC at ho;simp only[zuP] at ho;rw[zu4.1 ho.2.1 x hx] at hxg;cases hxg
   exact fin 1 (by rw[hno];rfl) ρ5 _ a5 w5 _ R5 (gr4.trans gr5) (E04.trans gr4.le E5) F5 rfl
end Go.Proofs.YtdmcfjkgopmlgaaGreatDoor.Ev.CK
namespace Go.Proofs.YtdmcfjkgopmlgaaGreatDoor.Ev.CD
open Go Go.RowKit
theorem t274:jv Tryz.prog 274 (qg e274.body)=some e274:=by kernel_rfl
theorem t324:jv Tryz.prog 324 (qg e324.body)=some e324:=by kernel_rfl
theorem t89:jv Tryz.prog 89 (qg e89.body)=some e89:=by kernel_rfl
theorem t348:jv Tryz.prog 348 (qg e348.body)=some e348:=by kernel_rfl
theorem t138:jv Tryz.prog 138 (qg e138.body)=some e138:=by kernel_rfl
theorem t90:jv Tryz.prog 90 (qg e90.body)=some e90:=by kernel_rfl
theorem t139:jv Tryz.prog 139 (qg e139.body)=some e139:=by kernel_rfl
theorem t164:jv Tryz.prog 164 (qg e164.body)=some e164:=by kernel_rfl
theorem xStr:XOK Tryz.prog (fun _=>True) 140 e140:=by
 refine⟨2,1,zkq,rfl,fun b hg args h vs h' ρ w _ hga hm hf R hwf=>⟨⟨Tryz.f140,Tryz.func140,by decide+kernel,by kernel_rfl⟩,?_⟩⟩;unfold zkq at hga;split at hga
 ·rename_i a b h0;obtain⟨rfl,rfl⟩:=zuZ (zuG hga);refine(Tryz.strings_Compare a b w).mono fun e w' hq=> ?_;obtain⟨rfl,rfl⟩:=hq;exact⟨ρ,rfl,R,Ext.refl _ _,zuL _,trivial⟩
 ·cases hga
theorem table:∀f e,C f=some e→(∃hs,jv Tryz.prog f hs=some e)∨XOK Tryz.prog (fun _=>True) f e:=by
 intro f e h;unfold C at h;split at h
 ·cases h;exact .inl ⟨_,t274⟩
 ·cases h;exact .inl ⟨_,t324⟩
 ·cases h;exact .inl ⟨_,t89⟩
 ·cases h;exact .inl ⟨_,t348⟩
 ·cases h;exact .inl ⟨_,t138⟩
 ·cases h;exact .inl ⟨_,t90⟩
 ·cases h;exact .inl ⟨_,t139⟩
 ·cases h;exact .inl ⟨_,t164⟩
 ·cases h;exact .inr xStr
 ·cases h
theorem xB(G:Base→Prop):XOK Tryz.prog G 273 (JA 261 3 274 (ltK [0,1]) (okT [true,true,true])):=
 Qn Tryz.sortB rfl ⟨Tryz.f273,Tryz.func273,by decide+kernel,by kernel_rfl⟩ Tryz.isAgg261 Tryz.sizeOf261 (by kernel_rfl) table (enters_of Tryz.func274 (by kernel_rfl) rfl) Jc zan (zmu _ _ rfl) cB G
theorem xV(G:Base→Prop):XOK Tryz.prog G 323 (JA 327 3 324 (ltK [1,0]) (okT [true,true,true])):=
 Qn Tryz.sortV rfl ⟨Tryz.f323,Tryz.func323,by decide+kernel,by kernel_rfl⟩ Tryz.isAgg327 Tryz.sizeOf327 (by kernel_rfl) table (enters_of Tryz.func324 (by kernel_rfl) rfl) Jc zan (zmu _ _ rfl) cV G
theorem xT(G:Base→Prop):XOK Tryz.prog G 88 (JA 43 2 89 (ltK [0]) (okT [true,true])):=
 Qn Tryz.sortT rfl ⟨Tryz.f88,Tryz.func88,by decide+kernel,by kernel_rfl⟩ Tryz.isAgg43 Tryz.sizeOf43 (by kernel_rfl) table (enters_of Tryz.func89 (by kernel_rfl) rfl) Jc zan (zmu _ _ rfl) cT G
theorem xW(G:Base→Prop):XOK Tryz.prog G 347 (JA 244 5 348 (ltK [0,1]) (okT [true,true,true,true,true])):=
 Qn Tryz.sortW rfl ⟨Tryz.f347,Tryz.func347,by decide+kernel,by kernel_rfl⟩ Tryz.isAgg244 Tryz.sizeOf244 (by kernel_rfl) table (enters_of Tryz.func348 (by kernel_rfl) rfl) Jc zan (zmu _ _ rfl) cW G
theorem xP(G:Base→Prop):XOK Tryz.prog G 137 (JA 171 3 138 (ltK [0,1]) (okT [false,false,true])):=
 Qn Tryz.sortP rfl ⟨Tryz.f137,Tryz.func137,by decide+kernel,by kernel_rfl⟩ Tryz.isAgg171 Tryz.sizeOf171 (by kernel_rfl) table (enters_of Tryz.func138 (by kernel_rfl) rfl) Jc zan (zmu _ _ rfl) cP G
end Go.Proofs.YtdmcfjkgopmlgaaGreatDoor.Ev.CD
namespace Go.Proofs.YtdmcfjkgopmlgaaGreatDoor.Ev.CA
open Go Go.RowKit
theorem mixed:Tryz.prog.follows .mixedOrders=true:=by kernel_rfl
def ids:List Nat:=[4,8,9,10,11,12,13,16,25,26,27,28,29,30,31,32,33,34,35,36,37,38,39,40,45,46,47,63,64,65,66,67,68,69,70,71,72,73,74,75,76,77,78,79,80,81,82,83,84,85,86,87,91,92,93,95,96,97,98,99,100,101,102,103,129,130,131,132,133,134,135,136,141,142,143,144,145,146,147,148,149,150,151,152,153,154,155,156,157,158,159,160,165,166,167,169,170,171,172,173,174,175,176,209,210,211,212,213,214,215,216,217,218,219,220,221,222,223,224,225,226,227,228,239,240,241,268,269,270,271,272,275,276,277,278,279,280,281,282,283,284,285,286,287,288,289,290,291,292,293,294,300,301,302,312,314,315,316,317,318,319,320,321,322,325,326,327,328,329,330,331,333,345,346,350,351,352]
theorem ts:ids.map (fun i=>(C i).bind fun e=>jv Tryz.prog i (qg e.body))=ids.map C:=by kernel_rfl
def Gd:Base→Prop:=fun b=>b.dr=false
theorem stays:JG Tryz.prog Gd:=fun _ _ _ _ _ _ h=>h
theorem zuj:XOK Tryz.prog Gd 24 e24:=by
 refine⟨1,1,zf7,rfl,fun b hg args h vs h' ρ w _ hga hm hf R hwf=>⟨⟨Tryz.f24,Tryz.func24,by decide+kernel,by kernel_rfl⟩,?_⟩⟩;unfold zf7 at hga;split at hga
 ·rename_i l h0;split at hga
  ·rename_i m hc;obtain⟨rfl,rfl⟩:=zuZ (zuG hga);obtain rfl:=CK.cmOf_some hc;refine(CK.check_calls hg m R (hwf _ zvT)).mono fun e w' hq=> ?_;obtain⟨ρ',rfl,R',E'⟩:=hq;exact⟨ρ',rfl,R',E',zuL _,trivial⟩
  ·cases hga
 ·cases hga
theorem xGrow:XOK Tryz.prog Gd 161 e161:=by
 refine⟨2,1,zaP,rfl,fun b hg args h vs h' ρ w _ hga hm hf R hwf=>⟨⟨Tryz.f161,Tryz.func161,by decide+kernel,by kernel_rfl⟩,?_⟩⟩;unfold zaP at hga;split at hga
 ·rename_i n h0;split at hga
  ·rename_i hn;obtain⟨m,rfl⟩:∃m:Nat,n=m:=⟨n.toNat,by omega⟩
   have hm2:m≤1000000:=by omega
   split at hga
   ·rename_i h1;obtain rfl:m=0:=by omega
    obtain⟨rfl,rfl⟩:=zuZ (zuG hga);refine(Any8.slices_Grow_room Tryz.growI none 0 0 0 w (by omega) (by omega) (by omega) (by omega)).mono fun e w' hq=> ?_;obtain⟨rfl,rfl⟩:=hq;exact⟨ρ,rfl,R,Ext.refl _ _,zuL _,trivial⟩
   ·rename_i h1;have hpos:0<m:=by omega
    obtain⟨rfl,rfl⟩:=zuZ (zuG hga);obtain⟨i,hi⟩:∃i,Tryz.prog.info? 43=some i:=zv3.1 (by kernel_rfl);have hb:(Tryz.prog.info? 43).map (·.bytes)=some 16:=by kernel_rfl
    have hz1:((Tryz.prog.info? 43).bind (·.zero)).isSome=true:=by kernel_rfl
    have hz2:((Tryz.prog.info? 43).bind (·.zero)).map (·.cells.size)=some 2:=by kernel_rfl
    have hc2:Tryz.prog.cellsOf 43=2:=by kernel_rfl
    rw[hi] at hb hz1 hz2;have hP:=yr hi;obtain⟨z,hz⟩:=zv3.1 hz1;have hz':i.zero=some z:=hz;rw[hz] at hz2;have hzs:z.cells.size=2:=zuG hz2;have hb':i.bytes=16:=zuG hb;have hs2:i.size=2:=by rw[←hP,hc2]
    refine(Any8.slices_Grow_grow Tryz.growI i z hi hz' (by rw[hs2];omega) none 0 0 m [] w (by omega) (by omega) (by rw[hb'];omega) (by omega) (by simp) (fun _=>rfl) (fun a ha=>by cases ha)).mono fun e w' hq=> ?_;have hq':e= .returned (.slice (some ⟨w.heap.size,0,none⟩) 0 (grownCap w (0+m) 0 43))∧w'=w.drew.alloc (.cells (([]:List Value).toArray++Builtin.zeroCells z.cells (0+m-0)++Builtin.zeroCells z.cells (grownCap w (0+m) 0 43-(0+m))) 43):=hq;obtain⟨rfl,rfl⟩:=hq';have hge:0+m≤grownCap w (0+m) 0 43:=grownCap_ge w _ _ _;refine⟨upd ρ h.length ⟨w.heap.size,0,Tryz.prog.cellsOf 43,grownCap w (0+m) 0 43,undef⟩,?_,R.drew.alloc 43 _ [] (grownCap w (0+m) 0 43) ?_ (zws _) (fun j v hj=>by cases hj) (fun v hv=>by cases hv),yx _ _ _,by simp,?_⟩
    ·simp[qL,cv,c0,adr,zu]
    ·rw[hc2];simp only[zxa,zwe,zv1,size_zeroCells,hzs];omega
    ·simp[qL,wfV,wf]
  ·cases hga
 ·cases hga
theorem tm{f:Nat}{e:EF}(hf:ids.elem f=true)(h:C f=some e):∃hs,jv Tryz.prog f hs=some e:=by have:=List.map_inj_left.1 ts f (List.elem_iff.1 hf);simp only[h,zwr] at this;exact⟨_,this⟩
theorem c0{f:Nat}{e:EF}(h:C0 f=some e):(∃hs,jv Tryz.prog f hs=some e)∨XOK Tryz.prog Gd f e:=by
 unfold C0 at h;split at h
 iterate 60 exact .inl (tm (by decide+kernel) h)
 cases h
theorem c1{f:Nat}{e:EF}(h:C1 f=some e):(∃hs,jv Tryz.prog f hs=some e)∨XOK Tryz.prog Gd f e:=by
 unfold C1 at h;split at h
 iterate 60 exact .inl (tm (by decide+kernel) h)
 cases h
theorem c2{f:Nat}{e:EF}(h:C2 f=some e):(∃hs,jv Tryz.prog f hs=some e)∨XOK Tryz.prog Gd f e:=by
 unfold C2 at h;split at h
 iterate 57 exact .inl (tm (by decide+kernel) h)
 ·cases h;exact .inr (CD.xB _)
 ·cases h;exact .inr (CD.xV _)
 ·cases h;exact .inr (CD.xT _)
 cases h
theorem c3{f:Nat}{e:EF}(h:C3 f=some e):(∃hs,jv Tryz.prog f hs=some e)∨XOK Tryz.prog Gd f e:=by
 unfold C3 at h;split at h
 ·cases h;exact .inr (CD.xW _)
 ·cases h;exact .inr (CD.xP _)
 ·cases h;exact .inr xGrow
 ·cases h;exact .inr zuj
 cases h
theorem table:∀f e,C f=some e→(∃hs,jv Tryz.prog f hs=some e)∨XOK Tryz.prog Gd f e:=by
 intro f e h;unfold C at h;split at h
 ·rename_i h1;cases h;exact c0 h1
 split at h
 ·rename_i h1;cases h;exact c1 h1
 split at h
 ·rename_i h1;cases h;exact c2 h1
 exact c3 h
def laidL : List (String × DataW Unit) := [("unicode/utf8.acceptRanges", Rows.laid_unicode_utf8_acceptRanges), ("unicode/utf8.first", Rows.laid_unicode_utf8_first)]
theorem good_of{W:World}(h:laidMetH Tryz.prog laidL W):Gd (W0 W):=rfl
theorem door_met(os:Os)(args:Array Value):laidMetH Tryz.prog laidL ((World.laidAll Tryz.prog os laidL).forCall (fun _ _=>0) ⟨#[],args,[]⟩).memory:=by rw[MakeChecks.laidMetH_plain _ _ _ (by kernel_rfl)];exact laidMet_laidAll _ (by kernel_rfl) (by kernel_rfl)
end Go.Proofs.YtdmcfjkgopmlgaaGreatDoor.Ev.CA
