/- Parts of a proof, laid together: Lays, LayTs, WB0, WJ0, WJ1, WJ2. -/
import Derived.Shelf.SlSortCmp.NoneTotal
import Derived.Shelf.SlGeneric
import Derived.Ground.SlsfProg
import Derived.Shelf.SortM.Plain
import Derived.Shelf.SortM.SortNone
import Derived.Shelf.Sort.Plain
import Derived.Shelf.Small.Strs
import Derived.Shelf.Strings.BuilderF
import Derived.Shelf.SlIter.Nil
import Derived.Shelf.SlIter.Sorted
import Derived.Ground.SlgmProg
import Derived.Ground.GgzProg
import Derived.Shelf.Spec.SlicesGrow
import Derived.Ground.Names8Prog
import Derived.Test.YtiojapdolljocaaGreatChecked
import Derived.WalkKit
import Derived.BigCall
import Derived.Test.YtiojapdolljocaaGreatqBo15
import Derived.Test.YtiojapdolljocaaGreatqBo16
import Derived.Test.YtiojapdolljocaaGreatqBo18
import Derived.Test.YtiojapdolljocaaGreatqBo21
set_option linter.unusedSimpArgs false
set_option maxHeartbeats 8000000
set_option linter.unusedVariables false
set_option linter.unusedSectionVars false
section

/-
  DERIVED: THE SHELF's CONTRACTS AT THIS DUMP, IN PLAIN WORDS (tools/lay-plain.mjs out of 'YtiojapdolljocaaGreatLay.lean', which tools/lay-shelf.mjs wrote): THE SAME DECLARATIONS UNDER THE SAME NAMES: 'import', 'namespace', 'open', 'def', 'theorem' AND NOTHING ELSE: no command of the shelf's: FOR A HAND-IN. Each laying: the table of numbers ('.._ren') and one theorem, a field a fact of the dump's own or the kernel's comparison; each contract: ONE APPLICATION.
-/
namespace Go.Proofs
open Go.Shelf
def Tryz.sortStr_ren : Go.Shelf.Ren:=⟨fun | 6=>154 | 8=>111 | 9=>198 | 19=>170 | 20=>171 | 21=>216 | 22=>217 | 23=>218 | 24=>219 | 25=>220 | 26=>221 | 27=>222 | 28=>223 | 29=>224 | 36=>229 | 31=>205 | 32=>206 | 37=>230 | 38=>231 | 39=>232 | 41=>234 | n=>n,fun | 27=>46 | 29=>9 | 3=>3 | 32=>173 | 26=>46 | 0=>0 | 44=>214 | 46=>96 | 4=>4 | 36=>207 | 35=>206 | 41=>211 | 5=>5 | 9=>9 | 53=>244 | 57=>248 | 63=>261 | 64=>224 | n=>n,fun | n=>n⟩
theorem Tryz.sortStr : Go.Proofs.SlLaysM.n6 Tryz.prog Tryz.sortStr_ren:={
 mixed:=by kernel_rfl
 f6:=⟨Tryz.f154.name,by decide,Tryz.func154.trans (congrArg some (by kernel_rfl))⟩
 f8:=Tryz.func111.trans (congrArg some (by kernel_rfl))
 f9:=⟨Tryz.f198.name,by decide,Tryz.func198.trans (congrArg some (by kernel_rfl))⟩
 f19:=Tryz.func170.trans (congrArg some (by kernel_rfl))
 f20:=Tryz.func171.trans (congrArg some (by kernel_rfl))
 f21:=⟨Tryz.f216.name,by decide,Tryz.func216.trans (congrArg some (by kernel_rfl))⟩
 f22:=⟨Tryz.f217.name,by decide,Tryz.func217.trans (congrArg some (by kernel_rfl))⟩
 f23:=⟨Tryz.f218.name,by decide,Tryz.func218.trans (congrArg some (by kernel_rfl))⟩
 f24:=⟨Tryz.f219.name,by decide,Tryz.func219.trans (congrArg some (by kernel_rfl))⟩
 f25:=⟨Tryz.f220.name,by decide,Tryz.func220.trans (congrArg some (by kernel_rfl))⟩
 f26:=⟨Tryz.f221.name,by decide,Tryz.func221.trans (congrArg some (by kernel_rfl))⟩
 f27:=⟨Tryz.f222.name,by decide,Tryz.func222.trans (congrArg some (by kernel_rfl))⟩
 f28:=⟨Tryz.f223.name,by decide,Tryz.func223.trans (congrArg some (by kernel_rfl))⟩
 f29:=⟨Tryz.f224.name,by decide,Tryz.func224.trans (congrArg some (by kernel_rfl))⟩
 f31:=Tryz.func205.trans (congrArg some (by kernel_rfl))
 f32:=Tryz.func206.trans (congrArg some (by kernel_rfl))
 f36:=⟨Tryz.f229.name,by decide,Tryz.func229.trans (congrArg some (by kernel_rfl))⟩
 f37:=⟨Tryz.f230.name,by decide,Tryz.func230.trans (congrArg some (by kernel_rfl))⟩
 f38:=⟨Tryz.f231.name,by decide,Tryz.func231.trans (congrArg some (by kernel_rfl))⟩
 f39:=⟨Tryz.f232.name,by decide,Tryz.func232.trans (congrArg some (by kernel_rfl))⟩
 f41:=⟨Tryz.f234.name,by decide,Tryz.func234.trans (congrArg some (by kernel_rfl))⟩
 t0:=Tryz.underlying0
 a0:=Tryz.isAgg0
 z0:=Tryz.sizeOf0
 v0:=Tryz.zeroValue0
 t3:=Tryz.underlying3
 a3:=Tryz.isAgg3
 z3:=Tryz.sizeOf3
 v3:=Tryz.zeroValue3
 t4:=Tryz.underlying4
 a4:=Tryz.isAgg4
 z4:=Tryz.sizeOf4
 v4:=Tryz.zeroValue4
 t5:=Tryz.underlying5
 a5:=Tryz.isAgg5
 z5:=Tryz.sizeOf5
 v5:=Tryz.zeroValue5
 t9:=Tryz.underlying9
 a9:=Tryz.isAgg9
 z9:=Tryz.sizeOf9
 v9:=Tryz.zeroValue9
 t26:=Tryz.underlying46
 a26:=Tryz.isAgg46
 z26:=Tryz.sizeOf46
 v26:=Tryz.zeroValue46
 t27:=Tryz.underlying46
 a27:=Tryz.isAgg46
 z27:=Tryz.sizeOf46
 v27:=Tryz.zeroValue46
 t29:=Tryz.underlying9
 a29:=Tryz.isAgg9
 z29:=Tryz.sizeOf9
 v29:=Tryz.zeroValue9
 t32:=Tryz.underlying173
 a32:=Tryz.isAgg173
 z32:=Tryz.sizeOf173
 v32:=Tryz.zeroValue173
 t35:=Tryz.underlying206
 a35:=Tryz.isAgg206
 z35:=Tryz.sizeOf206
 v35:=Tryz.zeroValue206
 t36:=Tryz.underlying207
 a36:=Tryz.isAgg207
 z36:=Tryz.sizeOf207
 v36:=Tryz.zeroValue207
 t41:=Tryz.underlying211
 a41:=Tryz.isAgg211
 z41:=Tryz.sizeOf211
 v41:=Tryz.zeroValue211
 t44:=Tryz.underlying214
 a44:=Tryz.isAgg214
 z44:=Tryz.sizeOf214
 v44:=Tryz.zeroValue214
 t46:=Tryz.underlying96
 a46:=Tryz.isAgg96
 z46:=Tryz.sizeOf96
 v46:=Tryz.zeroValue96
 t53:=Tryz.underlying244
 a53:=Tryz.isAgg244
 z53:=Tryz.sizeOf244
 v53:=Tryz.zeroValue244
 t57:=Tryz.underlying248
 a57:=Tryz.isAgg248
 z57:=Tryz.sizeOf248
 v57:=Tryz.zeroValue248
 t63:=Tryz.underlying261
 a63:=Tryz.isAgg261
 z63:=Tryz.sizeOf261
 v63:=Tryz.zeroValue261
 t64:=Tryz.underlying224
 a64:=Tryz.isAgg224
 z64:=Tryz.sizeOf224
 v64:=Tryz.zeroValue224 }
def Tryz.bldString_ren : Go.Shelf.Ren:=⟨fun | 169=>195 | n=>n,fun | 70=>229 | 9=>9 | 0=>0 | 72=>232 | 37=>230 | 127=>253 | 3=>3 | 5=>5 | n=>n,fun | n=>n⟩
theorem Tryz.bldString : Go.Proofs.Lays.n169 Tryz.prog Tryz.bldString_ren:={
 mixed:=by kernel_rfl
 f169:=Tryz.func195.trans (congrArg some (by kernel_rfl))
 t0:=Tryz.underlying0
 a0:=Tryz.isAgg0
 z0:=Tryz.sizeOf0
 v0:=Tryz.zeroValue0
 t3:=Tryz.underlying3
 a3:=Tryz.isAgg3
 z3:=Tryz.sizeOf3
 v3:=Tryz.zeroValue3
 t9:=Tryz.underlying9
 a9:=Tryz.isAgg9
 z9:=Tryz.sizeOf9
 v9:=Tryz.zeroValue9
 t37:=Tryz.underlying230
 a37:=Tryz.isAgg230
 z37:=Tryz.sizeOf230
 v37:=Tryz.zeroValue230
 t70:=Tryz.underlying229
 a70:=Tryz.isAgg229
 z70:=Tryz.sizeOf229
 v70:=Tryz.zeroValue229
 t72:=Tryz.underlying232
 a72:=Tryz.isAgg232
 z72:=Tryz.sizeOf232
 v72:=Tryz.zeroValue232
 t127:=Tryz.underlying253
 a127:=Tryz.isAgg253
 z127:=Tryz.sizeOf253
 v127:=Tryz.zeroValue253 }
def Tryz.sortFArc_ren : Go.Shelf.Ren:=⟨fun | 6=>62 | 15=>111 | 14=>110 | 28=>170 | 29=>171 | 20=>162 | 21=>163 | 22=>164 | 23=>165 | 24=>166 | 25=>167 | 26=>168 | 27=>169 | 46=>204 | 47=>205 | 48=>206 | 49=>207 | 50=>208 | 57=>226 | n=>n,fun | 22=>29 | 24=>39 | 25=>124 | 3=>3 | 39=>173 | 0=>0 | 53=>214 | 55=>96 | 4=>4 | 46=>207 | 45=>206 | 50=>211 | 5=>5 | 9=>9 | 66=>244 | 70=>248 | 76=>261 | 77=>224 | n=>n,fun | n=>n⟩
theorem Tryz.sortFArc : Go.Proofs.SlLaysF0.n6 Tryz.prog Tryz.sortFArc_ren:={
 mixed:=by kernel_rfl
 f6:=⟨Tryz.f62.name,by decide,Tryz.func62.trans (congrArg some (by kernel_rfl))⟩
 f14:=⟨Tryz.f110.name,by decide,Tryz.func110.trans (congrArg some (by kernel_rfl))⟩
 f15:=Tryz.func111.trans (congrArg some (by kernel_rfl))
 f20:=⟨Tryz.f162.name,by decide,Tryz.func162.trans (congrArg some (by kernel_rfl))⟩
 f21:=⟨Tryz.f163.name,by decide,Tryz.func163.trans (congrArg some (by kernel_rfl))⟩
 f22:=⟨Tryz.f164.name,by decide,Tryz.func164.trans (congrArg some (by kernel_rfl))⟩
 f23:=⟨Tryz.f165.name,by decide,Tryz.func165.trans (congrArg some (by kernel_rfl))⟩
 f24:=⟨Tryz.f166.name,by decide,Tryz.func166.trans (congrArg some (by kernel_rfl))⟩
 f25:=⟨Tryz.f167.name,by decide,Tryz.func167.trans (congrArg some (by kernel_rfl))⟩
 f26:=⟨Tryz.f168.name,by decide,Tryz.func168.trans (congrArg some (by kernel_rfl))⟩
 f27:=⟨Tryz.f169.name,by decide,Tryz.func169.trans (congrArg some (by kernel_rfl))⟩
 f28:=Tryz.func170.trans (congrArg some (by kernel_rfl))
 f29:=Tryz.func171.trans (congrArg some (by kernel_rfl))
 f46:=⟨Tryz.f204.name,by decide,Tryz.func204.trans (congrArg some (by kernel_rfl))⟩
 f47:=Tryz.func205.trans (congrArg some (by kernel_rfl))
 f48:=Tryz.func206.trans (congrArg some (by kernel_rfl))
 f49:=⟨Tryz.f207.name,by decide,Tryz.func207.trans (congrArg some (by kernel_rfl))⟩
 f50:=⟨Tryz.f208.name,by decide,Tryz.func208.trans (congrArg some (by kernel_rfl))⟩
 f57:=⟨Tryz.f226.name,by decide,Tryz.func226.trans (congrArg some (by kernel_rfl))⟩
 t0:=Tryz.underlying0
 a0:=Tryz.isAgg0
 z0:=Tryz.sizeOf0
 v0:=Tryz.zeroValue0
 t3:=Tryz.underlying3
 a3:=Tryz.isAgg3
 z3:=Tryz.sizeOf3
 v3:=Tryz.zeroValue3
 t4:=Tryz.underlying4
 a4:=Tryz.isAgg4
 z4:=Tryz.sizeOf4
 v4:=Tryz.zeroValue4
 t5:=Tryz.underlying5
 a5:=Tryz.isAgg5
 z5:=Tryz.sizeOf5
 v5:=Tryz.zeroValue5
 t9:=Tryz.underlying9
 a9:=Tryz.isAgg9
 z9:=Tryz.sizeOf9
 v9:=Tryz.zeroValue9
 t22:=Tryz.underlying29
 a22:=Tryz.isAgg29
 z22:=Tryz.sizeOf29
 v22:=Tryz.zeroValue29
 t25:=Tryz.underlying124
 a25:=Tryz.isAgg124
 z25:=Tryz.sizeOf124
 v25:=Tryz.zeroValue124
 t39:=Tryz.underlying173
 a39:=Tryz.isAgg173
 z39:=Tryz.sizeOf173
 v39:=Tryz.zeroValue173
 t45:=Tryz.underlying206
 a45:=Tryz.isAgg206
 z45:=Tryz.sizeOf206
 v45:=Tryz.zeroValue206
 t46:=Tryz.underlying207
 a46:=Tryz.isAgg207
 z46:=Tryz.sizeOf207
 v46:=Tryz.zeroValue207
 t50:=Tryz.underlying211
 a50:=Tryz.isAgg211
 z50:=Tryz.sizeOf211
 v50:=Tryz.zeroValue211
 t53:=Tryz.underlying214
 a53:=Tryz.isAgg214
 z53:=Tryz.sizeOf214
 v53:=Tryz.zeroValue214
 t55:=Tryz.underlying96
 a55:=Tryz.isAgg96
 z55:=Tryz.sizeOf96
 v55:=Tryz.zeroValue96
 t66:=Tryz.underlying244
 a66:=Tryz.isAgg244
 z66:=Tryz.sizeOf244
 v66:=Tryz.zeroValue244
 t70:=Tryz.underlying248
 a70:=Tryz.isAgg248
 z70:=Tryz.sizeOf248
 v70:=Tryz.zeroValue248
 t76:=Tryz.underlying261
 a76:=Tryz.isAgg261
 z76:=Tryz.sizeOf261
 v76:=Tryz.zeroValue261
 t77:=Tryz.underlying224
 a77:=Tryz.isAgg224
 z77:=Tryz.sizeOf224
 v77:=Tryz.zeroValue224 }
def Tryz.sortInt_ren : Go.Shelf.Ren:=⟨fun | 189=>64 | 125=>111 | 257=>115 | 128=>170 | 129=>171 | 294=>173 | 295=>174 | 296=>175 | 297=>176 | 298=>177 | 299=>178 | 216=>179 | 300=>180 | 301=>181 | 328=>209 | 329=>205 | 330=>206 | 331=>210 | 332=>211 | 215=>172 | 343=>227 | n=>n,fun | 28=>28 | 3=>3 | 46=>173 | 0=>0 | 51=>214 | 53=>96 | 4=>4 | 183=>207 | 182=>206 | 131=>211 | 5=>5 | 9=>9 | 218=>244 | 222=>248 | 228=>261 | 229=>224 | n=>n,fun | n=>n⟩
theorem Tryz.sortInt : Go.Proofs.Lays.n189 Tryz.prog Tryz.sortInt_ren:={
 mixed:=by kernel_rfl
 f125:=Tryz.func111.trans (congrArg some (by kernel_rfl))
 f128:=Tryz.func170.trans (congrArg some (by kernel_rfl))
 f129:=Tryz.func171.trans (congrArg some (by kernel_rfl))
 f189:=Tryz.func64.trans (congrArg some (by kernel_rfl))
 f215:=Tryz.func172.trans (congrArg some (by kernel_rfl))
 f216:=Tryz.func179.trans (congrArg some (by kernel_rfl))
 f257:=Tryz.func115.trans (congrArg some (by kernel_rfl))
 f294:=Tryz.func173.trans (congrArg some (by kernel_rfl))
 f295:=Tryz.func174.trans (congrArg some (by kernel_rfl))
 f296:=Tryz.func175.trans (congrArg some (by kernel_rfl))
 f297:=Tryz.func176.trans (congrArg some (by kernel_rfl))
 f298:=Tryz.func177.trans (congrArg some (by kernel_rfl))
 f299:=Tryz.func178.trans (congrArg some (by kernel_rfl))
 f300:=Tryz.func180.trans (congrArg some (by kernel_rfl))
 f301:=Tryz.func181.trans (congrArg some (by kernel_rfl))
 f328:=Tryz.func209.trans (congrArg some (by kernel_rfl))
 f329:=Tryz.func205.trans (congrArg some (by kernel_rfl))
 f330:=Tryz.func206.trans (congrArg some (by kernel_rfl))
 f331:=Tryz.func210.trans (congrArg some (by kernel_rfl))
 f332:=Tryz.func211.trans (congrArg some (by kernel_rfl))
 f343:=Tryz.func227.trans (congrArg some (by kernel_rfl))
 t0:=Tryz.underlying0
 a0:=Tryz.isAgg0
 z0:=Tryz.sizeOf0
 v0:=Tryz.zeroValue0
 t3:=Tryz.underlying3
 a3:=Tryz.isAgg3
 z3:=Tryz.sizeOf3
 v3:=Tryz.zeroValue3
 t4:=Tryz.underlying4
 a4:=Tryz.isAgg4
 z4:=Tryz.sizeOf4
 v4:=Tryz.zeroValue4
 t5:=Tryz.underlying5
 a5:=Tryz.isAgg5
 z5:=Tryz.sizeOf5
 v5:=Tryz.zeroValue5
 t9:=Tryz.underlying9
 a9:=Tryz.isAgg9
 z9:=Tryz.sizeOf9
 v9:=Tryz.zeroValue9
 t28:=Tryz.underlying28
 a28:=Tryz.isAgg28
 z28:=Tryz.sizeOf28
 v28:=Tryz.zeroValue28
 t46:=Tryz.underlying173
 a46:=Tryz.isAgg173
 z46:=Tryz.sizeOf173
 v46:=Tryz.zeroValue173
 t51:=Tryz.underlying214
 a51:=Tryz.isAgg214
 z51:=Tryz.sizeOf214
 v51:=Tryz.zeroValue214
 t53:=Tryz.underlying96
 a53:=Tryz.isAgg96
 z53:=Tryz.sizeOf96
 v53:=Tryz.zeroValue96
 t131:=Tryz.underlying211
 a131:=Tryz.isAgg211
 z131:=Tryz.sizeOf211
 v131:=Tryz.zeroValue211
 t182:=Tryz.underlying206
 a182:=Tryz.isAgg206
 z182:=Tryz.sizeOf206
 v182:=Tryz.zeroValue206
 t183:=Tryz.underlying207
 a183:=Tryz.isAgg207
 z183:=Tryz.sizeOf207
 v183:=Tryz.zeroValue207
 t218:=Tryz.underlying244
 a218:=Tryz.isAgg244
 z218:=Tryz.sizeOf244
 v218:=Tryz.zeroValue244
 t222:=Tryz.underlying248
 a222:=Tryz.isAgg248
 z222:=Tryz.sizeOf248
 v222:=Tryz.zeroValue248
 t228:=Tryz.underlying261
 a228:=Tryz.isAgg261
 z228:=Tryz.sizeOf261
 v228:=Tryz.zeroValue261
 t229:=Tryz.underlying224
 a229:=Tryz.isAgg224
 z229:=Tryz.sizeOf224
 v229:=Tryz.zeroValue224 }
def Tryz.keysM_ren : Go.Shelf.Ren:=⟨fun | 7=>100 | 10=>155 | n=>n,fun | 23=>161 | 26=>9 | 3=>3 | 28=>159 | 0=>0 | 27=>158 | 33=>194 | 4=>4 | n=>n,fun | n=>n⟩
theorem Tryz.keysM : Go.Proofs.SlLaysZ.n7 Tryz.prog Tryz.keysM_ren:={
 mixed:=by kernel_rfl
 f7:=⟨Tryz.f100.name,by decide,Tryz.func100.trans (congrArg some (by kernel_rfl))⟩
 f10:=⟨Tryz.f155.name,by decide,Tryz.func155.trans (congrArg some (by kernel_rfl))⟩
 t0:=Tryz.underlying0
 a0:=Tryz.isAgg0
 z0:=Tryz.sizeOf0
 v0:=Tryz.zeroValue0
 t4:=Tryz.underlying4
 a4:=Tryz.isAgg4
 z4:=Tryz.sizeOf4
 v4:=Tryz.zeroValue4
 t23:=Tryz.underlying161
 a23:=Tryz.isAgg161
 z23:=Tryz.sizeOf161
 v23:=Tryz.zeroValue161
 t26:=Tryz.underlying9
 a26:=Tryz.isAgg9
 z26:=Tryz.sizeOf9
 v26:=Tryz.zeroValue9
 t27:=Tryz.underlying158
 a27:=Tryz.isAgg158
 z27:=Tryz.sizeOf158
 v27:=Tryz.zeroValue158
 t28:=Tryz.underlying159
 a28:=Tryz.isAgg159
 z28:=Tryz.sizeOf159
 v28:=Tryz.zeroValue159
 t33:=Tryz.underlying194
 a33:=Tryz.isAgg194
 z33:=Tryz.sizeOf194
 v33:=Tryz.zeroValue194 }
def Tryz.sortedM_ren : Go.Shelf.Ren:=⟨fun | 6=>99 | 8=>153 | 9=>154 | 11=>197 | 13=>111 | 12=>198 | 23=>170 | 24=>171 | 14=>216 | 15=>217 | 16=>218 | 17=>219 | 18=>220 | 19=>221 | 20=>222 | 21=>223 | 22=>224 | 25=>229 | 26=>205 | 27=>206 | 28=>230 | 29=>231 | 30=>232 | 31=>234 | n=>n,fun | 26=>9 | 28=>159 | 24=>46 | 0=>0 | 3=>3 | 37=>173 | 48=>214 | 50=>96 | 4=>4 | 40=>207 | 39=>206 | 45=>211 | 5=>5 | 9=>9 | 51=>244 | 55=>248 | 57=>261 | 58=>224 | 33=>194 | n=>n,fun | n=>n⟩
theorem Tryz.sortedM : Go.Proofs.SlLaysZ.n6 Tryz.prog Tryz.sortedM_ren:={
 mixed:=by kernel_rfl
 f6:=⟨Tryz.f99.name,by decide,Tryz.func99.trans (congrArg some (by kernel_rfl))⟩
 f8:=⟨Tryz.f153.name,by decide,Tryz.func153.trans (congrArg some (by kernel_rfl))⟩
 f11:=⟨Tryz.f197.name,by decide,Tryz.func197.trans (congrArg some (by kernel_rfl))⟩
 t0:=Tryz.underlying0
 a0:=Tryz.isAgg0
 z0:=Tryz.sizeOf0
 v0:=Tryz.zeroValue0
 t24:=Tryz.underlying46
 a24:=Tryz.isAgg46
 z24:=Tryz.sizeOf46
 v24:=Tryz.zeroValue46
 t26:=Tryz.underlying9
 a26:=Tryz.isAgg9
 z26:=Tryz.sizeOf9
 v26:=Tryz.zeroValue9
 t28:=Tryz.underlying159
 a28:=Tryz.isAgg159
 z28:=Tryz.sizeOf159
 v28:=Tryz.zeroValue159
 i26:=by kernel_rfl }
def Tryz.growI_ren : Go.Shelf.Ren:=⟨fun | 4=>161 | n=>n,fun | 22=>28 | 25=>3 | 3=>3 | 4=>4 | 9=>9 | 20=>20 | 0=>0 | n=>n,fun | n=>n⟩
theorem Tryz.growI : Go.Proofs.Lays8.n4 Tryz.prog Tryz.growI_ren:={
 mixed:=by kernel_rfl
 f4:=⟨Tryz.f161.name,by decide,Tryz.func161.trans (congrArg some (by kernel_rfl))⟩
 t0:=Tryz.underlying0
 a0:=Tryz.isAgg0
 z0:=Tryz.sizeOf0
 v0:=Tryz.zeroValue0
 t3:=Tryz.underlying3
 a3:=Tryz.isAgg3
 z3:=Tryz.sizeOf3
 v3:=Tryz.zeroValue3
 t4:=Tryz.underlying4
 a4:=Tryz.isAgg4
 z4:=Tryz.sizeOf4
 v4:=Tryz.zeroValue4
 t9:=Tryz.underlying9
 a9:=Tryz.isAgg9
 z9:=Tryz.sizeOf9
 v9:=Tryz.zeroValue9
 t20:=Tryz.underlying20
 a20:=Tryz.isAgg20
 z20:=Tryz.sizeOf20
 v20:=Tryz.zeroValue20
 t22:=Tryz.underlying28
 a22:=Tryz.isAgg28
 z22:=Tryz.sizeOf28
 v22:=Tryz.zeroValue28 }
end Go.Proofs
end
section


end
section
namespace Go.Proofs.Wy
open Go Go.Dm Go.RowKit Go.Proofs Tryz
variable [DMode]
set_option maxRecDepth 100000
theorem Ib (b n:Nat) (w:World) (h0:w.cell? ⟨b,0,none⟩=some (.pointer none)) (hsh:w.shape? b=some (232,n)) (hn:0<n) (hl:liesAt prog Tryz.prog.depth 232 (n/Tryz.prog.cellsOf 232) 0 232 1=true) (hfz:w.frozen? ⟨b,0,none⟩=false) :
  Calls prog 215 #[.pointer (some ⟨b,0,none⟩)] w fun e w'=>e= .returned (.tuple #[])/\w'=w.setCell ⟨b,0,none⟩ (.pointer (some ⟨b,0,none⟩)):=by
 obtain⟨j,hj,nA⟩:∃j,Tryz.prog.info? 232=some j/\j.size=2:=bA0.1 (show (Tryz.prog.info? 232).map (·.size)=some 2 by kernel_rfl)
 go_enter func215,ntmps215
 go_wp2
 rw[Lib.run_to_unsafe w ⟨b,0,none⟩ underlying229 underlying264 hj (by rw[nA];decide) hsh hn];simp only[Result.andThen];rw[Oper.upon_value]
 go_wp2
 rw[run_callFunc_extern func228 (by kernel_rfl) (by kernel_rfl) (by kernel_rfl) (e:=Extern.AbiNoEscape.same) (by kernel_rfl)];rw[Lib.run_noEscape];simp only[Result.andThen];rw[Oper.upon_value]
 go_wp2
 rw[Lib.run_from_unsafe w ⟨b,0,none⟩ underlying264 underlying229 hj hsh hl];simp only[Result.andThen];rw[Oper.upon_value]
 go_wp2
 go_end0
 exact⟨rfl,rfl⟩
theorem Qq (b:Nat) (w:World) (h0:w.cell? ⟨b,0,none⟩=some (.pointer (some ⟨b,0,none⟩))) :
  Calls prog 215 #[.pointer (some ⟨b,0,none⟩)] w fun e w'=>e= .returned (.tuple #[])/\w'=w:=by
 obtain⟨j,hj,nA⟩:∃j,Tryz.prog.info? 232=some j/\j.size=2:=bA0.1 (show (Tryz.prog.info? 232).map (·.size)=some 2 by kernel_rfl)
 go_enter func215,ntmps215
 go_wp2
 rw[Lib.run_neq_ptr_same w _ underlying229 hj]
 go_wp2
 go_end0
 exact⟨rfl,rfl⟩
attribute [local irreducible] DW Bm Bq
theorem NT : Bh prog (.func 215) [.rx 0 0 2 0 0] [⟨0,0,.row 232 2 32 [[.nilp,.nilsl]]⟩] (.tup []) [⟨0,0,.row 232 2 32 [[.rx 0 0 2 0 0,.nilsl]]⟩] :=
 NR (by show ¬_;exact of_decide_eq_true (by kernel_rfl)) (by kernel_rfl) call215 32 Ib
theorem Qy (x:ByteArray):Bh prog (.func 215) [.rx 0 0 2 0 0] [⟨0,0,.row 232 2 32 [[.rx 0 0 2 0 0,.osl 1 0]]⟩,⟨1,0,.row 5 1 1 (AP x)⟩] (.tup [])
  [⟨0,0,.row 232 2 32 [[.rx 0 0 2 0 0,.osl 1 0]]⟩,⟨1,0,.row 5 1 1 (AP x)⟩] :=
 NQ call215 32 (.osl 1 0) _ (by simp) Qq
def LV : Ann:=⟨[7],[]⟩
theorem NC (x:ByteArray) (hx:x.size<=150000000000000) :
  Bh prog (.func 194) [.rx 0 0 2 0 0,.str x] [⟨0,0,.row 232 2 32 [[.nilp,.nilsl]]⟩] (.tup [.int .i64 x.size,.nilifc])
   [⟨0,0,.row 232 2 32 [[.rx 0 0 2 0 0,.osl 1 1]]⟩,⟨1,1,.row 5 1 1 (AP x)⟩]:=by
 refine BI [] [(0,0,0),(14,1,1)] LV func194 call194 ntmps194 mxd (Ar @LV.eq_1 results194) rfl (fun qJ B qX qQ=> ?_);simp only[Ak]
 (repeat (first | refine AI fun K hK=> ?_ | (refine BS LV mxd (by kernel_rfl) ?_;simp[LV,qX,hx];try simp (disch:=omega) only[Ai]) | refine Ao ?_ | (refine Bg ?_ ?_ ?_;(· (simp[qX,hx];done));(try (rotate_left;(· (intro hc;(try simp[qX,hx]at hc);done))))) | (refine AL ?_;simp[results194,qX,hx]) | ((first | refine Az ?_ | refine Ay ?_);simp[qX,hx]) | (intro hc;(try simp[qX,hx]at hc);(try (exfalso;omega))) | (refine AM [(0,0)] [] (NT) ?_ ?_;(· (simp[qX,hx];done));(intro _;try simp[qX,hx])) | (refine⟨?_,?_⟩; · omega) | omega | apply_assumption -exfalso -symm | (exfalso;omega)))
def HP : Ann:=⟨[7],[]⟩
theorem Cv (y x:ByteArray) (hx:y.size+x.size<=150000000000000) :
  Bh prog (.func 194) [.rx 0 0 2 0 0,.str x] [⟨0,0,.row 232 2 32 [[.rx 0 0 2 0 0,.osl 1 0]]⟩,⟨1,0,.row 5 1 1 (AP y)⟩] (.tup [.int .i64 x.size,.nilifc])
   [⟨0,0,.row 232 2 32 [[.rx 0 0 2 0 0,.osl 1 1]]⟩,⟨1,1,.row 5 1 1 (AP (y++x))⟩]:=by
 refine BI [] [(0,0,0),(1,1,1)] HP func194 call194 ntmps194 mxd (Ar @HP.eq_1 results194) rfl (fun qJ B qX qQ=> ?_);simp only[Ak];rw[ZU]
 (repeat (first | refine AI fun K hK=> ?_ | (refine BS HP mxd (by kernel_rfl) ?_;simp[HP,qX,hx,AS];try simp (disch:=omega) only[Ai]) | refine Ao ?_ | (refine Bg ?_ ?_ ?_;(· (simp[qX,hx,AS];done));(try (rotate_left;(· (intro hc;(try simp[qX,hx,AS]at hc);done))))) | (refine AL ?_;simp[results194,qX,hx,AS]) | ((first | refine Az ?_ | refine Ay ?_);simp[qX,hx,AS]) | (intro hc;(try simp[qX,hx,AS]at hc);(try (exfalso;omega))) | (refine AM [(0,0),(1,1)] [] (Qy y) ?_ ?_;(· (simp[qX,hx,AS];done));(intro _;try simp[qX,hx,AS])) | (refine⟨?_,?_⟩; · omega) | omega | apply_assumption -exfalso -symm | (exfalso;omega)))
theorem Xg : Builder.Extra prog Tryz.bldString_ren where
 sizeBuilder:=by kernel_rfl
 liesBuilder:=by kernel_rfl
 t5:=underlying5
 a5:=Tryz.isAgg5
 z5:=Tryz.sizeOf5
 v5:=Tryz.zeroValue5
 infoByte:=by kernel_rfl
 cellsByte:=by kernel_rfl
 sizeByte:=by kernel_rfl
 neB5:=by decide
theorem HS (x:ByteArray) (hx:x.size≠0):Bh prog (.func 195) [.rx 0 0 2 0 0] [⟨0,0,.row 232 2 32 [[.rx 0 0 2 0 0,.osl 1 0]]⟩,⟨1,0,.row 5 1 1 (AP x)⟩] (.str x) [] :=
 JN Tryz.bldString Xg call195 32 x hx
end Go.Proofs.Wy
end
section
namespace Go.Proofs.Wy
open Go Go.Dm Go.RowKit Go.Proofs Tryz
variable [DMode]
set_option maxRecDepth 1000000
def UO (w w':World) (b:Nat) (rest:List Value):Prop:=∃(g:Nat) (cs:Array Value),Upd [b] w w'/\w.heap.size<=g/\cs.size<=maxLen /\
 w'.heap[b]? =some (.cells (.pointer (some ⟨b,0,none⟩):: .slice (some ⟨g,0,none⟩) 0 cs.size::rest).toArray 232 (0,0))/\w'.heap[g]? =some (.cells cs 5 (0,0))
theorem grown_of {b:Nat} {w:World} {cs:Array Value} {rest:List Value} (gC:w.heap[b]? =some (.cells (.pointer (some ⟨b,0,none⟩):: .slice none 0 0::rest).toArray 232 (0,0))) (hm:cs.size<=maxLen) :
  UO w ((w.setCell ⟨b,1,none⟩ (.slice (some ⟨w.heap.size,0,none⟩) 0 cs.size)).alloc (.cells cs 5)).drew.drew.drew b rest:=by
 have qV:b<w.heap.size:=(aC0.1 gC).1;refine⟨w.heap.size,cs,⟨rfl,rfl,rfl,?_,?_,?_⟩,Nat.le_refl _,hm,?_,?_⟩
 ·simp[World.drew,World.alloc,World.setCell];omega
 ·simp[World.drew,World.alloc,World.setCell]
 ·intro q hq hn;simp only[aE0]at hn;simp only[World.drew,World.alloc,World.setCell];rw[bO0,if_neg (by simp;omega),cD0,if_neg (fun h=>hn h.symm)]
 ·simp only[World.drew,World.alloc,World.setCell];rw[bO0,if_neg (by simp;omega),cD0,if_pos rfl,gC];simp
 ·simp only[World.drew,World.alloc,World.setCell];rw[bO0,if_pos (by simp)]
theorem ZC (b n:Nat) (rest:List Value) (w:World) (gC:w.heap[b]? =some (.cells (.pointer (some ⟨b,0,none⟩):: .slice none 0 0::rest).toArray 232 (0,0))) (hn:n<=140737488355328) :
  Calls prog 233 #[.pointer (some ⟨b,0,none⟩),.int .i64 n] w fun e w'=>e= .returned (.tuple #[])/\UO w w' b rest:=by
 have mixed:=mxd;obtain⟨cs,qM,yL,bS⟩:=Lib.run_makeNoZero (P:=prog) w.drew #[3] 230 5 underlying230 n (by omega)
 have hw:IntKind.i64.wrap (IntKind.i64.wrap 0+(n:Int))=n:=by
  rw[Ai (n:=0) (by omega) (by omega),wq];omega
 have qV:b<w.heap.size:=(aC0.1 gC).1
 have jG:(callFunc 235 #[.int .i64 (IntKind.i64.wrap (IntKind.i64.wrap 0+(n:Int)))]).run prog w.drew= .ok (.value (.slice (some ⟨w.drew.heap.size,0,none⟩) n cs.size)) (w.drew.drew.drew.alloc (.cells cs 5)):=by
  rw[hw,run_callFunc_extern func235 (by kernel_rfl) (by kernel_rfl) (by kernel_rfl) (e:=Extern.BytealgMakeNoZero.makeNoZero #[3] #[230]) (by kernel_rfl),qM];rfl
 have c1:w.drew.cell? ⟨b,1,none⟩=some (.slice none 0 0):=by
  have h1:w.drew.heap[b]? =_:=gC;rw[Lib.cell_of_heap h1];rfl
 have h2:(w.alloc (.cells cs 5)).heap[b]? =some (.cells (.pointer (some ⟨b,0,none⟩):: .slice none 0 0::rest).toArray 232 (0,0)):=(Lib.alloc_old w _ b qV).trans gC;have c2:(w.alloc (.cells cs 5)).cell? ⟨b,1,none⟩=some (.slice none 0 0):=by rw[Lib.cell_of_heap h2];rfl
 have f2:(w.alloc (.cells cs 5)).frozen? ⟨b,1,none⟩=false:=Lib.frozen_of_heap h2 1
 have hcopy:∀W:World,(Builtin.copy_ #[230,230] 3 #[.slice (some ⟨w.heap.size,0,none⟩) 0 cs.size,.slice none 0 0]).run prog W= .ok (goInt 0) W :=
  fun W=>run_copy_none W 230 230 3 5 _ _ 0 cs.size 0 0 underlying230 (by kernel_rfl) rfl
 clear hw
 go_enter func233,ntmps233
 go_wp2
 go_region_o
 all_goals (go_wp2;go_end0;exact⟨rfl,grown_of gC (bS (by unfold maxLen;omega))⟩)
theorem aH (b n:Nat) (rest:List Value) (w:World) (gC:w.heap[b]? =some (.cells (.pointer none:: .slice none 0 0::rest).toArray 232 (0,0))) (gR:1<=n) (hn:n<=140737488355328) :
  Calls prog 225 #[.pointer (some ⟨b,0,none⟩),.int .i64 n] w fun e w'=>e= .returned (.tuple #[])/\UO w w' b rest:=by
 have mixed:=mxd;have qV:b<w.heap.size:=(aC0.1 gC).1
 have hbk1:(w.setCell ⟨b,0,none⟩ (.pointer (some ⟨b,0,none⟩))).heap[b]? =some (.cells (.pointer (some ⟨b,0,none⟩):: .slice none 0 0::rest).toArray 232 (0,0)):=by
  simp[World.setCell,cD0,gC]
 have c1:(w.setCell ⟨b,0,none⟩ (.pointer (some ⟨b,0,none⟩))).drew.cell? ⟨b,1,none⟩=some (.slice none 0 0):=by
  have h1:(w.setCell ⟨b,0,none⟩ (.pointer (some ⟨b,0,none⟩))).drew.heap[b]? =_:=hbk1;rw[Lib.cell_of_heap h1];rfl
 have hU:Upd [b] w (w.setCell ⟨b,0,none⟩ (.pointer (some ⟨b,0,none⟩))).drew:=⟨rfl,rfl,rfl,fun _=>Nat.le_succ _,by simp[World.setCell,World.drew],fun q hq qE=>by
  simp only[aE0]at qE;simp only[World.setCell,World.drew]
  rw[cD0,if_neg (fun h=>qE h.symm)]⟩
 have hsh:w.shape? b=some (232,rest.length+2):=by simp[World.shape?,gC]
 have cC:Tryz.prog.cellsOf 232=2:=by kernel_rfl
 have hli:=So (P:=prog) (T:=232) (n:=(rest.length+2)/Tryz.prog.cellsOf 232) (by show ¬_;exact of_decide_eq_true (by kernel_rfl)) (by rw[cC];decide) (by rw[cC];omega);have wI:=Ib b (rest.length+2) w (by rw[Lib.cell_of_heap gC];rfl) hsh (by omega) hli (Lib.frozen_of_heap gC 0);have hg:=ZC b n rest (w.setCell ⟨b,0,none⟩ (.pointer (some ⟨b,0,none⟩))).drew hbk1 hn
 go_enter func225,ntmps225
 go_wp2_with (refine wI.mono ?_;rintro e w' ⟨rfl,rfl⟩)
 go_region_o
 all_goals go_wp2_with (refine hg.mono ?_;rintro e w' ⟨rfl,h1⟩)
 all_goals (go_end0;obtain⟨g,cs,u,h2,h3,h4,h5⟩:=h1;exact⟨rfl,g,cs,hU.trans u (fun x hx=> .inl hx),by simpa[World.setCell,World.drew]using h2,h3,h4,h5⟩)
end Go.Proofs.Wy
end
section
namespace Go.Proofs.Wy
open Go Go.Dm Go.RowKit Go.Proofs Tryz
variable [DMode]
set_option maxRecDepth 100000
theorem IS (n:Nat) (gR:1<=n) (hn:n<=140737488355328):Bh prog (.func 225) [.rx 0 0 2 0 0,.int .i64 n] [⟨0,0,.row 232 2 32 [[.nilp,.nilsl]]⟩] (.tup [])
  [⟨0,0,.row 232 2 32 [[.rx 0 0 2 0 0,.osl 1 1]]⟩,⟨1,1,.row 5 1 1 []⟩]:=by
 refine⟨by simp,call225,fun M w loc vs S wF=> ?_⟩;have hk:=S.ok _ (aE0.2 rfl);obtain⟨vX,hk⟩:=hk
 rcases hk with ⟨h,_⟩ | ⟨b,arr,cap,h1,h2,h3,h4,h5,h6,h7⟩
 ·simp at h
 ·obtain⟨v0,v1,rest,rfl,g0,g1⟩:=Hm h7;simp only[rd]at g0 g1;subst g0;subst g1;have qL:Ad [(⟨0,0,.row 232 2 32 [[.nilp,.nilsl]]⟩:Ent)] loc 0 0=some (loc 0):=by simp[Ad,Aj]
  simp only[Au,rd]at wF;obtain⟨pv,r,wF,hp,v2,r2,rfl,⟨rfl,_⟩,rfl⟩:=wF;obtain⟨b',qG,rfl⟩:=hp _ qL;simp only at h1 h2;rw[h1]at qG;simp only[bG0,and_true]at qG;subst qG;have vB:vs= #[.pointer (some ⟨b,0,none⟩),.int .i64 n]:=by apply Array.ext';simpa using wF
  subst vB;refine⟨call225,(aH b n rest w h3 gR hn).mono ?_⟩;rintro e w' ⟨rfl,g,cs,hu,hg,hm,hb,hgc⟩;have hgl:g<w'.heap.size:=(aC0.1 hgc).1;have jK:b<w.heap.size:=(aC0.1 h3).1
  let L1:Dm.Loc:=⟨[g],.slice (some ⟨g,0,none⟩) 0 cs.size⟩
  let loc':Nat->Dm.Loc:=fun i=>if i=1 then L1 else loc i
  have e0:loc' 0=loc 0:=rfl;have e1:loc' 1=L1:=rfl
  let own':List Ent:=[⟨0,0,.row 232 2 32 [[.rx 0 0 2 0 0,.osl 1 1]]⟩,⟨1,1,.row 5 1 1 []⟩]
  have wQ:Aa own' loc'=[b,g]:=by simp[own',Aa,e0,e1,h1,L1]
  have kX:Aa [(⟨0,0,.row 232 2 32 [[.nilp,.nilsl]]⟩:Ent)] loc=[b]:=by simp[Aa,h1]
  have yN:Ad own' loc' 0 0=some (loc 0):=by simp[own',Ad,Aj,e0]
  have dE:Ad own' loc' 1 1=some L1:=by simp[own',Ad,Aj,e1]
  refine⟨_,rfl,loc',⟨by simp,?_,?_,?_,?_⟩,?_,?_,?_,by simp[rd,Au]⟩
  ·show (Aa own' loc').Nodup
   rw[wQ];simp;omega
  ·show ∀q∈Aa own' loc',q∉M
   rw[wQ];intro q hq
   rcases aJ0.1 hq with rfl | hq
   ·exact S.ap q (by rw[kX];simp)
   ·simp only[aE0]at hq;subst hq;intro hM;have:=S.lt q (aP0 _ hM);omega
  ·show ∀q∈Aa own' loc'++M,q<w'.heap.size
   rw[wQ];intro q hq
   rcases aI0.1 hq with hq | hq
   ·rcases aJ0.1 hq with rfl | hq
    ·exact cG0 jK hu.size
    ·simp only[aE0]at hq;subst hq;exact hgl
   ·exact cG0 (S.lt q (aP0 _ hq)) hu.size
  ·intro e he
   rcases aJ0.1 he with rfl | he
   ·refine⟨vX,.inr ⟨b,_,cap,h1,h2,hb,h4,h5,by simpa using h6,?_⟩⟩;refine Uw ?_ ?_ rfl rfl
    ·simp only[rd];intro l hl;have wY:Ad own' loc' 0 0=some l:=hl;rw[yN]at wY;simp only[aA0]at wY;subst wY;exact⟨b,h1,by simp⟩
    ·simp only[rd];intro l hl;have wY:Ad own' loc' 1 1=some l:=hl;rw[dE]at wY;simp only[aA0]at wY;subst wY;rfl
   ·simp only[aE0]at he;subst he;exact⟨by simp,.inr ⟨g,cs,cs.size,rfl,rfl,hgc,by simp,hm,by simp,by simp[Em]⟩⟩
  ·rw[kX];exact hu
  ·show ∀q∈Aa own' loc',_
   rw[wQ,kX];intro q hq
   rcases aJ0.1 hq with rfl | hq
   ·exact .inl (by simp)
   ·simp only[aE0]at hq;subst hq;exact .inr hg
  ·intro e he hr
   rcases aJ0.1 he with rfl | he
   ·rw[qL];rfl
   ·simp only[aE0]at he;subst he;simp at hr
end Go.Proofs.Wy
end
