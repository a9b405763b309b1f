/- Parts of a proof, laid together: Lays, LayTs, EnY, EnSt, WB0, WJ0. -/
import Derived.Shelf.SlSortCmp.NoneTotal
import Derived.Shelf.SlGeneric
import Derived.Ground.SlsfProg
import Derived.Shelf.SortM.Plain
import Derived.Shelf.SortM.SortNone
import Derived.Shelf.Sort.Plain
import Derived.Shelf.Small.Strs
import Derived.Shelf.Strings.BuilderF
import Derived.Shelf.SlIter.Nil
import Derived.Shelf.SlIter.Sorted
import Derived.Ground.SlgmProg
import Derived.Ground.GgzProg
import Derived.Shelf.Spec.SlicesGrow
import Derived.Ground.Names8Prog
import Derived.Test.YtiojapdolljocaaGreatChecked
import Derived.Lib.Builder
import Derived.WalkKit
import Derived.BigCall
import Derived.Test.YtiojapdolljocaaGreatqBw15
import Derived.Test.YtiojapdolljocaaGreatqBw19
set_option linter.unusedSimpArgs false
set_option maxHeartbeats 8000000
set_option linter.unusedVariables false
set_option linter.unusedSectionVars false
section

/-
  DERIVED: THE SHELF's CONTRACTS AT THIS DUMP, IN PLAIN WORDS (tools/lay-plain.mjs out of 'YtiojapdolljocaaGreatLay.lean', which tools/lay-shelf.mjs wrote): THE SAME DECLARATIONS UNDER THE SAME NAMES: 'import', 'namespace', 'open', 'def', 'theorem' AND NOTHING ELSE: no command of the shelf's: FOR A HAND-IN. Each laying: the table of numbers ('.._ren') and one theorem, a field a fact of the dump's own or the kernel's comparison; each contract: ONE APPLICATION.
-/
namespace Go.Proofs
open Go.Shelf
def Tryz.sortStr_ren : Go.Shelf.Ren:=⟨fun | 6=>154 | 8=>111 | 9=>198 | 19=>170 | 20=>171 | 21=>216 | 22=>217 | 23=>218 | 24=>219 | 25=>220 | 26=>221 | 27=>222 | 28=>223 | 29=>224 | 36=>229 | 31=>205 | 32=>206 | 37=>230 | 38=>231 | 39=>232 | 41=>234 | n=>n,fun | 27=>46 | 29=>9 | 3=>3 | 32=>173 | 26=>46 | 0=>0 | 44=>214 | 46=>96 | 4=>4 | 36=>207 | 35=>206 | 41=>211 | 5=>5 | 9=>9 | 53=>244 | 57=>248 | 63=>261 | 64=>224 | n=>n,fun | n=>n⟩
theorem Tryz.sortStr : Go.Proofs.SlLaysM.n6 Tryz.prog Tryz.sortStr_ren:={
 mixed:=by kernel_rfl
 f6:=⟨Tryz.f154.name,by decide,Tryz.func154.trans (congrArg some (by kernel_rfl))⟩
 f8:=Tryz.func111.trans (congrArg some (by kernel_rfl))
 f9:=⟨Tryz.f198.name,by decide,Tryz.func198.trans (congrArg some (by kernel_rfl))⟩
 f19:=Tryz.func170.trans (congrArg some (by kernel_rfl))
 f20:=Tryz.func171.trans (congrArg some (by kernel_rfl))
 f21:=⟨Tryz.f216.name,by decide,Tryz.func216.trans (congrArg some (by kernel_rfl))⟩
 f22:=⟨Tryz.f217.name,by decide,Tryz.func217.trans (congrArg some (by kernel_rfl))⟩
 f23:=⟨Tryz.f218.name,by decide,Tryz.func218.trans (congrArg some (by kernel_rfl))⟩
 f24:=⟨Tryz.f219.name,by decide,Tryz.func219.trans (congrArg some (by kernel_rfl))⟩
 f25:=⟨Tryz.f220.name,by decide,Tryz.func220.trans (congrArg some (by kernel_rfl))⟩
 f26:=⟨Tryz.f221.name,by decide,Tryz.func221.trans (congrArg some (by kernel_rfl))⟩
 f27:=⟨Tryz.f222.name,by decide,Tryz.func222.trans (congrArg some (by kernel_rfl))⟩
 f28:=⟨Tryz.f223.name,by decide,Tryz.func223.trans (congrArg some (by kernel_rfl))⟩
 f29:=⟨Tryz.f224.name,by decide,Tryz.func224.trans (congrArg some (by kernel_rfl))⟩
 f31:=Tryz.func205.trans (congrArg some (by kernel_rfl))
 f32:=Tryz.func206.trans (congrArg some (by kernel_rfl))
 f36:=⟨Tryz.f229.name,by decide,Tryz.func229.trans (congrArg some (by kernel_rfl))⟩
 f37:=⟨Tryz.f230.name,by decide,Tryz.func230.trans (congrArg some (by kernel_rfl))⟩
 f38:=⟨Tryz.f231.name,by decide,Tryz.func231.trans (congrArg some (by kernel_rfl))⟩
 f39:=⟨Tryz.f232.name,by decide,Tryz.func232.trans (congrArg some (by kernel_rfl))⟩
 f41:=⟨Tryz.f234.name,by decide,Tryz.func234.trans (congrArg some (by kernel_rfl))⟩
 t0:=Tryz.underlying0
 a0:=Tryz.isAgg0
 z0:=Tryz.sizeOf0
 v0:=Tryz.zeroValue0
 t3:=Tryz.underlying3
 a3:=Tryz.isAgg3
 z3:=Tryz.sizeOf3
 v3:=Tryz.zeroValue3
 t4:=Tryz.underlying4
 a4:=Tryz.isAgg4
 z4:=Tryz.sizeOf4
 v4:=Tryz.zeroValue4
 t5:=Tryz.underlying5
 a5:=Tryz.isAgg5
 z5:=Tryz.sizeOf5
 v5:=Tryz.zeroValue5
 t9:=Tryz.underlying9
 a9:=Tryz.isAgg9
 z9:=Tryz.sizeOf9
 v9:=Tryz.zeroValue9
 t26:=Tryz.underlying46
 a26:=Tryz.isAgg46
 z26:=Tryz.sizeOf46
 v26:=Tryz.zeroValue46
 t27:=Tryz.underlying46
 a27:=Tryz.isAgg46
 z27:=Tryz.sizeOf46
 v27:=Tryz.zeroValue46
 t29:=Tryz.underlying9
 a29:=Tryz.isAgg9
 z29:=Tryz.sizeOf9
 v29:=Tryz.zeroValue9
 t32:=Tryz.underlying173
 a32:=Tryz.isAgg173
 z32:=Tryz.sizeOf173
 v32:=Tryz.zeroValue173
 t35:=Tryz.underlying206
 a35:=Tryz.isAgg206
 z35:=Tryz.sizeOf206
 v35:=Tryz.zeroValue206
 t36:=Tryz.underlying207
 a36:=Tryz.isAgg207
 z36:=Tryz.sizeOf207
 v36:=Tryz.zeroValue207
 t41:=Tryz.underlying211
 a41:=Tryz.isAgg211
 z41:=Tryz.sizeOf211
 v41:=Tryz.zeroValue211
 t44:=Tryz.underlying214
 a44:=Tryz.isAgg214
 z44:=Tryz.sizeOf214
 v44:=Tryz.zeroValue214
 t46:=Tryz.underlying96
 a46:=Tryz.isAgg96
 z46:=Tryz.sizeOf96
 v46:=Tryz.zeroValue96
 t53:=Tryz.underlying244
 a53:=Tryz.isAgg244
 z53:=Tryz.sizeOf244
 v53:=Tryz.zeroValue244
 t57:=Tryz.underlying248
 a57:=Tryz.isAgg248
 z57:=Tryz.sizeOf248
 v57:=Tryz.zeroValue248
 t63:=Tryz.underlying261
 a63:=Tryz.isAgg261
 z63:=Tryz.sizeOf261
 v63:=Tryz.zeroValue261
 t64:=Tryz.underlying224
 a64:=Tryz.isAgg224
 z64:=Tryz.sizeOf224
 v64:=Tryz.zeroValue224 }
def Tryz.bldString_ren : Go.Shelf.Ren:=⟨fun | 169=>195 | n=>n,fun | 70=>229 | 9=>9 | 0=>0 | 72=>232 | 37=>230 | 127=>253 | 3=>3 | 5=>5 | n=>n,fun | n=>n⟩
theorem Tryz.bldString : Go.Proofs.Lays.n169 Tryz.prog Tryz.bldString_ren:={
 mixed:=by kernel_rfl
 f169:=Tryz.func195.trans (congrArg some (by kernel_rfl))
 t0:=Tryz.underlying0
 a0:=Tryz.isAgg0
 z0:=Tryz.sizeOf0
 v0:=Tryz.zeroValue0
 t3:=Tryz.underlying3
 a3:=Tryz.isAgg3
 z3:=Tryz.sizeOf3
 v3:=Tryz.zeroValue3
 t9:=Tryz.underlying9
 a9:=Tryz.isAgg9
 z9:=Tryz.sizeOf9
 v9:=Tryz.zeroValue9
 t37:=Tryz.underlying230
 a37:=Tryz.isAgg230
 z37:=Tryz.sizeOf230
 v37:=Tryz.zeroValue230
 t70:=Tryz.underlying229
 a70:=Tryz.isAgg229
 z70:=Tryz.sizeOf229
 v70:=Tryz.zeroValue229
 t72:=Tryz.underlying232
 a72:=Tryz.isAgg232
 z72:=Tryz.sizeOf232
 v72:=Tryz.zeroValue232
 t127:=Tryz.underlying253
 a127:=Tryz.isAgg253
 z127:=Tryz.sizeOf253
 v127:=Tryz.zeroValue253 }
def Tryz.sortFArc_ren : Go.Shelf.Ren:=⟨fun | 6=>62 | 15=>111 | 14=>110 | 28=>170 | 29=>171 | 20=>162 | 21=>163 | 22=>164 | 23=>165 | 24=>166 | 25=>167 | 26=>168 | 27=>169 | 46=>204 | 47=>205 | 48=>206 | 49=>207 | 50=>208 | 57=>226 | n=>n,fun | 22=>29 | 24=>39 | 25=>124 | 3=>3 | 39=>173 | 0=>0 | 53=>214 | 55=>96 | 4=>4 | 46=>207 | 45=>206 | 50=>211 | 5=>5 | 9=>9 | 66=>244 | 70=>248 | 76=>261 | 77=>224 | n=>n,fun | n=>n⟩
theorem Tryz.sortFArc : Go.Proofs.SlLaysF0.n6 Tryz.prog Tryz.sortFArc_ren:={
 mixed:=by kernel_rfl
 f6:=⟨Tryz.f62.name,by decide,Tryz.func62.trans (congrArg some (by kernel_rfl))⟩
 f14:=⟨Tryz.f110.name,by decide,Tryz.func110.trans (congrArg some (by kernel_rfl))⟩
 f15:=Tryz.func111.trans (congrArg some (by kernel_rfl))
 f20:=⟨Tryz.f162.name,by decide,Tryz.func162.trans (congrArg some (by kernel_rfl))⟩
 f21:=⟨Tryz.f163.name,by decide,Tryz.func163.trans (congrArg some (by kernel_rfl))⟩
 f22:=⟨Tryz.f164.name,by decide,Tryz.func164.trans (congrArg some (by kernel_rfl))⟩
 f23:=⟨Tryz.f165.name,by decide,Tryz.func165.trans (congrArg some (by kernel_rfl))⟩
 f24:=⟨Tryz.f166.name,by decide,Tryz.func166.trans (congrArg some (by kernel_rfl))⟩
 f25:=⟨Tryz.f167.name,by decide,Tryz.func167.trans (congrArg some (by kernel_rfl))⟩
 f26:=⟨Tryz.f168.name,by decide,Tryz.func168.trans (congrArg some (by kernel_rfl))⟩
 f27:=⟨Tryz.f169.name,by decide,Tryz.func169.trans (congrArg some (by kernel_rfl))⟩
 f28:=Tryz.func170.trans (congrArg some (by kernel_rfl))
 f29:=Tryz.func171.trans (congrArg some (by kernel_rfl))
 f46:=⟨Tryz.f204.name,by decide,Tryz.func204.trans (congrArg some (by kernel_rfl))⟩
 f47:=Tryz.func205.trans (congrArg some (by kernel_rfl))
 f48:=Tryz.func206.trans (congrArg some (by kernel_rfl))
 f49:=⟨Tryz.f207.name,by decide,Tryz.func207.trans (congrArg some (by kernel_rfl))⟩
 f50:=⟨Tryz.f208.name,by decide,Tryz.func208.trans (congrArg some (by kernel_rfl))⟩
 f57:=⟨Tryz.f226.name,by decide,Tryz.func226.trans (congrArg some (by kernel_rfl))⟩
 t0:=Tryz.underlying0
 a0:=Tryz.isAgg0
 z0:=Tryz.sizeOf0
 v0:=Tryz.zeroValue0
 t3:=Tryz.underlying3
 a3:=Tryz.isAgg3
 z3:=Tryz.sizeOf3
 v3:=Tryz.zeroValue3
 t4:=Tryz.underlying4
 a4:=Tryz.isAgg4
 z4:=Tryz.sizeOf4
 v4:=Tryz.zeroValue4
 t5:=Tryz.underlying5
 a5:=Tryz.isAgg5
 z5:=Tryz.sizeOf5
 v5:=Tryz.zeroValue5
 t9:=Tryz.underlying9
 a9:=Tryz.isAgg9
 z9:=Tryz.sizeOf9
 v9:=Tryz.zeroValue9
 t22:=Tryz.underlying29
 a22:=Tryz.isAgg29
 z22:=Tryz.sizeOf29
 v22:=Tryz.zeroValue29
 t25:=Tryz.underlying124
 a25:=Tryz.isAgg124
 z25:=Tryz.sizeOf124
 v25:=Tryz.zeroValue124
 t39:=Tryz.underlying173
 a39:=Tryz.isAgg173
 z39:=Tryz.sizeOf173
 v39:=Tryz.zeroValue173
 t45:=Tryz.underlying206
 a45:=Tryz.isAgg206
 z45:=Tryz.sizeOf206
 v45:=Tryz.zeroValue206
 t46:=Tryz.underlying207
 a46:=Tryz.isAgg207
 z46:=Tryz.sizeOf207
 v46:=Tryz.zeroValue207
 t50:=Tryz.underlying211
 a50:=Tryz.isAgg211
 z50:=Tryz.sizeOf211
 v50:=Tryz.zeroValue211
 t53:=Tryz.underlying214
 a53:=Tryz.isAgg214
 z53:=Tryz.sizeOf214
 v53:=Tryz.zeroValue214
 t55:=Tryz.underlying96
 a55:=Tryz.isAgg96
 z55:=Tryz.sizeOf96
 v55:=Tryz.zeroValue96
 t66:=Tryz.underlying244
 a66:=Tryz.isAgg244
 z66:=Tryz.sizeOf244
 v66:=Tryz.zeroValue244
 t70:=Tryz.underlying248
 a70:=Tryz.isAgg248
 z70:=Tryz.sizeOf248
 v70:=Tryz.zeroValue248
 t76:=Tryz.underlying261
 a76:=Tryz.isAgg261
 z76:=Tryz.sizeOf261
 v76:=Tryz.zeroValue261
 t77:=Tryz.underlying224
 a77:=Tryz.isAgg224
 z77:=Tryz.sizeOf224
 v77:=Tryz.zeroValue224 }
def Tryz.sortInt_ren : Go.Shelf.Ren:=⟨fun | 189=>64 | 125=>111 | 257=>115 | 128=>170 | 129=>171 | 294=>173 | 295=>174 | 296=>175 | 297=>176 | 298=>177 | 299=>178 | 216=>179 | 300=>180 | 301=>181 | 328=>209 | 329=>205 | 330=>206 | 331=>210 | 332=>211 | 215=>172 | 343=>227 | n=>n,fun | 28=>28 | 3=>3 | 46=>173 | 0=>0 | 51=>214 | 53=>96 | 4=>4 | 183=>207 | 182=>206 | 131=>211 | 5=>5 | 9=>9 | 218=>244 | 222=>248 | 228=>261 | 229=>224 | n=>n,fun | n=>n⟩
theorem Tryz.sortInt : Go.Proofs.Lays.n189 Tryz.prog Tryz.sortInt_ren:={
 mixed:=by kernel_rfl
 f125:=Tryz.func111.trans (congrArg some (by kernel_rfl))
 f128:=Tryz.func170.trans (congrArg some (by kernel_rfl))
 f129:=Tryz.func171.trans (congrArg some (by kernel_rfl))
 f189:=Tryz.func64.trans (congrArg some (by kernel_rfl))
 f215:=Tryz.func172.trans (congrArg some (by kernel_rfl))
 f216:=Tryz.func179.trans (congrArg some (by kernel_rfl))
 f257:=Tryz.func115.trans (congrArg some (by kernel_rfl))
 f294:=Tryz.func173.trans (congrArg some (by kernel_rfl))
 f295:=Tryz.func174.trans (congrArg some (by kernel_rfl))
 f296:=Tryz.func175.trans (congrArg some (by kernel_rfl))
 f297:=Tryz.func176.trans (congrArg some (by kernel_rfl))
 f298:=Tryz.func177.trans (congrArg some (by kernel_rfl))
 f299:=Tryz.func178.trans (congrArg some (by kernel_rfl))
 f300:=Tryz.func180.trans (congrArg some (by kernel_rfl))
 f301:=Tryz.func181.trans (congrArg some (by kernel_rfl))
 f328:=Tryz.func209.trans (congrArg some (by kernel_rfl))
 f329:=Tryz.func205.trans (congrArg some (by kernel_rfl))
 f330:=Tryz.func206.trans (congrArg some (by kernel_rfl))
 f331:=Tryz.func210.trans (congrArg some (by kernel_rfl))
 f332:=Tryz.func211.trans (congrArg some (by kernel_rfl))
 f343:=Tryz.func227.trans (congrArg some (by kernel_rfl))
 t0:=Tryz.underlying0
 a0:=Tryz.isAgg0
 z0:=Tryz.sizeOf0
 v0:=Tryz.zeroValue0
 t3:=Tryz.underlying3
 a3:=Tryz.isAgg3
 z3:=Tryz.sizeOf3
 v3:=Tryz.zeroValue3
 t4:=Tryz.underlying4
 a4:=Tryz.isAgg4
 z4:=Tryz.sizeOf4
 v4:=Tryz.zeroValue4
 t5:=Tryz.underlying5
 a5:=Tryz.isAgg5
 z5:=Tryz.sizeOf5
 v5:=Tryz.zeroValue5
 t9:=Tryz.underlying9
 a9:=Tryz.isAgg9
 z9:=Tryz.sizeOf9
 v9:=Tryz.zeroValue9
 t28:=Tryz.underlying28
 a28:=Tryz.isAgg28
 z28:=Tryz.sizeOf28
 v28:=Tryz.zeroValue28
 t46:=Tryz.underlying173
 a46:=Tryz.isAgg173
 z46:=Tryz.sizeOf173
 v46:=Tryz.zeroValue173
 t51:=Tryz.underlying214
 a51:=Tryz.isAgg214
 z51:=Tryz.sizeOf214
 v51:=Tryz.zeroValue214
 t53:=Tryz.underlying96
 a53:=Tryz.isAgg96
 z53:=Tryz.sizeOf96
 v53:=Tryz.zeroValue96
 t131:=Tryz.underlying211
 a131:=Tryz.isAgg211
 z131:=Tryz.sizeOf211
 v131:=Tryz.zeroValue211
 t182:=Tryz.underlying206
 a182:=Tryz.isAgg206
 z182:=Tryz.sizeOf206
 v182:=Tryz.zeroValue206
 t183:=Tryz.underlying207
 a183:=Tryz.isAgg207
 z183:=Tryz.sizeOf207
 v183:=Tryz.zeroValue207
 t218:=Tryz.underlying244
 a218:=Tryz.isAgg244
 z218:=Tryz.sizeOf244
 v218:=Tryz.zeroValue244
 t222:=Tryz.underlying248
 a222:=Tryz.isAgg248
 z222:=Tryz.sizeOf248
 v222:=Tryz.zeroValue248
 t228:=Tryz.underlying261
 a228:=Tryz.isAgg261
 z228:=Tryz.sizeOf261
 v228:=Tryz.zeroValue261
 t229:=Tryz.underlying224
 a229:=Tryz.isAgg224
 z229:=Tryz.sizeOf224
 v229:=Tryz.zeroValue224 }
def Tryz.keysM_ren : Go.Shelf.Ren:=⟨fun | 7=>100 | 10=>155 | n=>n,fun | 23=>161 | 26=>9 | 3=>3 | 28=>159 | 0=>0 | 27=>158 | 33=>194 | 4=>4 | n=>n,fun | n=>n⟩
theorem Tryz.keysM : Go.Proofs.SlLaysZ.n7 Tryz.prog Tryz.keysM_ren:={
 mixed:=by kernel_rfl
 f7:=⟨Tryz.f100.name,by decide,Tryz.func100.trans (congrArg some (by kernel_rfl))⟩
 f10:=⟨Tryz.f155.name,by decide,Tryz.func155.trans (congrArg some (by kernel_rfl))⟩
 t0:=Tryz.underlying0
 a0:=Tryz.isAgg0
 z0:=Tryz.sizeOf0
 v0:=Tryz.zeroValue0
 t4:=Tryz.underlying4
 a4:=Tryz.isAgg4
 z4:=Tryz.sizeOf4
 v4:=Tryz.zeroValue4
 t23:=Tryz.underlying161
 a23:=Tryz.isAgg161
 z23:=Tryz.sizeOf161
 v23:=Tryz.zeroValue161
 t26:=Tryz.underlying9
 a26:=Tryz.isAgg9
 z26:=Tryz.sizeOf9
 v26:=Tryz.zeroValue9
 t27:=Tryz.underlying158
 a27:=Tryz.isAgg158
 z27:=Tryz.sizeOf158
 v27:=Tryz.zeroValue158
 t28:=Tryz.underlying159
 a28:=Tryz.isAgg159
 z28:=Tryz.sizeOf159
 v28:=Tryz.zeroValue159
 t33:=Tryz.underlying194
 a33:=Tryz.isAgg194
 z33:=Tryz.sizeOf194
 v33:=Tryz.zeroValue194 }
def Tryz.sortedM_ren : Go.Shelf.Ren:=⟨fun | 6=>99 | 8=>153 | 9=>154 | 11=>197 | 13=>111 | 12=>198 | 23=>170 | 24=>171 | 14=>216 | 15=>217 | 16=>218 | 17=>219 | 18=>220 | 19=>221 | 20=>222 | 21=>223 | 22=>224 | 25=>229 | 26=>205 | 27=>206 | 28=>230 | 29=>231 | 30=>232 | 31=>234 | n=>n,fun | 26=>9 | 28=>159 | 24=>46 | 0=>0 | 3=>3 | 37=>173 | 48=>214 | 50=>96 | 4=>4 | 40=>207 | 39=>206 | 45=>211 | 5=>5 | 9=>9 | 51=>244 | 55=>248 | 57=>261 | 58=>224 | 33=>194 | n=>n,fun | n=>n⟩
theorem Tryz.sortedM : Go.Proofs.SlLaysZ.n6 Tryz.prog Tryz.sortedM_ren:={
 mixed:=by kernel_rfl
 f6:=⟨Tryz.f99.name,by decide,Tryz.func99.trans (congrArg some (by kernel_rfl))⟩
 f8:=⟨Tryz.f153.name,by decide,Tryz.func153.trans (congrArg some (by kernel_rfl))⟩
 f11:=⟨Tryz.f197.name,by decide,Tryz.func197.trans (congrArg some (by kernel_rfl))⟩
 t0:=Tryz.underlying0
 a0:=Tryz.isAgg0
 z0:=Tryz.sizeOf0
 v0:=Tryz.zeroValue0
 t24:=Tryz.underlying46
 a24:=Tryz.isAgg46
 z24:=Tryz.sizeOf46
 v24:=Tryz.zeroValue46
 t26:=Tryz.underlying9
 a26:=Tryz.isAgg9
 z26:=Tryz.sizeOf9
 v26:=Tryz.zeroValue9
 t28:=Tryz.underlying159
 a28:=Tryz.isAgg159
 z28:=Tryz.sizeOf159
 v28:=Tryz.zeroValue159
 i26:=by kernel_rfl }
def Tryz.growI_ren : Go.Shelf.Ren:=⟨fun | 4=>161 | n=>n,fun | 22=>28 | 25=>3 | 3=>3 | 4=>4 | 9=>9 | 20=>20 | 0=>0 | n=>n,fun | n=>n⟩
theorem Tryz.growI : Go.Proofs.Lays8.n4 Tryz.prog Tryz.growI_ren:={
 mixed:=by kernel_rfl
 f4:=⟨Tryz.f161.name,by decide,Tryz.func161.trans (congrArg some (by kernel_rfl))⟩
 t0:=Tryz.underlying0
 a0:=Tryz.isAgg0
 z0:=Tryz.sizeOf0
 v0:=Tryz.zeroValue0
 t3:=Tryz.underlying3
 a3:=Tryz.isAgg3
 z3:=Tryz.sizeOf3
 v3:=Tryz.zeroValue3
 t4:=Tryz.underlying4
 a4:=Tryz.isAgg4
 z4:=Tryz.sizeOf4
 v4:=Tryz.zeroValue4
 t9:=Tryz.underlying9
 a9:=Tryz.isAgg9
 z9:=Tryz.sizeOf9
 v9:=Tryz.zeroValue9
 t20:=Tryz.underlying20
 a20:=Tryz.isAgg20
 z20:=Tryz.sizeOf20
 v20:=Tryz.zeroValue20
 t22:=Tryz.underlying28
 a22:=Tryz.isAgg28
 z22:=Tryz.sizeOf28
 v22:=Tryz.zeroValue28 }
end Go.Proofs
end
section


end
section
namespace Go.Dm
variable [DMode]
open Go.Shelf Go.Sort Go.Proofs
theorem xI {w w':World} (h: @Upd Lp [] w w'):∃q os,w'=grow (w.drewN q) os:=by
 refine⟨w'.drawn-w.drawn,w'.heap.extract w.heap.size w'.heap.size,?_⟩;obtain⟨heap,tape,drawn,os,output⟩:=w';obtain⟨h1,h2,h3,h4,h5,h6⟩:=h;simp only at h1 h2 h3 h4 h5 h6 |-
 replace h4:=h4 rfl
 subst h1;subst h2;subst h3
 have e1:w.heap++heap.extract w.heap.size heap.size=heap:=by
  apply Array.ext_getElem?
  intro i
  by_cases hi:i<w.heap.size
  ·rw[dL0 hi,<-h6 i hi (by simp)]
  ·rw[Array.getElem?_append_right (by omega),Array.getElem?_extract]
   by_cases hi2:i<heap.size
   ·rw[if_pos (by omega)]
    congr 1
    omega
   ·rw[if_neg (by omega),Array.getElem?_eq_none (by omega)]
 have e2:w.drawn+(drawn-w.drawn)=drawn:=by omega
 simp[grow,World.drewN,e1,e2]
section
variable {P : Program} {ρ : Ren} {g : FuncId} {et k cap b : Nat} {cs : List DVal} {cs' : Array Value} {cf : List DVal -> List DVal -> Int} {es es' : List (List DVal)} {cu0 : EF} {M1 : List Nat} {w : World} {arr : Array Value}
theorem HF {α:Type} [Inhabited α] (enc:α->List Value) (p3:w.heap[b]? =some (.cells arr et (0,0))) (m:Nat) (os:Array Obj) (dk:Array α) :
  (sortWorldK enc k w b 0 m dk os).heap[b]? =some (.cells (putCells id 0 (flatK enc k dk) arr) et (0,0))/\(∀q,q<w.heap.size->q≠b->(sortWorldK enc k w b 0 m dk os).heap[q]? =w.heap[q]?)/\w.heap.size<=(sortWorldK enc k w b 0 m dk os).heap.size /\
   (sortWorldK enc k w b 0 m dk os).os=w.os/\(sortWorldK enc k w b 0 m dk os).tape=w.tape/\(sortWorldK enc k w b 0 m dk os).output=w.output/\w.drawn<=(sortWorldK enc k w b 0 m dk os).drawn:=by
 have hblk:b<w.heap.size:=(aD0.1 p3).1;refine⟨?_,fun q hq hqb=> ?_,?_,rfl,rfl,rfl,Nat.le_add_right _ _⟩
 ·simp only[sortWorldK,grow,putRowK,putRow,mapBlock,ahead];rw[dL0 (by simpa using hblk),cC0];simp[p3,onCells]
 ·simp only[sortWorldK,grow,putRowK,putRow,mapBlock,ahead];rw[dL0 (by simpa using hq),cC0];rw[if_neg (fun h=>hqb h.symm)];rfl
 ·simp[sortWorldK,grow,putRowK,putRow,mapBlock,ahead]
theorem Wj {α:Type} [Inhabited α] {enc:α->List Value} (qY:∀x,(enc x).length=k) {dk:Array α} {i p:Nat} (hi:i<dk.size) (hp:p<k) (qD:dk.size*k<=arr.size) :
  (putCells id 0 (flatK enc k dk) arr)[i*k+p]? =(enc dk[i]!)[p]? :=by
 have wW:=Dp (k:=k) hi;have qV:i*k+p<arr.size:=by omega
 have hdiv:(i*k+p)/k=i:=by
  rw[Nat.mul_comm,Nat.mul_add_div (by omega),Nat.div_eq_of_lt hp];omega
 have hmod:(i*k+p)%k=p:=by rw[Nat.mul_comm,Nat.mul_add_mod];exact Nat.mod_eq_of_lt hp
 have bQ:i*k+p<dk.size*k:=by omega
 have jP:p<(enc dk[i]!).length:=by rw[qY];exact hp
 simp only[putCells,bN0,Array.getElem?_mapIdx,bX0 qV,dB0,cW0,true_and,size_flatK,bQ,if_true,Nat.sub_zero,id];rw[get_flatK _ _ _ _ bQ,hdiv,hmod,getElem!_pos (enc dk[i]!) p jP,aB0 jP]
theorem rJ {α:Type} [Inhabited α] (L:SlLaysF0.n6 P ρ) (dt:α->List DVal) (enc:α->List Value) (d:Array α) (dM:tAgg P (ρ.t 24)=some true) (mB:tCells P (ρ.t 24)=some k) (kN:AJ cs=0) (wH:∀x∈es,AJ x=0)
  (kZ:∀x,dt x∈es) (hdk:∀x,(dt x).length=k) (vW:∀x,Aw cu0 M1 w.heap (dt x) (enc x)) (qI:∀x,∀u∈enc x,u.oneCell'=true) (gK:d.size=es.length)
  (hd:∀i (hi:i<es.length),dt d[i]! =es[i]/\∀(q:Nat) (v:Value),(enc d[i]!)[q]? =some v->arr[i*k+q]? =some v)
  (p3:w.heap[b]? =some (.cells arr et (0,0))) (yW:es.length*k<=arr.size) (hbM:b∈M1) (gT:∀q∈M1,q<w.heap.size) (mD:Aw cu0 M1 w.heap cs cs'.toList) (qV:es.length<4611686018427387904)
  (hg:Enters P g) (hcmp:∀x∈es,∀y∈es,@Ag Lp P g (.agg x:: .agg y::cs) (.int .i64 (cf x y)))
  (hirr:∀x∈es,¬cf x x<0) (htr:∀x∈es,∀y∈es,∀z∈es,cf x y<0->cf y z<0->cf x z<0) (qX:∀x∈es,∀y∈es,∀z∈es,¬cf x y<0->¬cf y z<0->¬cf x z<0)
  (fH:∀l:List (List DVal),l.Perm es->l.Pairwise (fun x y=>¬cf y x<0)->l=es') :
  Calls P (ρ.f 6) #[.slice (some ⟨b,0,none⟩) es.length cap,.func (.func g) #[] cs'] w fun e w'=>e= .returned (.tuple #[])/\es'.length=es.length/\Upd [b] w w' /\
   ∃arr',w'.heap[b]? =some (.cells arr' et (0,0))/\arr'.size=arr.size/\∀cur M2,(∀q∈M2,q∈M1)->Ec cur M2 w'.heap k es' arr' 0:=by
 have qY:∀x:α,(enc x).length=k:=fun x=>by
  have:=Aq _ _ (vW x);have:=hdk x;omega
 have hO:SWO (ltOf fun x y:α=>cf (dt x) (dt y)):=by
  refine⟨fun x=> ?_,fun x y z h1 h2=> ?_,fun x y z h1 h2=> ?_⟩
  ·simp only[ltOf,decide_eq_false_iff_not];exact hirr _ (kZ x)
  ·simp only[ltOf,decide_eq_true_eq]at *;exact htr _ (kZ x) _ (kZ y) _ (kZ z) h1 h2
  ·simp only[ltOf,decide_eq_false_iff_not]at *;exact qX _ (kZ x) _ (kZ y) _ (kZ z) h1 h2
 have hH:HoldsK enc k w b 0 d:=by
  intro j hj;rw[size_flatK,gK]at hj
  have zA:0<k:=by
   rcases Nat.eq_zero_or_pos k with h | h
   ·subst h;simp at hj
   ·exact h
  have hi:j/k<es.length:=by rw[Nat.div_lt_iff_lt_mul zA];exact hj
  have hq:j%k<k:=Nat.mod_lt _ zA;rw[get_flatK _ _ _ _ (by rw[gK];exact hj)];have vH:j%k<(enc d[j/k]!).length:=by rw[qY];exact hq
  have vZ:=(hd _ hi).2 (j%k) _ (aB0 vH);rw[Nat.mul_comm,Nat.div_add_mod]at vZ;rw[getElem!_pos (enc d[j/k]!) _ vH];exact⟨by simp only[World.cell?,p3,bN0,id];exact vZ,by simp[World.frozen?,p3]⟩
 have hblk:b<w.heap.size:=(aD0.1 p3).1
 have Wk:∀m os (dk:Array α) (cur:EF) (M2:List Nat),(∀q∈M2,q∈M1)->Weak cu0 cur M1 M2 w.heap (sortWorldK enc k w b 0 m dk os).heap 0:=by
  intro m os dk cur M2 hM2;have hW:=HF (et:=et) (arr:=arr) (k:=k) enc p3 m os dk;exact⟨fun _ _ _ h=>by omega,fun q o hq (_:Gh o=true) ho=>by rw[hW.2.1 q (aD0.1 ho).1 (fun h=>hq (h▸hbM))];exact ho,fun q o hq (_:Gh o=true) _ hm=>hq (hM2 q hm)⟩
 have hC:CmpLays P g cs' enc k (fun x y:α=>cf (dt x) (dt y)) b 0 d.size w:=by
  intro m os dk _ x y;have hD:=hcmp _ (kZ x) _ (kZ y);have hW:=HF (et:=et) (arr:=arr) (k:=k) enc p3 m os dk;have hx:=AL (Wk m os dk (fun _ _=>none) M1 (fun _ h=>h)) _ _ (cU0 (wH _ (kZ x))) (vW x);have hy:=AL (Wk m os dk (fun _ _=>none) M1 (fun _ h=>h)) _ _ (cU0 (wH _ (kZ y))) (vW y);have hc:=AL (Wk m os dk (fun _ _=>none) M1 (fun _ h=>h)) _ _ (cU0 kN) mD;obtain⟨X,hX⟩:∃X,X=(enc x).toArray:=⟨_,rfl⟩;obtain⟨Y,hY⟩:∃Y,Y=(enc y).toArray:=⟨_,rfl⟩
  simp only[<-hX,<-hY]
  generalize sortWorldK enc k w b 0 m dk os=V at hW hx hy hc |-
  have key:=hD.2.2 (fun _ _=>none) M1 V (#[.agg X,.agg Y]++cs') (fun q hq=>cD0 (gT q hq) hW.2.2.1);refine(key ?_).mono ?_
  ·have e1:(#[Value.agg X,Value.agg Y]++cs').toList=Value.agg X::Value.agg Y::cs'.toList:=by simp
   rw[e1];simp only[Aw];refine⟨_,_,rfl,?_,_,_,rfl,?_,hc⟩
   ·simp only[rd];exact⟨_,rfl,by rw[hX];exact hx⟩
   ·simp only[rd];exact⟨_,rfl,by rw[hY];exact hy⟩
  ·rintro e w' ⟨v,rfl,hu,hv⟩;simp only[rd]at hv;exact⟨by rw[hv.1],xI hu⟩
 have qM:=AnyQ.slices_SortFunc L k (JE dM) (BE mB) enc qY qI (fun x y:α=>cf (dt x) (dt y)) hO g cs' b 0 cap d w hg hC hH hblk (by omega);rw[gK]at qM;refine qM.mono ?_;rintro e w' ⟨rfl,d',n,os,hP,hS,rfl⟩;obtain⟨fJ,_,kJ⟩:=hP;rw[gK]at fJ;have e1:d'.extract 0 es.length=d':=by rw[<-fJ];exact Array.extract_size
 have e2:d.extract 0 es.length=d:=by rw[<-gK];exact Array.extract_size
 rw[e1,e2]at kJ
 have hdes:d.toList.map dt=es:=by
  apply eD0
  ·simp[gK]
  ·intro i h1 h2;have:=(hd i h2).1;rw[getElem!_pos d i (by omega)]at this;simpa using this
 have nD:d'.toList.map dt=es':=by
  refine fH _ ?_ ?_
  ·have:=kJ.map dt
   rwa[hdes]at this
  ·rw[dI0,List.pairwise_iff_getElem];intro i j hi hj zO;have zS:i<d'.size:=by simpa using hi
   have fG:j<d'.size:=by simpa using hj
   have:=hS i j (cW0 _) zO (by omega);rw[getElem!_pos d' j fG,getElem!_pos d' i zS]at this;simpa[ltOf]using this
 have wN:es'.length=es.length:=by rw[<-nD];simp[fJ]
 obtain⟨q1,q2,q3,q4,q5,q6,q7⟩:=HF (et:=et) (arr:=arr) (k:=k) enc p3 n os d';refine⟨rfl,wN,⟨q4,q5,q6,fun _=>q7,q3,fun q hq hn=>q2 q hq (fun h=>hn (by simp[h]))⟩,_,q1,by simp[putCells],fun cur M2 hM2=> ?_⟩;refine FN _ _ _ _ fun i cs0 hi=> ?_
 have fM:i<es'.length:=(aF0.1 hi).1;have hid:i<d'.size:=by omega
 have hcs0:cs0=dt d'[i]! :=by
  rw[<-nD,bH0]at hi;rw[getElem!_pos d' i hid];simp[hid]at hi;exact hi.symm
 subst hcs0;refine⟨hdk _,?_⟩;have hv:=AL (Wk n os d' cur M2 hM2) _ _ (cU0 (wH _ (kZ _))) (vW d'[i]!);have h0:=GD _ _ [] [] hv (qI _);refine CP _ _ _ _ _ (fun p hp=> ?_) h0;have zD:p<k:=by rw[hdk]at hp;exact hp
 rw[bN0,Wj qY hid zD (by rw[fJ];exact yW)];simp
end
theorem rI {P:Program} {ρ:Ren} (L:SlLaysF0.n6 P ρ) {f g:FuncId} {et k bs:Nat} {cs:List DVal} {cf:List DVal->List DVal->Int} {es es':List (List DVal)} (hf:ρ.f 6=f) (vK:Enters P f) (dM:tAgg P (ρ.t 24)=some true) (mB:tCells P (ρ.t 24)=some k)
  (hbs0:0<bs) (kN:AJ cs=0) (wH:∀x∈es,AJ x=0) (hg:Enters P g) (hcmp:∀x∈es,∀y∈es,@Ag Lp P g (.agg x:: .agg y::cs) (.int .i64 (cf x y)))
  (hirr:∀x∈es,¬cf x x<0) (htr:∀x∈es,∀y∈es,∀z∈es,cf x y<0->cf y z<0->cf x z<0) (qX:∀x∈es,∀y∈es,∀z∈es,¬cf x y<0->¬cf y z<0->¬cf x z<0)
  (fH:∀l:List (List DVal),l.Perm es->l.Pairwise (fun x y=>¬cf y x<0)->l=es') :
  Bl P (.func f) [.osl 0 0,.fn (.func g) [] cs] [⟨0,0,.row et k bs es⟩] (.tup []) [⟨0,0,.row et k bs es'⟩]:=by
 refine⟨by simp,vK,fun M w loc vs S hr=> ?_⟩;refine⟨vK,?_⟩;simp only[Aw]at hr;obtain⟨v0,r0,wI,h0,v1,r1,rfl,h1,rfl⟩:=hr;simp only[rd]at h0 h1;obtain⟨us',cs',rfl,vO,mD⟩:=h1;simp only[Aw]at vO;have hus':us'= #[]:=by cases us';simpa using vO
 subst hus';have gV:Ab [(⟨0,0,.row et k bs es⟩:Ent)] loc 0 0=some (loc 0):=rfl;have yJ:=h0 _ gV;have vE:vs= #[v0,.func (.func g) #[] cs']:=by cases vs;simpa using wI
 subst vE;subst hf;have qF:Aa [(⟨0,0,.row et k bs es⟩:Ent)] loc=(loc 0).blks:=by simp[Aa]
 have gQ:Aa [(⟨0,0,.row et k bs es'⟩:Ent)] loc=(loc 0).blks:=by simp[Aa]
 have jZ:∀cur M h,rd cur M h (.tup []) (.tuple #[]):=fun _ _ _=>by simp only[rd];exact⟨#[],rfl,by simp[Aw]⟩
 have hk:=S.ok ⟨0,0,.row et k bs es⟩ (by simp)
 by_cases qB:es=[]
 ·subst qB;have hes':es'=[]:=(fH [] (List.Perm.refl _) List.Pairwise.nil).symm;subst hes'
  obtain⟨a,cap,hh⟩:∃a cap,(loc 0).hdr= .slice a 0 cap:=by
   obtain⟨_,⟨_,_,h2⟩ | ⟨b,arr,cap,_,h2,_⟩⟩:=hk
   ·exact⟨_,_,h2⟩
   ·exact⟨_,_,h2⟩
  rw[hh]at yJ;subst yJ;refine(AnyF.slices_SortFunc_none { L with } a cap (.func (.func g) #[] cs') w).mono ?_;rintro e w' ⟨rfl,rfl⟩;exact⟨_,rfl,loc,S,Upd.refl _ _,fun b hb=> .inl hb,fun e he _=>AG S.nd he,jZ _ _ _⟩
 ·obtain⟨b,arr,cap,p1,p2,p3,p4,p5,p6,p7⟩:∃b arr cap,(loc 0).blks=[b]/\(loc 0).hdr= .slice (some ⟨b,0,none⟩) es.length cap/\w.heap[b]? =some (.cells arr et (0,0))/\es.length<=cap/\cap<=maxLen/\cap*k=arr.size/\Ec (Ab [(⟨0,0,.row et k bs es⟩:Ent)] loc) (Aa [(⟨0,0,.row et k bs es⟩:Ent)] loc++M) w.heap k es arr 0:=by
   obtain⟨_,⟨h,_⟩ | h⟩:=hk
   ·exact absurd h qB
   ·exact h
  have wT:=hk.1;rw[p2]at yJ;subst yJ;obtain⟨cu0,hcu0⟩:∃c,c=Ab [(⟨0,0,.row et k bs es⟩:Ent)] loc:=⟨_,rfl⟩;obtain⟨M1,hM1⟩:∃m,m=Aa [(⟨0,0,.row et k bs es⟩:Ent)] loc++M:=⟨_,rfl⟩;rw[<-hcu0,<-hM1]at p7 mD;have hbM:b∈M1:=by rw[hM1,qF,p1];simp
  have gT:∀q∈M1,q<w.heap.size:=by rw[hM1];exact S.lt
  have yW:es.length*k<=arr.size:=by rw[<-p6];exact aZ0 _ p4
  have yO:0<es.length:=List.length_pos_iff.2 qB
  have hel:∀i:Fin es.length,∃us:List Value,Aw cu0 M1 w.heap es[i.1] us/\(∀u∈us,u.oneCell'=true)/\∀(q:Nat) (v:Value),us[q]? =some v->arr[i.1*k+q]? =some v:=by
   intro i;obtain⟨q1,q2⟩:=El k es arr 0 i.1 es[i.1] p7 (aB0 i.2);obtain⟨us,g1,g2,g3⟩:=GX _ _ _ q2;refine⟨us,g2,fun u hu=> ?_,fun q v hq=> ?_⟩
   ·obtain⟨j,hj,rfl⟩:=bU0 hu;exact(g3 j _ (aB0 hj)).2
   ·have:=(g3 q v hq).1;simpa using this
  haveI:Inhabited (Fin es.length):=⟨⟨0,yO⟩⟩
  have qV:es.length<4611686018427387904:=by
   have h1:es.length*1<=es.length*bs:=Nat.mul_le_mul_left _ hbs0;have h2:es.length*bs<=150000000000000:=wT;omega
  have hd:∀i (hi:i<es.length),(Array.ofFn (fun i:Fin es.length=>i))[i]! =⟨i,hi⟩:=by
   intro i hi;rw[getElem!_pos _ i (by simpa using hi)];simp
  refine(rJ (et:=et) (α:=Fin es.length) L (fun i=>es[i.1]) (fun i=>(hel i).choose) (Array.ofFn fun i=>i) dM mB kN wH (fun i=>cY0 _) (fun i=>(El k es arr 0 i.1 es[i.1] p7 (aB0 i.2)).1) (fun i=>(hel i).choose_spec.1) (fun i=>(hel i).choose_spec.2.1) (by simp)
   (fun i hi=>by rw[hd i hi];exact⟨rfl,(hel ⟨i,hi⟩).choose_spec.2.2⟩) p3 yW hbM gT mD qV hg hcmp hirr htr qX fH).mono ?_
  rintro e w' ⟨rfl,wN,hu,arr',r1,r2,r3⟩;have hM2:Aa [(⟨0,0,.row et k bs es'⟩:Ent)] loc++M=M1:=by rw[hM1,qF,gQ]
  refine⟨_,rfl,loc,⟨by simp,by rw[gQ,p1];simp,fun q hq=>S.ap q (by rw[qF];rwa[gQ]at hq),fun q hq=> ?_,?_⟩,by rw[qF,p1];exact hu,fun q hq=> .inl (by rw[qF];rwa[gQ]at hq),?_,jZ _ _ _⟩
  ·rw[hM2]at hq;exact cD0 (gT q hq) hu.size
  ·intro e he;simp only[aG0]at he;subst he;rw[hM2];exact⟨by rw[wN];exact wT,.inr ⟨b,arr',cap,p1,by rw[wN];exact p2,r1,by omega,p5,by omega,r3 _ _ fun _ h=>h⟩⟩
  ·intro e he _;simp only[aG0]at he;subst he;exact gV
end Go.Dm
end
section
namespace Go.Dm
variable [DMode]
open Go.Shelf Go.Sort Go.Proofs Go.RowKit
def Gp (l:List ByteArray):List ByteArray:=((l.map fun s=>s.data.toList).mergeSort fun x y=>decide (x<=y)).map fun x=>⟨x.toArray⟩
theorem rG (l:List ByteArray):(Gp l).length=l.length:=by simp[Gp]
theorem rP {α:Type} [Inhabited α] (enc:α->Value) {w:World} {b et:Nat} {arr:Array Value} (p3:w.heap[b]? =some (.cells arr et (0,0))) (m:Nat) (os:Array Obj) (dk:Array α) :
  (grow (putRow enc (Sort.ahead w m) b 0 dk) os).heap[b]? =some (.cells (putCells enc 0 dk arr) et (0,0))/\(∀q,q<w.heap.size->q≠b->(grow (putRow enc (Sort.ahead w m) b 0 dk) os).heap[q]? =w.heap[q]?)/\w.heap.size<=(grow (putRow enc (Sort.ahead w m) b 0 dk) os).heap.size /\
   (grow (putRow enc (Sort.ahead w m) b 0 dk) os).os=w.os/\(grow (putRow enc (Sort.ahead w m) b 0 dk) os).tape=w.tape/\(grow (putRow enc (Sort.ahead w m) b 0 dk) os).output=w.output/\w.drawn<=(grow (putRow enc (Sort.ahead w m) b 0 dk) os).drawn:=by
 have hblk:b<w.heap.size:=(aD0.1 p3).1;refine⟨?_,fun q hq hqb=> ?_,?_,rfl,rfl,rfl,Nat.le_add_right _ _⟩
 ·simp only[grow,putRow,mapBlock,Sort.ahead];rw[dL0 (by simpa using hblk),cC0];simp[p3,onCells]
 ·simp only[grow,putRow,mapBlock,Sort.ahead];rw[dL0 (by simpa using hq),cC0];rw[if_neg (fun h=>hqb h.symm)]
 ·simp[grow,putRow,mapBlock,Sort.ahead]
end Go.Dm
end
section
namespace Go.Proofs.Wy
open Go Go.Dm Go.RowKit Go.Proofs Tryz
variable [DMode]
set_option maxRecDepth 100000
theorem Ip (b n:Nat) (w:World) (h0:w.cell? ⟨b,0,none⟩=some (.pointer none)) (hsh:w.shape? b=some (232,n)) (hn:0<n) (hl:liesAt prog Tryz.prog.depth 232 (n/Tryz.prog.cellsOf 232) 0 232 1=true) (hfz:w.frozen? ⟨b,0,none⟩=false) :
  Calls prog 215 #[.pointer (some ⟨b,0,none⟩)] w fun e w'=>e= .returned (.tuple #[])/\w'=w.setCell ⟨b,0,none⟩ (.pointer (some ⟨b,0,none⟩)):=by
 obtain⟨j,hj,nL⟩:∃j,Tryz.prog.info? 232=some j/\j.size=2:=aY0.1 (show (Tryz.prog.info? 232).map (·.size)=some 2 by kernel_rfl)
 go_enter func215,ntmps215
 go_wp2
 rw[Lib.run_to_unsafe w ⟨b,0,none⟩ underlying229 underlying264 hj (by rw[nL];decide) hsh hn];simp only[Result.andThen];rw[Oper.upon_value]
 go_wp2
 rw[run_callFunc_extern func228 (by kernel_rfl) (by kernel_rfl) (by kernel_rfl) (e:=Extern.AbiNoEscape.same) (by kernel_rfl)];rw[Lib.run_noEscape];simp only[Result.andThen];rw[Oper.upon_value]
 go_wp2
 rw[Lib.run_from_unsafe w ⟨b,0,none⟩ underlying264 underlying229 hj hsh hl];simp only[Result.andThen];rw[Oper.upon_value]
 go_wp2
 go_end0
 exact⟨rfl,rfl⟩
theorem QP (b:Nat) (w:World) (h0:w.cell? ⟨b,0,none⟩=some (.pointer (some ⟨b,0,none⟩))) :
  Calls prog 215 #[.pointer (some ⟨b,0,none⟩)] w fun e w'=>e= .returned (.tuple #[])/\w'=w:=by
 obtain⟨j,hj,nL⟩:∃j,Tryz.prog.info? 232=some j/\j.size=2:=aY0.1 (show (Tryz.prog.info? 232).map (·.size)=some 2 by kernel_rfl)
 go_enter func215,ntmps215
 go_wp2
 rw[Lib.run_neq_ptr_same w _ underlying229 hj]
 go_wp2
 go_end0
 exact⟨rfl,rfl⟩
attribute [local irreducible] DW Bh Bk
theorem Ox : Bl prog (.func 215) [.rx 0 0 2 0 0] [⟨0,0,.row 232 2 32 [[.nilp,.nilsl]]⟩] (.tup []) [⟨0,0,.row 232 2 32 [[.rx 0 0 2 0 0,.nilsl]]⟩] :=
 Ov (by show ¬_;exact of_decide_eq_true (by kernel_rfl)) (by kernel_rfl) call215 32 Ip
theorem QX (x:ByteArray):Bl prog (.func 215) [.rx 0 0 2 0 0] [⟨0,0,.row 232 2 32 [[.rx 0 0 2 0 0,.osl 1 0]]⟩,⟨1,0,.row 5 1 1 (AP x)⟩] (.tup [])
  [⟨0,0,.row 232 2 32 [[.rx 0 0 2 0 0,.osl 1 0]]⟩,⟨1,0,.row 5 1 1 (AP x)⟩] :=
 Ou call215 32 (.osl 1 0) _ (by simp) QP
def Mp : Ann:=⟨[7],[]⟩
theorem Ob (x:ByteArray) (hx:x.size<=150000000000000) :
  Bl prog (.func 194) [.rx 0 0 2 0 0,.str x] [⟨0,0,.row 232 2 32 [[.nilp,.nilsl]]⟩] (.tup [.int .i64 x.size,.nilifc])
   [⟨0,0,.row 232 2 32 [[.rx 0 0 2 0 0,.osl 1 1]]⟩,⟨1,1,.row 5 1 1 (AP x)⟩]:=by
 refine BU [] [(0,0,0),(14,1,1)] Mp func194 call194 ntmps194 mxd (Az @Mp.eq_1 results194) rfl (fun qJ B qX qQ=> ?_);simp only[Ap]
 (repeat (first | refine AC fun K hK=> ?_ | (refine BL Mp mxd (by kernel_rfl) ?_;simp[Mp,qX,hx];try simp (disch:=omega) only[Ai]) | refine Am ?_ | (refine AX ?_ ?_ ?_;(· (simp[qX,hx];done));(try (rotate_left;(· (intro hc;(try simp[qX,hx]at hc);done))))) | (refine AI ?_;simp[results194,qX,hx]) | ((first | refine Av ?_ | refine Au ?_);simp[qX,hx]) | (intro hc;(try simp[qX,hx]at hc);(try (exfalso;omega))) | (refine AV [(0,0)] [] (Ox) ?_ ?_;(· (simp[qX,hx];done));(intro _;try simp[qX,hx])) | (refine⟨?_,?_⟩; · omega) | omega | apply_assumption -exfalso -symm | (exfalso;omega)))
def Ib : Ann:=⟨[7],[]⟩
theorem Cw (y x:ByteArray) (hx:y.size+x.size<=150000000000000) :
  Bl prog (.func 194) [.rx 0 0 2 0 0,.str x] [⟨0,0,.row 232 2 32 [[.rx 0 0 2 0 0,.osl 1 0]]⟩,⟨1,0,.row 5 1 1 (AP y)⟩] (.tup [.int .i64 x.size,.nilifc])
   [⟨0,0,.row 232 2 32 [[.rx 0 0 2 0 0,.osl 1 1]]⟩,⟨1,1,.row 5 1 1 (AP (y++x))⟩]:=by
 refine BU [] [(0,0,0),(1,1,1)] Ib func194 call194 ntmps194 mxd (Az @Ib.eq_1 results194) rfl (fun qJ B qX qQ=> ?_);simp only[Ap];rw[eD]
 (repeat (first | refine AC fun K hK=> ?_ | (refine BL Ib mxd (by kernel_rfl) ?_;simp[Ib,qX,hx,AS];try simp (disch:=omega) only[Ai]) | refine Am ?_ | (refine AX ?_ ?_ ?_;(· (simp[qX,hx,AS];done));(try (rotate_left;(· (intro hc;(try simp[qX,hx,AS]at hc);done))))) | (refine AI ?_;simp[results194,qX,hx,AS]) | ((first | refine Av ?_ | refine Au ?_);simp[qX,hx,AS]) | (intro hc;(try simp[qX,hx,AS]at hc);(try (exfalso;omega))) | (refine AV [(0,0),(1,1)] [] (QX y) ?_ ?_;(· (simp[qX,hx,AS];done));(intro _;try simp[qX,hx,AS])) | (refine⟨?_,?_⟩; · omega) | omega | apply_assumption -exfalso -symm | (exfalso;omega)))
theorem XP : Builder.Extra prog Tryz.bldString_ren where
 sizeBuilder:=by kernel_rfl
 liesBuilder:=by kernel_rfl
 t5:=underlying5
 a5:=Tryz.isAgg5
 z5:=Tryz.sizeOf5
 v5:=Tryz.zeroValue5
 infoByte:=by kernel_rfl
 cellsByte:=by kernel_rfl
 sizeByte:=by kernel_rfl
 neB5:=by decide
theorem Ih (x:ByteArray) (hx:x.size≠0):Bl prog (.func 195) [.rx 0 0 2 0 0] [⟨0,0,.row 232 2 32 [[.rx 0 0 2 0 0,.osl 1 0]]⟩,⟨1,0,.row 5 1 1 (AP x)⟩] (.str x) [] :=
 Kh Tryz.bldString XP call195 32 x hx
end Go.Proofs.Wy
end
section
namespace Go.Proofs.Wy
open Go Go.Dm Go.RowKit Go.Proofs Tryz
variable [DMode]
set_option maxRecDepth 1000000
def Vs (w w':World) (b:Nat) (rest:List Value):Prop:=∃(g:Nat) (cs:Array Value),Upd [b] w w'/\w.heap.size<=g/\cs.size<=maxLen /\
 w'.heap[b]? =some (.cells (.pointer (some ⟨b,0,none⟩):: .slice (some ⟨g,0,none⟩) 0 cs.size::rest).toArray 232 (0,0))/\w'.heap[g]? =some (.cells cs 5 (0,0))
theorem grown_of {b:Nat} {w:World} {cs:Array Value} {rest:List Value} (gR:w.heap[b]? =some (.cells (.pointer (some ⟨b,0,none⟩):: .slice none 0 0::rest).toArray 232 (0,0))) (hm:cs.size<=maxLen) :
  Vs w ((w.setCell ⟨b,1,none⟩ (.slice (some ⟨w.heap.size,0,none⟩) 0 cs.size)).alloc (.cells cs 5)).drew.drew.drew b rest:=by
 have qV:b<w.heap.size:=(aD0.1 gR).1;refine⟨w.heap.size,cs,⟨rfl,rfl,rfl,?_,?_,?_⟩,Nat.le_refl _,hm,?_,?_⟩
 ·simp[World.drew,World.alloc,World.setCell];omega
 ·simp[World.drew,World.alloc,World.setCell]
 ·intro q hq hn;simp only[aG0]at hn;simp only[World.drew,World.alloc,World.setCell];rw[bP0,if_neg (by simp;omega),cC0,if_neg (fun h=>hn h.symm)]
 ·simp only[World.drew,World.alloc,World.setCell];rw[bP0,if_neg (by simp;omega),cC0,if_pos rfl,gR];simp
 ·simp only[World.drew,World.alloc,World.setCell];rw[bP0,if_pos (by simp)]
theorem aL (b n:Nat) (rest:List Value) (w:World) (gR:w.heap[b]? =some (.cells (.pointer (some ⟨b,0,none⟩):: .slice none 0 0::rest).toArray 232 (0,0))) (hn:n<=140737488355328) :
  Calls prog 233 #[.pointer (some ⟨b,0,none⟩),.int .i64 n] w fun e w'=>e= .returned (.tuple #[])/\Vs w w' b rest:=by
 have mixed:=mxd;obtain⟨cs,qM,zU,cX⟩:=Lib.run_makeNoZero (P:=prog) w.drew #[3] 230 5 underlying230 n (by omega)
 have hw:IntKind.i64.wrap (IntKind.i64.wrap 0+(n:Int))=n:=by
  rw[Ai (n:=0) (by omega) (by omega),wq];omega
 have qV:b<w.heap.size:=(aD0.1 gR).1
 have jB:(callFunc 235 #[.int .i64 (IntKind.i64.wrap (IntKind.i64.wrap 0+(n:Int)))]).run prog w.drew= .ok (.value (.slice (some ⟨w.drew.heap.size,0,none⟩) n cs.size)) (w.drew.drew.drew.alloc (.cells cs 5)):=by
  rw[hw,run_callFunc_extern func235 (by kernel_rfl) (by kernel_rfl) (by kernel_rfl) (e:=Extern.BytealgMakeNoZero.makeNoZero #[3] #[230]) (by kernel_rfl),qM];rfl
 have c1:w.drew.cell? ⟨b,1,none⟩=some (.slice none 0 0):=by
  have h1:w.drew.heap[b]? =_:=gR;rw[Lib.cell_of_heap h1];rfl
 have h2:(w.alloc (.cells cs 5)).heap[b]? =some (.cells (.pointer (some ⟨b,0,none⟩):: .slice none 0 0::rest).toArray 232 (0,0)):=(Lib.alloc_old w _ b qV).trans gR;have c2:(w.alloc (.cells cs 5)).cell? ⟨b,1,none⟩=some (.slice none 0 0):=by rw[Lib.cell_of_heap h2];rfl
 have f2:(w.alloc (.cells cs 5)).frozen? ⟨b,1,none⟩=false:=Lib.frozen_of_heap h2 1
 have hcopy:∀W:World,(Builtin.copy_ #[230,230] 3 #[.slice (some ⟨w.heap.size,0,none⟩) 0 cs.size,.slice none 0 0]).run prog W= .ok (goInt 0) W :=
  fun W=>run_copy_none W 230 230 3 5 _ _ 0 cs.size 0 0 underlying230 (by kernel_rfl) rfl
 clear hw
 go_enter func233,ntmps233
 go_wp2
 go_region_o
 all_goals (go_wp2;go_end0;exact⟨rfl,grown_of gR (cX (by unfold maxLen;omega))⟩)
end Go.Proofs.Wy
end
