/- Parts of a proof, laid together: Lays, LayTs, EnY, EnSt, WB0, WJ0. -/
import Derived.Shelf.SlSortCmp.NoneTotal
import Derived.Shelf.SlGeneric
import Derived.Ground.SlsfProg
import Derived.Shelf.SortM.Plain
import Derived.Shelf.SortM.SortNone
import Derived.Shelf.Sort.Plain
import Derived.Shelf.Small.Strs
import Derived.Shelf.Strings.BuilderF
import Derived.Shelf.SlIter.Nil
import Derived.Shelf.SlIter.Sorted
import Derived.Ground.SlgmProg
import Derived.Ground.GgzProg
import Derived.Shelf.Spec.SlicesGrow
import Derived.Ground.Names8Prog
import Derived.Test.YtbpmiknobocjoaaGreatChecked
import Derived.Lib.Builder
import Derived.WalkKit
import Derived.BigCall
import Derived.Test.YtbpmiknobocjoaaGreatqAp17
import Derived.Test.YtbpmiknobocjoaaGreatqAp25
set_option linter.unusedSimpArgs false
set_option maxHeartbeats 8000000
set_option linter.unusedVariables false
set_option linter.unusedSectionVars false
section

/-
  DERIVED: THE SHELF's CONTRACTS AT THIS DUMP, IN PLAIN WORDS (tools/lay-plain.mjs out of 'YtbpmiknobocjoaaGreatLay.lean', which tools/lay-shelf.mjs wrote): THE SAME DECLARATIONS UNDER THE SAME NAMES: 'import', 'namespace', 'open', 'def', 'theorem' AND NOTHING ELSE: no command of the shelf's: FOR A HAND-IN. Each laying: the table of numbers ('.._ren') and one theorem, a field a fact of the dump's own or the kernel's comparison; each contract: ONE APPLICATION.
-/
namespace Go.Proofs
open Go.Shelf
def Tryz.sortStr_ren : Go.Shelf.Ren:=⟨fun | 6=>117 | 8=>81 | 9=>156 | 19=>133 | 20=>134 | 21=>174 | 22=>175 | 23=>176 | 24=>177 | 25=>178 | 26=>179 | 27=>180 | 28=>181 | 29=>182 | 36=>187 | 31=>164 | 32=>165 | 37=>188 | 38=>189 | 39=>190 | 41=>192 | n=>n,fun | 27=>63 | 29=>9 | 3=>3 | 32=>137 | 26=>63 | 0=>0 | 44=>173 | 46=>175 | 4=>4 | 36=>166 | 35=>165 | 41=>170 | 5=>5 | 9=>9 | 53=>205 | 57=>209 | 63=>222 | 64=>183 | n=>n,fun | n=>n⟩
theorem Tryz.sortStr : Go.Proofs.SlLaysM.n6 Tryz.prog Tryz.sortStr_ren:={
 mixed:=by kernel_rfl
 f6:=⟨Tryz.f117.name,by decide,Tryz.func117.trans (congrArg some (by kernel_rfl))⟩
 f8:=Tryz.func81.trans (congrArg some (by kernel_rfl))
 f9:=⟨Tryz.f156.name,by decide,Tryz.func156.trans (congrArg some (by kernel_rfl))⟩
 f19:=Tryz.func133.trans (congrArg some (by kernel_rfl))
 f20:=Tryz.func134.trans (congrArg some (by kernel_rfl))
 f21:=⟨Tryz.f174.name,by decide,Tryz.func174.trans (congrArg some (by kernel_rfl))⟩
 f22:=⟨Tryz.f175.name,by decide,Tryz.func175.trans (congrArg some (by kernel_rfl))⟩
 f23:=⟨Tryz.f176.name,by decide,Tryz.func176.trans (congrArg some (by kernel_rfl))⟩
 f24:=⟨Tryz.f177.name,by decide,Tryz.func177.trans (congrArg some (by kernel_rfl))⟩
 f25:=⟨Tryz.f178.name,by decide,Tryz.func178.trans (congrArg some (by kernel_rfl))⟩
 f26:=⟨Tryz.f179.name,by decide,Tryz.func179.trans (congrArg some (by kernel_rfl))⟩
 f27:=⟨Tryz.f180.name,by decide,Tryz.func180.trans (congrArg some (by kernel_rfl))⟩
 f28:=⟨Tryz.f181.name,by decide,Tryz.func181.trans (congrArg some (by kernel_rfl))⟩
 f29:=⟨Tryz.f182.name,by decide,Tryz.func182.trans (congrArg some (by kernel_rfl))⟩
 f31:=Tryz.func164.trans (congrArg some (by kernel_rfl))
 f32:=Tryz.func165.trans (congrArg some (by kernel_rfl))
 f36:=⟨Tryz.f187.name,by decide,Tryz.func187.trans (congrArg some (by kernel_rfl))⟩
 f37:=⟨Tryz.f188.name,by decide,Tryz.func188.trans (congrArg some (by kernel_rfl))⟩
 f38:=⟨Tryz.f189.name,by decide,Tryz.func189.trans (congrArg some (by kernel_rfl))⟩
 f39:=⟨Tryz.f190.name,by decide,Tryz.func190.trans (congrArg some (by kernel_rfl))⟩
 f41:=⟨Tryz.f192.name,by decide,Tryz.func192.trans (congrArg some (by kernel_rfl))⟩
 t0:=Tryz.underlying0
 a0:=Tryz.isAgg0
 z0:=Tryz.sizeOf0
 v0:=Tryz.zeroValue0
 t3:=Tryz.underlying3
 a3:=Tryz.isAgg3
 z3:=Tryz.sizeOf3
 v3:=Tryz.zeroValue3
 t4:=Tryz.underlying4
 a4:=Tryz.isAgg4
 z4:=Tryz.sizeOf4
 v4:=Tryz.zeroValue4
 t5:=Tryz.underlying5
 a5:=Tryz.isAgg5
 z5:=Tryz.sizeOf5
 v5:=Tryz.zeroValue5
 t9:=Tryz.underlying9
 a9:=Tryz.isAgg9
 z9:=Tryz.sizeOf9
 v9:=Tryz.zeroValue9
 t26:=Tryz.underlying63
 a26:=Tryz.isAgg63
 z26:=Tryz.sizeOf63
 v26:=Tryz.zeroValue63
 t27:=Tryz.underlying63
 a27:=Tryz.isAgg63
 z27:=Tryz.sizeOf63
 v27:=Tryz.zeroValue63
 t29:=Tryz.underlying9
 a29:=Tryz.isAgg9
 z29:=Tryz.sizeOf9
 v29:=Tryz.zeroValue9
 t32:=Tryz.underlying137
 a32:=Tryz.isAgg137
 z32:=Tryz.sizeOf137
 v32:=Tryz.zeroValue137
 t35:=Tryz.underlying165
 a35:=Tryz.isAgg165
 z35:=Tryz.sizeOf165
 v35:=Tryz.zeroValue165
 t36:=Tryz.underlying166
 a36:=Tryz.isAgg166
 z36:=Tryz.sizeOf166
 v36:=Tryz.zeroValue166
 t41:=Tryz.underlying170
 a41:=Tryz.isAgg170
 z41:=Tryz.sizeOf170
 v41:=Tryz.zeroValue170
 t44:=Tryz.underlying173
 a44:=Tryz.isAgg173
 z44:=Tryz.sizeOf173
 v44:=Tryz.zeroValue173
 t46:=Tryz.underlying175
 a46:=Tryz.isAgg175
 z46:=Tryz.sizeOf175
 v46:=Tryz.zeroValue175
 t53:=Tryz.underlying205
 a53:=Tryz.isAgg205
 z53:=Tryz.sizeOf205
 v53:=Tryz.zeroValue205
 t57:=Tryz.underlying209
 a57:=Tryz.isAgg209
 z57:=Tryz.sizeOf209
 v57:=Tryz.zeroValue209
 t63:=Tryz.underlying222
 a63:=Tryz.isAgg222
 z63:=Tryz.sizeOf222
 v63:=Tryz.zeroValue222
 t64:=Tryz.underlying183
 a64:=Tryz.isAgg183
 z64:=Tryz.sizeOf183
 v64:=Tryz.zeroValue183 }
def Tryz.bldString_ren : Go.Shelf.Ren:=⟨fun | 169=>153 | n=>n,fun | 70=>188 | 9=>9 | 0=>0 | 72=>191 | 37=>189 | 127=>214 | 3=>3 | 5=>5 | n=>n,fun | n=>n⟩
theorem Tryz.bldString : Go.Proofs.Lays.n169 Tryz.prog Tryz.bldString_ren:={
 mixed:=by kernel_rfl
 f169:=Tryz.func153.trans (congrArg some (by kernel_rfl))
 t0:=Tryz.underlying0
 a0:=Tryz.isAgg0
 z0:=Tryz.sizeOf0
 v0:=Tryz.zeroValue0
 t3:=Tryz.underlying3
 a3:=Tryz.isAgg3
 z3:=Tryz.sizeOf3
 v3:=Tryz.zeroValue3
 t9:=Tryz.underlying9
 a9:=Tryz.isAgg9
 z9:=Tryz.sizeOf9
 v9:=Tryz.zeroValue9
 t37:=Tryz.underlying189
 a37:=Tryz.isAgg189
 z37:=Tryz.sizeOf189
 v37:=Tryz.zeroValue189
 t70:=Tryz.underlying188
 a70:=Tryz.isAgg188
 z70:=Tryz.sizeOf188
 v70:=Tryz.zeroValue188
 t72:=Tryz.underlying191
 a72:=Tryz.isAgg191
 z72:=Tryz.sizeOf191
 v72:=Tryz.zeroValue191
 t127:=Tryz.underlying214
 a127:=Tryz.isAgg214
 z127:=Tryz.sizeOf214
 v127:=Tryz.zeroValue214 }
def Tryz.sortFArc_ren : Go.Shelf.Ren:=⟨fun | 6=>51 | 15=>81 | 14=>80 | 28=>133 | 29=>134 | 20=>125 | 21=>126 | 22=>127 | 23=>128 | 24=>129 | 25=>130 | 26=>131 | 27=>132 | 46=>163 | 47=>164 | 48=>165 | 49=>166 | 50=>167 | 57=>184 | n=>n,fun | 22=>37 | 24=>42 | 25=>107 | 3=>3 | 39=>137 | 0=>0 | 53=>173 | 55=>175 | 4=>4 | 46=>166 | 45=>165 | 50=>170 | 5=>5 | 9=>9 | 66=>205 | 70=>209 | 76=>222 | 77=>183 | n=>n,fun | n=>n⟩
theorem Tryz.sortFArc : Go.Proofs.SlLaysF0.n6 Tryz.prog Tryz.sortFArc_ren:={
 mixed:=by kernel_rfl
 f6:=⟨Tryz.f51.name,by decide,Tryz.func51.trans (congrArg some (by kernel_rfl))⟩
 f14:=⟨Tryz.f80.name,by decide,Tryz.func80.trans (congrArg some (by kernel_rfl))⟩
 f15:=Tryz.func81.trans (congrArg some (by kernel_rfl))
 f20:=⟨Tryz.f125.name,by decide,Tryz.func125.trans (congrArg some (by kernel_rfl))⟩
 f21:=⟨Tryz.f126.name,by decide,Tryz.func126.trans (congrArg some (by kernel_rfl))⟩
 f22:=⟨Tryz.f127.name,by decide,Tryz.func127.trans (congrArg some (by kernel_rfl))⟩
 f23:=⟨Tryz.f128.name,by decide,Tryz.func128.trans (congrArg some (by kernel_rfl))⟩
 f24:=⟨Tryz.f129.name,by decide,Tryz.func129.trans (congrArg some (by kernel_rfl))⟩
 f25:=⟨Tryz.f130.name,by decide,Tryz.func130.trans (congrArg some (by kernel_rfl))⟩
 f26:=⟨Tryz.f131.name,by decide,Tryz.func131.trans (congrArg some (by kernel_rfl))⟩
 f27:=⟨Tryz.f132.name,by decide,Tryz.func132.trans (congrArg some (by kernel_rfl))⟩
 f28:=Tryz.func133.trans (congrArg some (by kernel_rfl))
 f29:=Tryz.func134.trans (congrArg some (by kernel_rfl))
 f46:=⟨Tryz.f163.name,by decide,Tryz.func163.trans (congrArg some (by kernel_rfl))⟩
 f47:=Tryz.func164.trans (congrArg some (by kernel_rfl))
 f48:=Tryz.func165.trans (congrArg some (by kernel_rfl))
 f49:=⟨Tryz.f166.name,by decide,Tryz.func166.trans (congrArg some (by kernel_rfl))⟩
 f50:=⟨Tryz.f167.name,by decide,Tryz.func167.trans (congrArg some (by kernel_rfl))⟩
 f57:=⟨Tryz.f184.name,by decide,Tryz.func184.trans (congrArg some (by kernel_rfl))⟩
 t0:=Tryz.underlying0
 a0:=Tryz.isAgg0
 z0:=Tryz.sizeOf0
 v0:=Tryz.zeroValue0
 t3:=Tryz.underlying3
 a3:=Tryz.isAgg3
 z3:=Tryz.sizeOf3
 v3:=Tryz.zeroValue3
 t4:=Tryz.underlying4
 a4:=Tryz.isAgg4
 z4:=Tryz.sizeOf4
 v4:=Tryz.zeroValue4
 t5:=Tryz.underlying5
 a5:=Tryz.isAgg5
 z5:=Tryz.sizeOf5
 v5:=Tryz.zeroValue5
 t9:=Tryz.underlying9
 a9:=Tryz.isAgg9
 z9:=Tryz.sizeOf9
 v9:=Tryz.zeroValue9
 t22:=Tryz.underlying37
 a22:=Tryz.isAgg37
 z22:=Tryz.sizeOf37
 v22:=Tryz.zeroValue37
 t25:=Tryz.underlying107
 a25:=Tryz.isAgg107
 z25:=Tryz.sizeOf107
 v25:=Tryz.zeroValue107
 t39:=Tryz.underlying137
 a39:=Tryz.isAgg137
 z39:=Tryz.sizeOf137
 v39:=Tryz.zeroValue137
 t45:=Tryz.underlying165
 a45:=Tryz.isAgg165
 z45:=Tryz.sizeOf165
 v45:=Tryz.zeroValue165
 t46:=Tryz.underlying166
 a46:=Tryz.isAgg166
 z46:=Tryz.sizeOf166
 v46:=Tryz.zeroValue166
 t50:=Tryz.underlying170
 a50:=Tryz.isAgg170
 z50:=Tryz.sizeOf170
 v50:=Tryz.zeroValue170
 t53:=Tryz.underlying173
 a53:=Tryz.isAgg173
 z53:=Tryz.sizeOf173
 v53:=Tryz.zeroValue173
 t55:=Tryz.underlying175
 a55:=Tryz.isAgg175
 z55:=Tryz.sizeOf175
 v55:=Tryz.zeroValue175
 t66:=Tryz.underlying205
 a66:=Tryz.isAgg205
 z66:=Tryz.sizeOf205
 v66:=Tryz.zeroValue205
 t70:=Tryz.underlying209
 a70:=Tryz.isAgg209
 z70:=Tryz.sizeOf209
 v70:=Tryz.zeroValue209
 t76:=Tryz.underlying222
 a76:=Tryz.isAgg222
 z76:=Tryz.sizeOf222
 v76:=Tryz.zeroValue222
 t77:=Tryz.underlying183
 a77:=Tryz.isAgg183
 z77:=Tryz.sizeOf183
 v77:=Tryz.zeroValue183 }
def Tryz.sortInt_ren : Go.Shelf.Ren:=⟨fun | 189=>53 | 125=>81 | 257=>85 | 128=>133 | 129=>134 | 294=>136 | 295=>137 | 296=>138 | 297=>139 | 298=>140 | 299=>141 | 216=>142 | 300=>143 | 301=>144 | 328=>168 | 329=>164 | 330=>165 | 331=>169 | 332=>170 | 215=>135 | 343=>185 | n=>n,fun | 28=>43 | 3=>3 | 46=>137 | 0=>0 | 51=>173 | 53=>175 | 4=>4 | 183=>166 | 182=>165 | 131=>170 | 5=>5 | 9=>9 | 218=>205 | 222=>209 | 228=>222 | 229=>183 | n=>n,fun | n=>n⟩
theorem Tryz.sortInt : Go.Proofs.Lays.n189 Tryz.prog Tryz.sortInt_ren:={
 mixed:=by kernel_rfl
 f125:=Tryz.func81.trans (congrArg some (by kernel_rfl))
 f128:=Tryz.func133.trans (congrArg some (by kernel_rfl))
 f129:=Tryz.func134.trans (congrArg some (by kernel_rfl))
 f189:=Tryz.func53.trans (congrArg some (by kernel_rfl))
 f215:=Tryz.func135.trans (congrArg some (by kernel_rfl))
 f216:=Tryz.func142.trans (congrArg some (by kernel_rfl))
 f257:=Tryz.func85.trans (congrArg some (by kernel_rfl))
 f294:=Tryz.func136.trans (congrArg some (by kernel_rfl))
 f295:=Tryz.func137.trans (congrArg some (by kernel_rfl))
 f296:=Tryz.func138.trans (congrArg some (by kernel_rfl))
 f297:=Tryz.func139.trans (congrArg some (by kernel_rfl))
 f298:=Tryz.func140.trans (congrArg some (by kernel_rfl))
 f299:=Tryz.func141.trans (congrArg some (by kernel_rfl))
 f300:=Tryz.func143.trans (congrArg some (by kernel_rfl))
 f301:=Tryz.func144.trans (congrArg some (by kernel_rfl))
 f328:=Tryz.func168.trans (congrArg some (by kernel_rfl))
 f329:=Tryz.func164.trans (congrArg some (by kernel_rfl))
 f330:=Tryz.func165.trans (congrArg some (by kernel_rfl))
 f331:=Tryz.func169.trans (congrArg some (by kernel_rfl))
 f332:=Tryz.func170.trans (congrArg some (by kernel_rfl))
 f343:=Tryz.func185.trans (congrArg some (by kernel_rfl))
 t0:=Tryz.underlying0
 a0:=Tryz.isAgg0
 z0:=Tryz.sizeOf0
 v0:=Tryz.zeroValue0
 t3:=Tryz.underlying3
 a3:=Tryz.isAgg3
 z3:=Tryz.sizeOf3
 v3:=Tryz.zeroValue3
 t4:=Tryz.underlying4
 a4:=Tryz.isAgg4
 z4:=Tryz.sizeOf4
 v4:=Tryz.zeroValue4
 t5:=Tryz.underlying5
 a5:=Tryz.isAgg5
 z5:=Tryz.sizeOf5
 v5:=Tryz.zeroValue5
 t9:=Tryz.underlying9
 a9:=Tryz.isAgg9
 z9:=Tryz.sizeOf9
 v9:=Tryz.zeroValue9
 t28:=Tryz.underlying43
 a28:=Tryz.isAgg43
 z28:=Tryz.sizeOf43
 v28:=Tryz.zeroValue43
 t46:=Tryz.underlying137
 a46:=Tryz.isAgg137
 z46:=Tryz.sizeOf137
 v46:=Tryz.zeroValue137
 t51:=Tryz.underlying173
 a51:=Tryz.isAgg173
 z51:=Tryz.sizeOf173
 v51:=Tryz.zeroValue173
 t53:=Tryz.underlying175
 a53:=Tryz.isAgg175
 z53:=Tryz.sizeOf175
 v53:=Tryz.zeroValue175
 t131:=Tryz.underlying170
 a131:=Tryz.isAgg170
 z131:=Tryz.sizeOf170
 v131:=Tryz.zeroValue170
 t182:=Tryz.underlying165
 a182:=Tryz.isAgg165
 z182:=Tryz.sizeOf165
 v182:=Tryz.zeroValue165
 t183:=Tryz.underlying166
 a183:=Tryz.isAgg166
 z183:=Tryz.sizeOf166
 v183:=Tryz.zeroValue166
 t218:=Tryz.underlying205
 a218:=Tryz.isAgg205
 z218:=Tryz.sizeOf205
 v218:=Tryz.zeroValue205
 t222:=Tryz.underlying209
 a222:=Tryz.isAgg209
 z222:=Tryz.sizeOf209
 v222:=Tryz.zeroValue209
 t228:=Tryz.underlying222
 a228:=Tryz.isAgg222
 z228:=Tryz.sizeOf222
 v228:=Tryz.zeroValue222
 t229:=Tryz.underlying183
 a229:=Tryz.isAgg183
 z229:=Tryz.sizeOf183
 v229:=Tryz.zeroValue183 }
def Tryz.keysM_ren : Go.Shelf.Ren:=⟨fun | 7=>71 | 10=>118 | n=>n,fun | 23=>127 | 26=>9 | 3=>3 | 28=>125 | 0=>0 | 27=>124 | 33=>153 | 4=>4 | n=>n,fun | n=>n⟩
theorem Tryz.keysM : Go.Proofs.SlLaysZ.n7 Tryz.prog Tryz.keysM_ren:={
 mixed:=by kernel_rfl
 f7:=⟨Tryz.f71.name,by decide,Tryz.func71.trans (congrArg some (by kernel_rfl))⟩
 f10:=⟨Tryz.f118.name,by decide,Tryz.func118.trans (congrArg some (by kernel_rfl))⟩
 t0:=Tryz.underlying0
 a0:=Tryz.isAgg0
 z0:=Tryz.sizeOf0
 v0:=Tryz.zeroValue0
 t4:=Tryz.underlying4
 a4:=Tryz.isAgg4
 z4:=Tryz.sizeOf4
 v4:=Tryz.zeroValue4
 t23:=Tryz.underlying127
 a23:=Tryz.isAgg127
 z23:=Tryz.sizeOf127
 v23:=Tryz.zeroValue127
 t26:=Tryz.underlying9
 a26:=Tryz.isAgg9
 z26:=Tryz.sizeOf9
 v26:=Tryz.zeroValue9
 t27:=Tryz.underlying124
 a27:=Tryz.isAgg124
 z27:=Tryz.sizeOf124
 v27:=Tryz.zeroValue124
 t28:=Tryz.underlying125
 a28:=Tryz.isAgg125
 z28:=Tryz.sizeOf125
 v28:=Tryz.zeroValue125
 t33:=Tryz.underlying153
 a33:=Tryz.isAgg153
 z33:=Tryz.sizeOf153
 v33:=Tryz.zeroValue153 }
def Tryz.sortedM_ren : Go.Shelf.Ren:=⟨fun | 6=>70 | 8=>116 | 9=>117 | 11=>155 | 13=>81 | 12=>156 | 23=>133 | 24=>134 | 14=>174 | 15=>175 | 16=>176 | 17=>177 | 18=>178 | 19=>179 | 20=>180 | 21=>181 | 22=>182 | 25=>187 | 26=>164 | 27=>165 | 28=>188 | 29=>189 | 30=>190 | 31=>192 | n=>n,fun | 26=>9 | 28=>125 | 24=>63 | 0=>0 | 3=>3 | 37=>137 | 48=>173 | 50=>175 | 4=>4 | 40=>166 | 39=>165 | 45=>170 | 5=>5 | 9=>9 | 51=>205 | 55=>209 | 57=>222 | 58=>183 | 33=>153 | n=>n,fun | n=>n⟩
theorem Tryz.sortedM : Go.Proofs.SlLaysZ.n6 Tryz.prog Tryz.sortedM_ren:={
 mixed:=by kernel_rfl
 f6:=⟨Tryz.f70.name,by decide,Tryz.func70.trans (congrArg some (by kernel_rfl))⟩
 f8:=⟨Tryz.f116.name,by decide,Tryz.func116.trans (congrArg some (by kernel_rfl))⟩
 f11:=⟨Tryz.f155.name,by decide,Tryz.func155.trans (congrArg some (by kernel_rfl))⟩
 t0:=Tryz.underlying0
 a0:=Tryz.isAgg0
 z0:=Tryz.sizeOf0
 v0:=Tryz.zeroValue0
 t24:=Tryz.underlying63
 a24:=Tryz.isAgg63
 z24:=Tryz.sizeOf63
 v24:=Tryz.zeroValue63
 t26:=Tryz.underlying9
 a26:=Tryz.isAgg9
 z26:=Tryz.sizeOf9
 v26:=Tryz.zeroValue9
 t28:=Tryz.underlying125
 a28:=Tryz.isAgg125
 z28:=Tryz.sizeOf125
 v28:=Tryz.zeroValue125
 i26:=by kernel_rfl }
def Tryz.growI_ren : Go.Shelf.Ren:=⟨fun | 4=>124 | n=>n,fun | 22=>43 | 25=>3 | 3=>3 | 4=>4 | 9=>9 | 20=>20 | 0=>0 | n=>n,fun | n=>n⟩
theorem Tryz.growI : Go.Proofs.Lays8.n4 Tryz.prog Tryz.growI_ren:={
 mixed:=by kernel_rfl
 f4:=⟨Tryz.f124.name,by decide,Tryz.func124.trans (congrArg some (by kernel_rfl))⟩
 t0:=Tryz.underlying0
 a0:=Tryz.isAgg0
 z0:=Tryz.sizeOf0
 v0:=Tryz.zeroValue0
 t3:=Tryz.underlying3
 a3:=Tryz.isAgg3
 z3:=Tryz.sizeOf3
 v3:=Tryz.zeroValue3
 t4:=Tryz.underlying4
 a4:=Tryz.isAgg4
 z4:=Tryz.sizeOf4
 v4:=Tryz.zeroValue4
 t9:=Tryz.underlying9
 a9:=Tryz.isAgg9
 z9:=Tryz.sizeOf9
 v9:=Tryz.zeroValue9
 t20:=Tryz.underlying20
 a20:=Tryz.isAgg20
 z20:=Tryz.sizeOf20
 v20:=Tryz.zeroValue20
 t22:=Tryz.underlying43
 a22:=Tryz.isAgg43
 z22:=Tryz.sizeOf43
 v22:=Tryz.zeroValue43 }
end Go.Proofs
end
section


end
section
namespace Go.Dm
variable [DMode]
open Go.Shelf Go.Sort Go.Proofs
theorem Ch_ {w w':World} (h: @Upd Ms [] w w'):∃q os,w'=grow (w.drewN q) os:=by
 refine⟨w'.drawn-w.drawn,w'.heap.extract w.heap.size w'.heap.size,?_⟩;obtain⟨heap,tape,drawn,os,output⟩:=w';obtain⟨h1,h2,h3,h4,h5,h6⟩:=h;simp only at h1 h2 h3 h4 h5 h6 |-
 replace h4:=h4 rfl
 subst h1;subst h2;subst h3
 have e1:w.heap++heap.extract w.heap.size heap.size=heap:=by
  apply Array.ext_getElem?
  intro i
  by_cases hi:i<w.heap.size
  ·rw[dL0 hi,<-h6 i hi (by simp)]
  ·rw[Array.getElem?_append_right (by omega),Array.getElem?_extract]
   by_cases hi2:i<heap.size
   ·rw[if_pos (by omega)]
    congr 1
    omega
   ·rw[if_neg (by omega),Array.getElem?_eq_none (by omega)]
 have e2:w.drawn+(drawn-w.drawn)=drawn:=by omega
 simp[grow,World.drewN,e1,e2]
section
variable {P : Program} {ρ : Ren} {g : FuncId} {et k cap b : Nat} {cs : List DVal} {cs' : Array Value} {cf : List DVal -> List DVal -> Int} {es es' : List (List DVal)} {cu0 : ES} {M1 : List Nat} {w : World} {arr : Array Value}
theorem IM {α:Type} [Inhabited α] (enc:α->List Value) (p3:w.heap[b]? =some (.cells arr et (0,0))) (m:Nat) (os:Array Obj) (dk:Array α) :
  (sortWorldK enc k w b 0 m dk os).heap[b]? =some (.cells (putCells id 0 (flatK enc k dk) arr) et (0,0))/\(∀q,q<w.heap.size->q≠b->(sortWorldK enc k w b 0 m dk os).heap[q]? =w.heap[q]?)/\w.heap.size<=(sortWorldK enc k w b 0 m dk os).heap.size /\
   (sortWorldK enc k w b 0 m dk os).os=w.os/\(sortWorldK enc k w b 0 m dk os).tape=w.tape/\(sortWorldK enc k w b 0 m dk os).output=w.output/\w.drawn<=(sortWorldK enc k w b 0 m dk os).drawn:=by
 have hblk:b<w.heap.size:=(aC0.1 p3).1;refine⟨?_,fun q hq hqb=> ?_,?_,rfl,rfl,rfl,Nat.le_add_right _ _⟩
 ·simp only[sortWorldK,grow,putRowK,putRow,mapBlock,ahead];rw[dL0 (by simpa using hblk),cE0];simp[p3,onCells]
 ·simp only[sortWorldK,grow,putRowK,putRow,mapBlock,ahead];rw[dL0 (by simpa using hq),cE0];rw[if_neg (fun h=>hqb h.symm)];rfl
 ·simp[sortWorldK,grow,putRowK,putRow,mapBlock,ahead]
theorem XH {α:Type} [Inhabited α] {enc:α->List Value} (qU:∀x,(enc x).length=k) {dk:Array α} {i p:Nat} (hi:i<dk.size) (hp:p<k) (qI:dk.size*k<=arr.size) :
  (putCells id 0 (flatK enc k dk) arr)[i*k+p]? =(enc dk[i]!)[p]? :=by
 have qH:=Dz (k:=k) hi;have qV:i*k+p<arr.size:=by omega
 have hdiv:(i*k+p)/k=i:=by
  rw[Nat.mul_comm,Nat.mul_add_div (by omega),Nat.div_eq_of_lt hp];omega
 have hmod:(i*k+p)%k=p:=by rw[Nat.mul_comm,Nat.mul_add_mod];exact Nat.mod_eq_of_lt hp
 have hlf:i*k+p<dk.size*k:=by omega
 have fD:p<(enc dk[i]!).length:=by rw[qU];exact hp
 simp only[putCells,bQ0,Array.getElem?_mapIdx,bO0 qV,cU0,dC0,true_and,size_flatK,hlf,if_true,eE0,id];rw[get_flatK _ _ _ _ hlf,hdiv,hmod,getElem!_pos (enc dk[i]!) p fD,aI0 fD]
theorem Ao_ {α:Type} [Inhabited α] (L:SlLaysF0.n6 P ρ) (dt:α->List DVal) (enc:α->List Value) (d:Array α) (mB:tAgg P (ρ.t 24)=some true) (nD:tCells P (ρ.t 24)=some k) (yY:AJ cs=0) (bJ:∀x∈es,AJ x=0)
  (jO:∀x,dt x∈es) (hdk:∀x,(dt x).length=k) (vX:∀x,rdV cu0 M1 w.heap (dt x) (enc x)) (qS:∀x,∀u∈enc x,u.oneCell'=true) (bK:d.size=es.length)
  (hd:∀i (hi:i<es.length),dt d[i]! =es[i]/\∀(q:Nat) (v:Value),(enc d[i]!)[q]? =some v->arr[i*k+q]? =some v)
  (p3:w.heap[b]? =some (.cells arr et (0,0))) (kU:es.length*k<=arr.size) (hbM:b∈M1) (bS:∀q∈M1,q<w.heap.size) (nE:rdV cu0 M1 w.heap cs cs'.toList) (qV:es.length<4611686018427387904)
  (hg:Enters P g) (hcmp:∀x∈es,∀y∈es,@Af Ms P g (.agg x:: .agg y::cs) (.int .i64 (cf x y)))
  (hirr:∀x∈es,¬cf x x<0) (kS:∀x∈es,∀y∈es,∀z∈es,cf x y<0->cf y z<0->cf x z<0) (qX:∀x∈es,∀y∈es,∀z∈es,¬cf x y<0->¬cf y z<0->¬cf x z<0)
  (gC:∀l:List (List DVal),l.Perm es->l.Pairwise (fun x y=>¬cf y x<0)->l=es') :
  Calls P (ρ.f 6) #[.slice (some ⟨b,0,none⟩) es.length cap,.func (.func g) #[] cs'] w fun e w'=>e= .returned (.tuple #[])/\es'.length=es.length/\Upd [b] w w' /\
   ∃arr',w'.heap[b]? =some (.cells arr' et (0,0))/\arr'.size=arr.size/\∀cur M2,(∀q∈M2,q∈M1)->Dt cur M2 w'.heap k es' arr' 0:=by
 have qU:∀x:α,(enc x).length=k:=fun x=>by
  have:=AA _ _ (vX x);have:=hdk x;omega
 have hO:SWO (ltOf fun x y:α=>cf (dt x) (dt y)):=by
  refine⟨fun x=> ?_,fun x y z h1 h2=> ?_,fun x y z h1 h2=> ?_⟩
  ·simp only[ltOf,decide_eq_false_iff_not];exact hirr _ (jO x)
  ·simp only[ltOf,decide_eq_true_eq]at *;exact kS _ (jO x) _ (jO y) _ (jO z) h1 h2
  ·simp only[ltOf,decide_eq_false_iff_not]at *;exact qX _ (jO x) _ (jO y) _ (jO z) h1 h2
 have hH:HoldsK enc k w b 0 d:=by
  intro j hj;rw[size_flatK,bK]at hj
  have zD:0<k:=by
   rcases eM0 k with h | h
   ·subst h;simp at hj
   ·exact h
  have hi:j/k<es.length:=by rw[Nat.div_lt_iff_lt_mul zD];exact hj
  have hq:j%k<k:=Nat.mod_lt _ zD;rw[get_flatK _ _ _ _ (by rw[bK];exact hj)];have wB:j%k<(enc d[j/k]!).length:=by rw[qU];exact hq
  have vK:=(hd _ hi).2 (j%k) _ (aI0 wB);rw[Nat.mul_comm,Nat.div_add_mod]at vK;rw[getElem!_pos (enc d[j/k]!) _ wB];exact⟨by simp only[World.cell?,p3,bQ0,id];exact vK,by simp[World.frozen?,p3]⟩
 have hblk:b<w.heap.size:=(aC0.1 p3).1
 have Wk:∀m os (dk:Array α) (cur:ES) (M2:List Nat),(∀q∈M2,q∈M1)->Weak cu0 cur M1 M2 w.heap (sortWorldK enc k w b 0 m dk os).heap 0:=by
  intro m os dk cur M2 hM2;have hW:=IM (et:=et) (arr:=arr) (k:=k) enc p3 m os dk;exact⟨fun _ _ _ h=>by omega,fun q o hq (_:FE o=true) ho=>by rw[hW.2.1 q (aC0.1 ho).1 (fun h=>hq (h▸hbM))];exact ho,fun q o hq (_:FE o=true) _ hm=>hq (hM2 q hm)⟩
 have hC:CmpLays P g cs' enc k (fun x y:α=>cf (dt x) (dt y)) b 0 d.size w:=by
  intro m os dk _ x y;have hD:=hcmp _ (jO x) _ (jO y);have hW:=IM (et:=et) (arr:=arr) (k:=k) enc p3 m os dk;have hx:=AP (Wk m os dk (fun _ _=>none) M1 (fun _ h=>h)) _ _ (dD0 (bJ _ (jO x))) (vX x);have hy:=AP (Wk m os dk (fun _ _=>none) M1 (fun _ h=>h)) _ _ (dD0 (bJ _ (jO y))) (vX y);have hc:=AP (Wk m os dk (fun _ _=>none) M1 (fun _ h=>h)) _ _ (dD0 yY) nE;obtain⟨X,hX⟩:∃X,X=(enc x).toArray:=⟨_,rfl⟩;obtain⟨Y,hY⟩:∃Y,Y=(enc y).toArray:=⟨_,rfl⟩
  simp only[<-hX,<-hY]
  generalize sortWorldK enc k w b 0 m dk os=V at hW hx hy hc |-
  have key:=hD.2.2 (fun _ _=>none) M1 V (#[.agg X,.agg Y]++cs') (fun q hq=>cB0 (bS q hq) hW.2.2.1);refine(key ?_).mono ?_
  ·have e1:(#[Value.agg X,Value.agg Y]++cs').toList=Value.agg X::Value.agg Y::cs'.toList:=by simp
   rw[e1];simp only[rdV];refine⟨_,_,rfl,?_,_,_,rfl,?_,hc⟩
   ·simp only[rd];exact⟨_,rfl,by rw[hX];exact hx⟩
   ·simp only[rd];exact⟨_,rfl,by rw[hY];exact hy⟩
  ·rintro e w' ⟨v,rfl,hu,hv⟩;simp only[rd]at hv;exact⟨by rw[hv.1],Ch_ hu⟩
 have qD:=AnyQ.slices_SortFunc L k (HX mB) (Bq nD) enc qU qS (fun x y:α=>cf (dt x) (dt y)) hO g cs' b 0 cap d w hg hC hH hblk (by omega);rw[bK]at qD;refine qD.mono ?_;rintro e w' ⟨rfl,d',n,os,hP,hS,rfl⟩;obtain⟨gX,_,jX⟩:=hP;rw[bK]at gX;have e1:d'.extract 0 es.length=d':=by rw[<-gX];exact Array.extract_size
 have e2:d.extract 0 es.length=d:=by rw[<-bK];exact Array.extract_size
 rw[e1,e2]at jX
 have hdes:d.toList.map dt=es:=by
  apply List.ext_getElem
  ·simp[bK]
  ·intro i h1 h2;have:=(hd i h2).1;rw[getElem!_pos d i (by omega)]at this;simpa using this
 have pI:d'.toList.map dt=es':=by
  refine gC _ ?_ ?_
  ·have:=jX.map dt
   rwa[hdes]at this
  ·rw[dK0,eO0];intro i j hi hj yB;have zP:i<d'.size:=by simpa using hi
   have fH:j<d'.size:=by simpa using hj
   have:=hS i j (dC0 _) yB (by omega);rw[getElem!_pos d' j fH,getElem!_pos d' i zP]at this;simpa[ltOf]using this
 have gS:es'.length=es.length:=by rw[<-pI];simp[gX]
 obtain⟨q1,q2,q3,q4,q5,q6,q7⟩:=IM (et:=et) (arr:=arr) (k:=k) enc p3 n os d';refine⟨rfl,gS,⟨q4,q5,q6,fun _=>q7,q3,fun q hq hn=>q2 q hq (fun h=>hn (by simp[h]))⟩,_,q1,by simp[putCells],fun cur M2 hM2=> ?_⟩;refine EA _ _ _ _ fun i cs0 hi=> ?_
 have kI:i<es'.length:=(aB0.1 hi).1;have hid:i<d'.size:=by omega
 have hcs0:cs0=dt d'[i]! :=by
  rw[<-pI,bH0]at hi;rw[getElem!_pos d' i hid];simp[hid]at hi;exact hi.symm
 subst hcs0;refine⟨hdk _,?_⟩;have hv:=AP (Wk n os d' cur M2 hM2) _ _ (dD0 (bJ _ (jO _))) (vX d'[i]!);have h0:=Hz _ _ [] [] hv (qS _);refine CX _ _ _ _ _ (fun p hp=> ?_) h0;have zM:p<k:=by rw[hdk]at hp;exact hp
 rw[bQ0,XH qU hid zM (by rw[gX];exact kU)];simp
end
theorem An_ {P:Program} {ρ:Ren} (L:SlLaysF0.n6 P ρ) {f g:FuncId} {et k bs:Nat} {cs:List DVal} {cf:List DVal->List DVal->Int} {es es':List (List DVal)} (hf:ρ.f 6=f) (vJ:Enters P f) (mB:tAgg P (ρ.t 24)=some true) (nD:tCells P (ρ.t 24)=some k)
  (hbs0:0<bs) (yY:AJ cs=0) (bJ:∀x∈es,AJ x=0) (hg:Enters P g) (hcmp:∀x∈es,∀y∈es,@Af Ms P g (.agg x:: .agg y::cs) (.int .i64 (cf x y)))
  (hirr:∀x∈es,¬cf x x<0) (kS:∀x∈es,∀y∈es,∀z∈es,cf x y<0->cf y z<0->cf x z<0) (qX:∀x∈es,∀y∈es,∀z∈es,¬cf x y<0->¬cf y z<0->¬cf x z<0)
  (gC:∀l:List (List DVal),l.Perm es->l.Pairwise (fun x y=>¬cf y x<0)->l=es') :
  Bj P (.func f) [.osl 0 0,.fn (.func g) [] cs] [⟨0,0,.row et k bs es⟩] (.tup []) [⟨0,0,.row et k bs es'⟩]:=by
 refine⟨by simp,vJ,fun M w loc vs S hr=> ?_⟩;refine⟨vJ,?_⟩;simp only[rdV]at hr;obtain⟨v0,r0,wS,h0,v1,r1,rfl,h1,rfl⟩:=hr;simp only[rd]at h0 h1;obtain⟨us',cs',rfl,vV,nE⟩:=h1;simp only[rdV]at vV;have hus':us'= #[]:=by cases us';simpa using vV
 subst hus';have bY:Ac [(⟨0,0,.row et k bs es⟩:Ent)] loc 0 0=some (loc 0):=rfl;have kN:=h0 _ bY;have zV:vs= #[v0,.func (.func g) #[] cs']:=by cases vs;simpa using wS
 subst zV;subst hf;have wQ:Aa [(⟨0,0,.row et k bs es⟩:Ent)] loc=(loc 0).blks:=by simp[Aa]
 have bX:Aa [(⟨0,0,.row et k bs es'⟩:Ent)] loc=(loc 0).blks:=by simp[Aa]
 have jP:∀cur M h,rd cur M h (.tup []) (.tuple #[]):=fun _ _ _=>by simp only[rd];exact⟨#[],rfl,by simp[rdV]⟩
 have hk:=S.ok ⟨0,0,.row et k bs es⟩ (by simp)
 by_cases qF:es=[]
 ·subst qF;have hes':es'=[]:=(gC [] (List.Perm.refl _) List.Pairwise.nil).symm;subst hes'
  obtain⟨a,cap,hh⟩:∃a cap,(loc 0).hdr= .slice a 0 cap:=by
   obtain⟨_,⟨_,_,h2⟩ | ⟨b,arr,cap,_,h2,_⟩⟩:=hk
   ·exact⟨_,_,h2⟩
   ·exact⟨_,_,h2⟩
  rw[hh]at kN;subst kN;refine(AnyF.slices_SortFunc_none { L with } a cap (.func (.func g) #[] cs') w).mono ?_;rintro e w' ⟨rfl,rfl⟩;exact⟨_,rfl,loc,S,Upd.refl _ _,fun b hb=> .inl hb,fun e he _=>Ay S.nd he,jP _ _ _⟩
 ·obtain⟨b,arr,cap,p1,p2,p3,p4,p5,p6,p7⟩:∃b arr cap,(loc 0).blks=[b]/\(loc 0).hdr= .slice (some ⟨b,0,none⟩) es.length cap/\w.heap[b]? =some (.cells arr et (0,0))/\es.length<=cap/\cap<=maxLen/\cap*k=arr.size/\Dt (Ac [(⟨0,0,.row et k bs es⟩:Ent)] loc) (Aa [(⟨0,0,.row et k bs es⟩:Ent)] loc++M) w.heap k es arr 0:=by
   obtain⟨_,⟨h,_⟩ | h⟩:=hk
   ·exact absurd h qF
   ·exact h
  have wI:=hk.1;rw[p2]at kN;subst kN;obtain⟨cu0,hcu0⟩:∃c,c=Ac [(⟨0,0,.row et k bs es⟩:Ent)] loc:=⟨_,rfl⟩;obtain⟨M1,hM1⟩:∃m,m=Aa [(⟨0,0,.row et k bs es⟩:Ent)] loc++M:=⟨_,rfl⟩;rw[<-hcu0,<-hM1]at p7 nE;have hbM:b∈M1:=by rw[hM1,wQ,p1];simp
  have bS:∀q∈M1,q<w.heap.size:=by rw[hM1];exact S.lt
  have kU:es.length*k<=arr.size:=by rw[<-p6];exact aW0 _ p4
  have yR:0<es.length:=List.length_pos_iff.2 qF
  have hel:∀i:Fin es.length,∃us:List Value,rdV cu0 M1 w.heap es[i.1] us/\(∀u∈us,u.oneCell'=true)/\∀(q:Nat) (v:Value),us[q]? =some v->arr[i.1*k+q]? =some v:=by
   intro i;obtain⟨q1,q2⟩:=Dh k es arr 0 i.1 es[i.1] p7 (aI0 i.2);obtain⟨us,g1,g2,g3⟩:=Ia _ _ _ q2;refine⟨us,g2,fun u hu=> ?_,fun q v hq=> ?_⟩
   ·obtain⟨j,hj,rfl⟩:=bW0 hu;exact(g3 j _ (aI0 hj)).2
   ·have:=(g3 q v hq).1;simpa using this
  haveI:Inhabited (Fin es.length):=⟨⟨0,yR⟩⟩
  have qV:es.length<4611686018427387904:=by
   have h1:es.length*1<=es.length*bs:=cO0 _ hbs0;have h2:es.length*bs<=150000000000000:=wI;omega
  have hd:∀i (hi:i<es.length),(Array.ofFn (fun i:Fin es.length=>i))[i]! =⟨i,hi⟩:=by
   intro i hi;rw[getElem!_pos _ i (by simpa using hi)];simp
  refine(Ao_ (et:=et) (α:=Fin es.length) L (fun i=>es[i.1]) (fun i=>(hel i).choose) (Array.ofFn fun i=>i) mB nD yY bJ (fun i=>dE0 _) (fun i=>(Dh k es arr 0 i.1 es[i.1] p7 (aI0 i.2)).1) (fun i=>(hel i).choose_spec.1) (fun i=>(hel i).choose_spec.2.1) (by simp)
   (fun i hi=>by rw[hd i hi];exact⟨rfl,(hel ⟨i,hi⟩).choose_spec.2.2⟩) p3 kU hbM bS nE qV hg hcmp hirr kS qX gC).mono ?_
  rintro e w' ⟨rfl,gS,hu,arr',r1,r2,r3⟩;have hM2:Aa [(⟨0,0,.row et k bs es'⟩:Ent)] loc++M=M1:=by rw[hM1,wQ,bX]
  refine⟨_,rfl,loc,⟨by simp,by rw[bX,p1];simp,fun q hq=>S.ap q (by rw[wQ];rwa[bX]at hq),fun q hq=> ?_,?_⟩,by rw[wQ,p1];exact hu,fun q hq=> .inl (by rw[wQ];rwa[bX]at hq),?_,jP _ _ _⟩
  ·rw[hM2]at hq;exact cB0 (bS q hq) hu.size
  ·intro e he;simp only[aE0]at he;subst he;rw[hM2];exact⟨by rw[gS];exact wI,.inr ⟨b,arr',cap,p1,by rw[gS];exact p2,r1,by omega,p5,by omega,r3 _ _ fun _ h=>h⟩⟩
  ·intro e he _;simp only[aE0]at he;subst he;exact bY
end Go.Dm
end
section
namespace Go.Dm
variable [DMode]
open Go.Shelf Go.Sort Go.Proofs Go.RowKit
def He (l:List ByteArray):List ByteArray:=((l.map fun s=>s.data.toList).mergeSort fun x y=>decide (x<=y)).map fun x=>⟨x.toArray⟩
theorem Al_ (l:List ByteArray):(He l).length=l.length:=by simp[He]
theorem Ax_ {α:Type} [Inhabited α] (enc:α->Value) {w:World} {b et:Nat} {arr:Array Value} (p3:w.heap[b]? =some (.cells arr et (0,0))) (m:Nat) (os:Array Obj) (dk:Array α) :
  (grow (putRow enc (Sort.ahead w m) b 0 dk) os).heap[b]? =some (.cells (putCells enc 0 dk arr) et (0,0))/\(∀q,q<w.heap.size->q≠b->(grow (putRow enc (Sort.ahead w m) b 0 dk) os).heap[q]? =w.heap[q]?)/\w.heap.size<=(grow (putRow enc (Sort.ahead w m) b 0 dk) os).heap.size /\
   (grow (putRow enc (Sort.ahead w m) b 0 dk) os).os=w.os/\(grow (putRow enc (Sort.ahead w m) b 0 dk) os).tape=w.tape/\(grow (putRow enc (Sort.ahead w m) b 0 dk) os).output=w.output/\w.drawn<=(grow (putRow enc (Sort.ahead w m) b 0 dk) os).drawn:=by
 have hblk:b<w.heap.size:=(aC0.1 p3).1;refine⟨?_,fun q hq hqb=> ?_,?_,rfl,rfl,rfl,Nat.le_add_right _ _⟩
 ·simp only[grow,putRow,mapBlock,Sort.ahead];rw[dL0 (by simpa using hblk),cE0];simp[p3,onCells]
 ·simp only[grow,putRow,mapBlock,Sort.ahead];rw[dL0 (by simpa using hq),cE0];rw[if_neg (fun h=>hqb h.symm)]
 ·simp[grow,putRow,mapBlock,Sort.ahead]
end Go.Dm
end
section
namespace Go.Proofs.Wy
open Go Go.Dm Go.RowKit Go.Proofs Tryz
variable [DMode]
set_option maxRecDepth 100000
theorem Jx (b n:Nat) (w:World) (h0:w.cell? ⟨b,0,none⟩=some (.pointer none)) (hsh:w.shape? b=some (191,n)) (hn:0<n) (hl:liesAt prog Tryz.prog.depth 191 (n/Tryz.prog.cellsOf 191) 0 191 1=true) (hfz:w.frozen? ⟨b,0,none⟩=false) :
  Calls prog 173 #[.pointer (some ⟨b,0,none⟩)] w fun e w'=>e= .returned (.tuple #[])/\w'=w.setCell ⟨b,0,none⟩ (.pointer (some ⟨b,0,none⟩)):=by
 obtain⟨j,hj,pA⟩:∃j,Tryz.prog.info? 191=some j/\j.size=2:=bB0.1 (show (Tryz.prog.info? 191).map (·.size)=some 2 by kernel_rfl)
 go_enter func173,ntmps173
 go_wp2
 rw[Lib.run_to_unsafe w ⟨b,0,none⟩ underlying188 underlying225 hj (by rw[pA];decide) hsh hn];simp only[Result.andThen];rw[Oper.upon_value]
 go_wp2
 rw[run_callFunc_extern func186 (by kernel_rfl) (by kernel_rfl) (by kernel_rfl) (e:=Extern.AbiNoEscape.same) (by kernel_rfl)];rw[Lib.run_noEscape];simp only[Result.andThen];rw[Oper.upon_value]
 go_wp2
 rw[Lib.run_from_unsafe w ⟨b,0,none⟩ underlying225 underlying188 hj hsh hl];simp only[Result.andThen];rw[Oper.upon_value]
 go_wp2
 go_end0
 exact⟨rfl,rfl⟩
theorem Sd (b:Nat) (w:World) (h0:w.cell? ⟨b,0,none⟩=some (.pointer (some ⟨b,0,none⟩))) :
  Calls prog 173 #[.pointer (some ⟨b,0,none⟩)] w fun e w'=>e= .returned (.tuple #[])/\w'=w:=by
 obtain⟨j,hj,pA⟩:∃j,Tryz.prog.info? 191=some j/\j.size=2:=bB0.1 (show (Tryz.prog.info? 191).map (·.size)=some 2 by kernel_rfl)
 go_enter func173,ntmps173
 go_wp2
 rw[Lib.run_neq_ptr_same w _ underlying188 hj]
 go_wp2
 go_end0
 exact⟨rfl,rfl⟩
attribute [local irreducible] DW BN BS
theorem PA : Bj prog (.func 173) [.rx 0 0 2 0 0] [⟨0,0,.row 191 2 32 [[.nilp,.nilsl]]⟩] (.tup []) [⟨0,0,.row 191 2 32 [[.rx 0 0 2 0 0,.nilsl]]⟩] :=
 Py (by show ¬_;exact of_decide_eq_true (by kernel_rfl)) (by kernel_rfl) call173 32 Jx
theorem Sm (x:ByteArray):Bj prog (.func 173) [.rx 0 0 2 0 0] [⟨0,0,.row 191 2 32 [[.rx 0 0 2 0 0,.osl 1 0]]⟩,⟨1,0,.row 5 1 1 (AZ x)⟩] (.tup [])
  [⟨0,0,.row 191 2 32 [[.rx 0 0 2 0 0,.osl 1 0]]⟩,⟨1,0,.row 5 1 1 (AZ x)⟩] :=
 Px call173 32 (.osl 1 0) _ (by simp) Sd
def Nw : Ann:=⟨[7],[]⟩
theorem Pk (x:ByteArray) (hx:x.size<=150000000000000) :
  Bj prog (.func 152) [.rx 0 0 2 0 0,.str x] [⟨0,0,.row 191 2 32 [[.nilp,.nilsl]]⟩] (.tup [.int .i64 x.size,.nilifc])
   [⟨0,0,.row 191 2 32 [[.rx 0 0 2 0 0,.osl 1 1]]⟩,⟨1,1,.row 5 1 1 (AZ x)⟩]:=by
 refine BL [] [(0,0,0),(14,1,1)] Nw func152 call152 ntmps152 mxd (AB @Nw.eq_1 results152) rfl (fun qJ B qX qQ=> ?_);simp only[Aq]
 (repeat (first | refine AC fun K hK=> ?_ | (refine BA Nw mxd (by kernel_rfl) ?_;simp[Nw,qX,hx];try simp (disch:=omega) only[Ag]) | refine Ao ?_ | (refine AX ?_ ?_ ?_;(· (simp[qX,hx];done));(try (rotate_left;(· (intro hc;(try simp[qX,hx]at hc);done))))) | (refine AE ?_;simp[results152,qX,hx]) | ((first | refine Aw ?_ | refine Av ?_);simp[qX,hx]) | (intro hc;(try simp[qX,hx]at hc);(try (exfalso;omega))) | (refine AO [(0,0)] [] (PA) ?_ ?_;(· (simp[qX,hx];done));(intro _;try simp[qX,hx])) | (refine⟨?_,?_⟩; · omega) | omega | apply_assumption -exfalso -symm | (exfalso;omega)))
def Jk : Ann:=⟨[7],[]⟩
theorem CE (y x:ByteArray) (hx:y.size+x.size<=150000000000000) :
  Bj prog (.func 152) [.rx 0 0 2 0 0,.str x] [⟨0,0,.row 191 2 32 [[.rx 0 0 2 0 0,.osl 1 0]]⟩,⟨1,0,.row 5 1 1 (AZ y)⟩] (.tup [.int .i64 x.size,.nilifc])
   [⟨0,0,.row 191 2 32 [[.rx 0 0 2 0 0,.osl 1 1]]⟩,⟨1,1,.row 5 1 1 (AZ (y++x))⟩]:=by
 refine BL [] [(0,0,0),(1,1,1)] Jk func152 call152 ntmps152 mxd (AB @Jk.eq_1 results152) rfl (fun qJ B qX qQ=> ?_);simp only[Aq];rw[lX]
 (repeat (first | refine AC fun K hK=> ?_ | (refine BA Jk mxd (by kernel_rfl) ?_;simp[Jk,qX,hx,Bb];try simp (disch:=omega) only[Ag]) | refine Ao ?_ | (refine AX ?_ ?_ ?_;(· (simp[qX,hx,Bb];done));(try (rotate_left;(· (intro hc;(try simp[qX,hx,Bb]at hc);done))))) | (refine AE ?_;simp[results152,qX,hx,Bb]) | ((first | refine Aw ?_ | refine Av ?_);simp[qX,hx,Bb]) | (intro hc;(try simp[qX,hx,Bb]at hc);(try (exfalso;omega))) | (refine AO [(0,0),(1,1)] [] (Sm y) ?_ ?_;(· (simp[qX,hx,Bb];done));(intro _;try simp[qX,hx,Bb])) | (refine⟨?_,?_⟩; · omega) | omega | apply_assumption -exfalso -symm | (exfalso;omega)))
theorem Zh : Builder.Extra prog Tryz.bldString_ren where
 sizeBuilder:=by kernel_rfl
 liesBuilder:=by kernel_rfl
 t5:=underlying5
 a5:=Tryz.isAgg5
 z5:=Tryz.sizeOf5
 v5:=Tryz.zeroValue5
 infoByte:=by kernel_rfl
 cellsByte:=by kernel_rfl
 sizeByte:=by kernel_rfl
 neB5:=by decide
theorem Jn (x:ByteArray) (hx:x.size≠0):Bj prog (.func 153) [.rx 0 0 2 0 0] [⟨0,0,.row 191 2 32 [[.rx 0 0 2 0 0,.osl 1 0]]⟩,⟨1,0,.row 5 1 1 (AZ x)⟩] (.str x) [] :=
 Lt Tryz.bldString Zh call153 32 x hx
end Go.Proofs.Wy
end
section
namespace Go.Proofs.Wy
open Go Go.Dm Go.RowKit Go.Proofs Tryz
variable [DMode]
set_option maxRecDepth 1000000
def WN (w w':World) (b:Nat) (rest:List Value):Prop:=∃(g:Nat) (cs:Array Value),Upd [b] w w'/\w.heap.size<=g/\cs.size<=maxLen /\
 w'.heap[b]? =some (.cells (.pointer (some ⟨b,0,none⟩):: .slice (some ⟨g,0,none⟩) 0 cs.size::rest).toArray 191 (0,0))/\w'.heap[g]? =some (.cells cs 5 (0,0))
theorem grown_of {b:Nat} {w:World} {cs:Array Value} {rest:List Value} (bP:w.heap[b]? =some (.cells (.pointer (some ⟨b,0,none⟩):: .slice none 0 0::rest).toArray 191 (0,0))) (hm:cs.size<=maxLen) :
  WN w ((w.setCell ⟨b,1,none⟩ (.slice (some ⟨w.heap.size,0,none⟩) 0 cs.size)).alloc (.cells cs 5)).drew.drew.drew b rest:=by
 have qV:b<w.heap.size:=(aC0.1 bP).1;refine⟨w.heap.size,cs,⟨rfl,rfl,rfl,?_,?_,?_⟩,Nat.le_refl _,hm,?_,?_⟩
 ·simp[World.drew,World.alloc,World.setCell];omega
 ·simp[World.drew,World.alloc,World.setCell]
 ·intro q hq hn;simp only[aE0]at hn;simp only[World.drew,World.alloc,World.setCell];rw[bS0,if_neg (by simp;omega),cE0,if_neg (fun h=>hn h.symm)]
 ·simp only[World.drew,World.alloc,World.setCell];rw[bS0,if_neg (by simp;omega),cE0,if_pos rfl,bP];simp
 ·simp only[World.drew,World.alloc,World.setCell];rw[bS0,if_pos (by simp)]
theorem lA (b n:Nat) (rest:List Value) (w:World) (bP:w.heap[b]? =some (.cells (.pointer (some ⟨b,0,none⟩):: .slice none 0 0::rest).toArray 191 (0,0))) (hn:n<=140737488355328) :
  Calls prog 191 #[.pointer (some ⟨b,0,none⟩),.int .i64 n] w fun e w'=>e= .returned (.tuple #[])/\WN w w' b rest:=by
 have mixed:=mxd;obtain⟨cs,qD,yD,dY⟩:=Lib.run_makeNoZero (P:=prog) w.drew #[3] 189 5 underlying189 n (by omega)
 have hw:IntKind.i64.wrap (IntKind.i64.wrap 0+(n:Int))=n:=by
  rw[Ag (n:=0) (by omega) (by omega),wq];omega
 have qV:b<w.heap.size:=(aC0.1 bP).1
 have fZ:(callFunc 193 #[.int .i64 (IntKind.i64.wrap (IntKind.i64.wrap 0+(n:Int)))]).run prog w.drew= .ok (.value (.slice (some ⟨w.drew.heap.size,0,none⟩) n cs.size)) (w.drew.drew.drew.alloc (.cells cs 5)):=by
  rw[hw,run_callFunc_extern func193 (by kernel_rfl) (by kernel_rfl) (by kernel_rfl) (e:=Extern.BytealgMakeNoZero.makeNoZero #[3] #[189]) (by kernel_rfl),qD];rfl
 have c1:w.drew.cell? ⟨b,1,none⟩=some (.slice none 0 0):=by
  have h1:w.drew.heap[b]? =_:=bP;rw[Lib.cell_of_heap h1];rfl
 have h2:(w.alloc (.cells cs 5)).heap[b]? =some (.cells (.pointer (some ⟨b,0,none⟩):: .slice none 0 0::rest).toArray 191 (0,0)):=(Lib.alloc_old w _ b qV).trans bP;have c2:(w.alloc (.cells cs 5)).cell? ⟨b,1,none⟩=some (.slice none 0 0):=by rw[Lib.cell_of_heap h2];rfl
 have f2:(w.alloc (.cells cs 5)).frozen? ⟨b,1,none⟩=false:=Lib.frozen_of_heap h2 1
 have hcopy:∀W:World,(Builtin.copy_ #[189,189] 3 #[.slice (some ⟨w.heap.size,0,none⟩) 0 cs.size,.slice none 0 0]).run prog W= .ok (goInt 0) W :=
  fun W=>run_copy_none W 189 189 3 5 _ _ 0 cs.size 0 0 underlying189 (by kernel_rfl) rfl
 clear hw
 go_enter func191,ntmps191
 go_wp2
 go_region_o
 all_goals (go_wp2;go_end0;exact⟨rfl,grown_of bP (dY (by unfold maxLen;omega))⟩)
end Go.Proofs.Wy
end
