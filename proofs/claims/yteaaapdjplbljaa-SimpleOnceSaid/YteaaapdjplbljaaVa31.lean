/- The library's sort of routes, laid at this program by the kit's own command; no condition. -/
import Derived.Ground.SlgnProg
import Derived.Shelf.SlicesE.Clone
import Derived.Ground.SlsfProg
import Derived.Shelf.SlSortCmp.WholeK
import Derived.Test.YteaaapdjplbljaaProg
set_option linter.unusedVariables false
set_option linter.unusedSimpArgs false
set_option linter.unnecessarySimpa false
namespace Go.Proofs
open Go.Shelf
def Try.laysSort_ren:Go.Shelf.Ren:=⟨fun|6=>24|15=>46|14=>45|28=>71|29=>72|20=>63|21=>64|22=>65|23=>66|24=>67|25=>68|26=>69|27=>70|46=>80|47=>81|48=>82|49=>83|50=>84|57=>87|n=>n,fun|22=>32|24=>39|25=>42|3=>3|39=>63|0=>0|53=>101|55=>35|4=>4|46=>95|45=>94|50=>47|5=>5|9=>9|66=>109|70=>113|76=>116|77=>117|n=>n,fun|n=>n⟩
theorem Try.laysSort:Go.Proofs.SlLaysF0.n6 Try.prog Try.laysSort_ren:={
 mixed:=by kernel_rfl
 f6:=⟨Try.f24.name,by decide,Try.func24.trans (congrArg some (by kernel_rfl))⟩
 f14:=⟨Try.f45.name,by decide,Try.func45.trans (congrArg some (by kernel_rfl))⟩
 f15:=Try.func46.trans (congrArg some (by kernel_rfl))
 f20:=⟨Try.f63.name,by decide,Try.func63.trans (congrArg some (by kernel_rfl))⟩
 f21:=⟨Try.f64.name,by decide,Try.func64.trans (congrArg some (by kernel_rfl))⟩
 f22:=⟨Try.f65.name,by decide,Try.func65.trans (congrArg some (by kernel_rfl))⟩
 f23:=⟨Try.f66.name,by decide,Try.func66.trans (congrArg some (by kernel_rfl))⟩
 f24:=⟨Try.f67.name,by decide,Try.func67.trans (congrArg some (by kernel_rfl))⟩
 f25:=⟨Try.f68.name,by decide,Try.func68.trans (congrArg some (by kernel_rfl))⟩
 f26:=⟨Try.f69.name,by decide,Try.func69.trans (congrArg some (by kernel_rfl))⟩
 f27:=⟨Try.f70.name,by decide,Try.func70.trans (congrArg some (by kernel_rfl))⟩
 f28:=Try.func71.trans (congrArg some (by kernel_rfl))
 f29:=Try.func72.trans (congrArg some (by kernel_rfl))
 f46:=⟨Try.f80.name,by decide,Try.func80.trans (congrArg some (by kernel_rfl))⟩
 f47:=Try.func81.trans (congrArg some (by kernel_rfl))
 f48:=Try.func82.trans (congrArg some (by kernel_rfl))
 f49:=⟨Try.f83.name,by decide,Try.func83.trans (congrArg some (by kernel_rfl))⟩
 f50:=⟨Try.f84.name,by decide,Try.func84.trans (congrArg some (by kernel_rfl))⟩
 f57:=⟨Try.f87.name,by decide,Try.func87.trans (congrArg some (by kernel_rfl))⟩
 t0:=Try.underlying0
 a0:=Try.isAgg0
 z0:=Try.sizeOf0
 v0:=Try.zeroValue0
 t3:=Try.underlying3
 a3:=Try.isAgg3
 z3:=Try.sizeOf3
 v3:=Try.zeroValue3
 t4:=Try.underlying4
 a4:=Try.isAgg4
 z4:=Try.sizeOf4
 v4:=Try.zeroValue4
 t5:=Try.underlying5
 a5:=Try.isAgg5
 z5:=Try.sizeOf5
 v5:=Try.zeroValue5
 t9:=Try.underlying9
 a9:=Try.isAgg9
 z9:=Try.sizeOf9
 v9:=Try.zeroValue9
 t22:=Try.underlying32
 a22:=Try.isAgg32
 z22:=Try.sizeOf32
 v22:=Try.zeroValue32
 t25:=Try.underlying42
 a25:=Try.isAgg42
 z25:=Try.sizeOf42
 v25:=Try.zeroValue42
 t39:=Try.underlying63
 a39:=Try.isAgg63
 z39:=Try.sizeOf63
 v39:=Try.zeroValue63
 t45:=Try.underlying94
 a45:=Try.isAgg94
 z45:=Try.sizeOf94
 v45:=Try.zeroValue94
 t46:=Try.underlying95
 a46:=Try.isAgg95
 z46:=Try.sizeOf95
 v46:=Try.zeroValue95
 t50:=Try.underlying47
 a50:=Try.isAgg47
 z50:=Try.sizeOf47
 v50:=Try.zeroValue47
 t53:=Try.underlying101
 a53:=Try.isAgg101
 z53:=Try.sizeOf101
 v53:=Try.zeroValue101
 t55:=Try.underlying35
 a55:=Try.isAgg35
 z55:=Try.sizeOf35
 v55:=Try.zeroValue35
 t66:=Try.underlying109
 a66:=Try.isAgg109
 z66:=Try.sizeOf109
 v66:=Try.zeroValue109
 t70:=Try.underlying113
 a70:=Try.isAgg113
 z70:=Try.sizeOf113
 v70:=Try.zeroValue113
 t76:=Try.underlying116
 a76:=Try.isAgg116
 z76:=Try.sizeOf116
 v76:=Try.zeroValue116
 t77:=Try.underlying117
 a77:=Try.isAgg117
 z77:=Try.sizeOf117
 v77:=Try.zeroValue117 }
end Go.Proofs
