/- The library's contracts that the proof uses, laid at this program by the kit's own command; no condition. -/
import Derived.Shelf.Small.Bits
import Derived.Shelf.Small.Wraps
import Derived.Shelf.Strconv.Itoa0
import Derived.Ground.Names2Prog
import Derived.Shelf.Slices.Clone
import Derived.Shelf.Slices.SearchI
import Derived.Ground.SlgnProg
import Derived.Shelf.SlicesE.Clone
import Derived.Test.YteaaapdjplbljaaProg
set_option linter.unusedVariables false
set_option linter.unusedSimpArgs false
set_option linter.unnecessarySimpa false
namespace Go.Proofs
open Go.Shelf
def Try.lays125_ren:Go.Shelf.Ren:=⟨fun|125=>46|128=>71|129=>72|n=>n,fun|46=>63|3=>3|51=>101|53=>35|4=>4|5=>5|9=>9|n=>n,fun|n=>n⟩
theorem Try.lays125:Go.Proofs.Lays.n125 Try.prog Try.lays125_ren:={
 mixed:=by kernel_rfl
 f125:=Try.func46.trans (congrArg some (by kernel_rfl))
 f128:=Try.func71.trans (congrArg some (by kernel_rfl))
 f129:=Try.func72.trans (congrArg some (by kernel_rfl))
 t3:=Try.underlying3
 a3:=Try.isAgg3
 z3:=Try.sizeOf3
 v3:=Try.zeroValue3
 t4:=Try.underlying4
 a4:=Try.isAgg4
 z4:=Try.sizeOf4
 v4:=Try.zeroValue4
 t5:=Try.underlying5
 a5:=Try.isAgg5
 z5:=Try.sizeOf5
 v5:=Try.zeroValue5
 t9:=Try.underlying9
 a9:=Try.isAgg9
 z9:=Try.sizeOf9
 v9:=Try.zeroValue9
 t46:=Try.underlying63
 a46:=Try.isAgg63
 z46:=Try.sizeOf63
 v46:=Try.zeroValue63
 t51:=Try.underlying101
 a51:=Try.isAgg101
 z51:=Try.sizeOf101
 v51:=Try.zeroValue101
 t53:=Try.underlying35
 a53:=Try.isAgg35
 z53:=Try.sizeOf35
 v53:=Try.zeroValue35 }
theorem Try.bits_Len (x:Int) (w:World) (h0:0≤x) (h1:x≤18446744073709551615):
  Calls Try.prog 46 #[.int .u64 x] w fun e w'=>e=.returned (.int .i64 (Lib.bitLen x.toNat))∧w'=w:=Any.bits_Len Try.lays125 x w h0 h1
end Go.Proofs
