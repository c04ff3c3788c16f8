import Derived.Test.YtncoiadeipbonaaGreatZ9
import Derived.OpenShut
namespace Go.Proofs.YtncoiadeipbonaaGreat.Ab
set_option linter.unusedVariables false
set_option linter.unusedSimpArgs false
section
open Go.ChangeShapes
section
variable {H:Type} {enc:TypeId × Value→H} {P:Program} {W:World} {base:Nat} {sp:Nat→Bool} {held:Bool} {b0:Nat} {r:Reach}
end
theorem ZbV {z:Int} (h:(Lit.int .u8 z).wf=true):0≤z∧z≤255:=by
 simpa [Lit.wf,IntKind.min,IntKind.max,IntKind.signed,IntKind.bits] using h
theorem Zt9 {z:Int} (h:(Lit.int .i8 z).wf=true) : -128≤z∧z≤127:=by
 simpa [Lit.wf,IntKind.min,IntKind.max,IntKind.signed,IntKind.bits] using h
theorem ZkB {z:Int} (h:(Lit.int .u16 z).wf=true):0≤z∧z≤65535:=by
 simpa [Lit.wf,IntKind.min,IntKind.max,IntKind.signed,IntKind.bits] using h
theorem Zez {z:Int} (h:(Lit.int .i16 z).wf=true) : -32768≤z∧z≤32767:=by
 simpa [Lit.wf,IntKind.min,IntKind.max,IntKind.signed,IntKind.bits] using h
theorem ZvM {z:Int} (h:(Lit.int .u32 z).wf=true):0≤z∧z≤4294967295:=by
 simpa [Lit.wf,IntKind.min,IntKind.max,IntKind.signed,IntKind.bits] using h
end
end Go.Proofs.YtncoiadeipbonaaGreat.Ab
