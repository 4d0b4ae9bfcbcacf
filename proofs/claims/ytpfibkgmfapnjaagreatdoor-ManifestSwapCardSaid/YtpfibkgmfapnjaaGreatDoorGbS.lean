/- DERIVED: THE SHELF's CONTRACTS AT THIS DUMP, IN PLAIN WORDS (tools/lay-plain.mjs out of 'YtpfibkgmfapnjaaGreatDoorGen20.lean', which tools/lay-shelf.mjs wrote): THE SAME DECLARATIONS UNDER THE SAME NAMES: 'import', 'namespace', 'open', 'def', 'theorem' AND NOTHING ELSE: no command of the shelf's: FOR A HAND-IN. Each laying: the table of numbers ('.._ren') and one theorem, a field a fact of the dump's own or the kernel's comparison; each contract: ONE APPLICATION. -/
import Derived.Shelf.SlGeneric
import Derived.Shelf.SlMaps.Clone
import Derived.Ground.SlmcProg
import Derived.Test.YtpfibkgmfapnjaaGreatDoorProg
namespace Go.Proofs
open Go.Shelf
def Tryz.gl_clone_ren:Go.Shelf.Ren:=⟨fun|5=>139|7=>219|n=>n,fun|23=>80|25=>9|3=>113|4=>4|20=>20|n=>n,fun|n=>n⟩
theorem Tryz.gl_clone:Go.Proofs.SlLaysW.n5 Tryz.prog Tryz.gl_clone_ren:={
 mixed:=by kernel_rfl
 f5:=⟨Tryz.f139.name,by decide,Tryz.func139.trans (congrArg some (by kernel_rfl))⟩
 f7:=Tryz.func219.trans (congrArg some (by kernel_rfl))
 t4:=Tryz.underlying4
 a4:=Tryz.isAgg4
 z4:=Tryz.sizeOf4
 v4:=Tryz.zeroValue4
 t20:=Tryz.underlying20
 a20:=Tryz.isAgg20
 z20:=Tryz.sizeOf20
 v20:=Tryz.zeroValue20
 t23:=Tryz.underlying80
 a23:=Tryz.isAgg80
 z23:=Tryz.sizeOf80
 v23:=Tryz.zeroValue80}
end Go.Proofs
