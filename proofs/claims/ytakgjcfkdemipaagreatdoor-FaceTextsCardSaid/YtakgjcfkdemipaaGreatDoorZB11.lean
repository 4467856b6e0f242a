/-
  Lemmas for the statement: dERIVED: THE SHELF's CONTRACTS AT THIS DUMP, IN PLAIN WORDS (tools/lay-plain.mjs out of 'TryzShelf.lean', which tools/lay-shelf.mjs wrote): THE SAME DECLARATIONS UNDER THE SAME NAMES: 'import', 'namespace', 'open', 'def', 'theorem' AND NOTHING ELSE: no command of the shelf's: FOR A HAND-IN. No condition.
-/
import Derived.Shelf.SlIter.Nil
import Derived.Test.YtakgjcfkdemipaaGreatDoorProg
namespace Go.Proofs
open Go.Shelf
def Tryz.tV:Go.Shelf.Ren:=⟨λ|7=>160|10=>218|n=>n,λ|23=>112|26=>9|3=>4|28=>180|0=>0|27=>131|33=>105|4=>4|n=>n,λ|n=>n⟩
theorem Tryz.Hg:Go.Proofs.SlLaysZ.n7 Tryz.prog Tryz.tV:={
 mixed:=by kernel_rfl
 f7:=⟨Tryz.f160.name,by decide,Tryz.func160.trans (congrArg some (by kernel_rfl))⟩
 f10:=⟨Tryz.f218.name,by decide,Tryz.func218.trans (congrArg some (by kernel_rfl))⟩
 t0:=Tryz.underlying0
 a0:=Tryz.isAgg0
 z0:=Tryz.sizeOf0
 v0:=Tryz.zeroValue0
 t4:=Tryz.underlying4
 a4:=Tryz.isAgg4
 z4:=Tryz.sizeOf4
 v4:=Tryz.zeroValue4
 t23:=Tryz.underlying112
 a23:=Tryz.isAgg112
 z23:=Tryz.sizeOf112
 v23:=Tryz.zeroValue112
 t26:=Tryz.underlying9
 a26:=Tryz.isAgg9
 z26:=Tryz.sizeOf9
 v26:=Tryz.zeroValue9
 t27:=Tryz.underlying131
 a27:=Tryz.isAgg131
 z27:=Tryz.sizeOf131
 v27:=Tryz.zeroValue131
 t28:=Tryz.underlying180
 a28:=Tryz.isAgg180
 z28:=Tryz.sizeOf180
 v28:=Tryz.zeroValue180
 t33:=Tryz.underlying105
 a33:=Tryz.isAgg105
 z33:=Tryz.sizeOf105
 v33:=Tryz.zeroValue105 }
def Tryz.pM:Go.Shelf.Ren:=⟨λ|6=>159|8=>217|9=>102|11=>257|13=>125|12=>161|23=>196|24=>197|14=>219|15=>220|16=>221|17=>222|18=>223|19=>224|20=>225|21=>226|22=>227|25=>258|26=>244|27=>245|28=>259|29=>260|30=>261|31=>275|n=>n,λ|26=>9|28=>180|24=>34|0=>0|3=>3|37=>56|48=>207|50=>209|4=>4|40=>200|39=>199|45=>204|5=>5|9=>9|51=>243|55=>247|57=>268|58=>159|33=>105|n=>n,λ|n=>n⟩
theorem Tryz.Gv:Go.Proofs.SlLaysZ.n6 Tryz.prog Tryz.pM:={
 mixed:=by kernel_rfl
 f6:=⟨Tryz.f159.name,by decide,Tryz.func159.trans (congrArg some (by kernel_rfl))⟩
 f8:=⟨Tryz.f217.name,by decide,Tryz.func217.trans (congrArg some (by kernel_rfl))⟩
 f11:=⟨Tryz.f257.name,by decide,Tryz.func257.trans (congrArg some (by kernel_rfl))⟩
 t0:=Tryz.underlying0
 a0:=Tryz.isAgg0
 z0:=Tryz.sizeOf0
 v0:=Tryz.zeroValue0
 t24:=Tryz.underlying34
 a24:=Tryz.isAgg34
 z24:=Tryz.sizeOf34
 v24:=Tryz.zeroValue34
 t26:=Tryz.underlying9
 a26:=Tryz.isAgg9
 z26:=Tryz.sizeOf9
 v26:=Tryz.zeroValue9
 t28:=Tryz.underlying180
 a28:=Tryz.isAgg180
 z28:=Tryz.sizeOf180
 v28:=Tryz.zeroValue180
 i26:=by kernel_rfl }
end Go.Proofs
