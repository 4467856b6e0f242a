/-
  Lemmas for the statement: dERIVED: THE SHELF's CONTRACTS AT THIS DUMP, IN PLAIN WORDS (tools/lay-plain.mjs out of 'TryzShelf.lean', which tools/lay-shelf.mjs wrote): THE SAME DECLARATIONS UNDER THE SAME NAMES: 'import', 'namespace', 'open', 'def', 'theorem' AND NOTHING ELSE: no command of the shelf's: FOR A HAND-IN. No condition.
-/
import Derived.Shelf.GgClosure.StringsRunes
import Derived.Shelf.Slices.In.SortNone
import Derived.Shelf.SlicesE.Clone
import Derived.Shelf.Small.Strs
import Derived.Shelf.Small.Wraps
import Derived.Shelf.Sort.Plain
import Derived.Shelf.Strings.BuilderCap
import Derived.Shelf.Strings.Fields
import Derived.Shelf.Strings.FuncGrows
import Derived.Shelf.Strings.OnBuilder
import Derived.Shelf.Strings.Shaped
import Derived.Shelf.Unicode.ExclAny
import Derived.Test.YtakgjcfkdemipaaGreatDoorProg
namespace Go.Proofs
open Go.Shelf
def Tryz.oW:Go.Shelf.Ren:=⟨λ|156=>165|165=>228|166=>229|169=>230|240=>262|241=>263|276=>276|277=>277|n=>n,λ|31=>34|9=>9|3=>3|4=>4|0=>0|20=>20|72=>232|76=>236|70=>229|37=>230|75=>235|127=>263|164=>272|5=>5|80=>189|n=>n,λ|n=>n⟩
theorem Tryz.Be:Go.Proofs.Lays.n156 Tryz.prog Tryz.oW:={
 mixed:=by kernel_rfl
 f156:=Tryz.func165.trans (congrArg some (by kernel_rfl))
 f165:=Tryz.func228.trans (congrArg some (by kernel_rfl))
 f166:=Tryz.func229.trans (congrArg some (by kernel_rfl))
 f169:=Tryz.func230.trans (congrArg some (by kernel_rfl))
 f240:=Tryz.func262.trans (congrArg some (by kernel_rfl))
 f241:=Tryz.func263.trans (congrArg some (by kernel_rfl))
 f276:=Tryz.func276.trans (congrArg some (by kernel_rfl))
 f277:=Tryz.func277.trans (congrArg some (by kernel_rfl))
 t0:=Tryz.underlying0
 a0:=Tryz.isAgg0
 z0:=Tryz.sizeOf0
 v0:=Tryz.zeroValue0
 t3:=Tryz.underlying3
 a3:=Tryz.isAgg3
 z3:=Tryz.sizeOf3
 v3:=Tryz.zeroValue3
 t4:=Tryz.underlying4
 a4:=Tryz.isAgg4
 z4:=Tryz.sizeOf4
 v4:=Tryz.zeroValue4
 t9:=Tryz.underlying9
 a9:=Tryz.isAgg9
 z9:=Tryz.sizeOf9
 v9:=Tryz.zeroValue9
 t20:=Tryz.underlying20
 a20:=Tryz.isAgg20
 z20:=Tryz.sizeOf20
 v20:=Tryz.zeroValue20
 t31:=Tryz.underlying34
 a31:=Tryz.isAgg34
 z31:=Tryz.sizeOf34
 v31:=Tryz.zeroValue34
 t37:=Tryz.underlying230
 a37:=Tryz.isAgg230
 z37:=Tryz.sizeOf230
 v37:=Tryz.zeroValue230
 t70:=Tryz.underlying229
 a70:=Tryz.isAgg229
 z70:=Tryz.sizeOf229
 v70:=Tryz.zeroValue229
 t72:=Tryz.underlying232
 a72:=Tryz.isAgg232
 z72:=Tryz.sizeOf232
 v72:=Tryz.zeroValue232
 t75:=Tryz.underlying235
 a75:=Tryz.isAgg235
 z75:=Tryz.sizeOf235
 v75:=Tryz.zeroValue235
 t76:=Tryz.underlying236
 a76:=Tryz.isAgg236
 z76:=Tryz.sizeOf236
 v76:=Tryz.zeroValue236
 t127:=Tryz.underlying263
 a127:=Tryz.isAgg263
 z127:=Tryz.sizeOf263
 v127:=Tryz.zeroValue263
 t164:=Tryz.underlying272
 a164:=Tryz.isAgg272
 z164:=Tryz.sizeOf272
 v164:=Tryz.zeroValue272 }
theorem Tryz.jf:Builder.Extra Tryz.prog Tryz.oW:={
 sizeBuilder:=by kernel_rfl
 liesBuilder:=by kernel_rfl
 t5:=Tryz.underlying5
 a5:=Tryz.isAgg5
 z5:=Tryz.sizeOf5
 v5:=Tryz.zeroValue5
 infoByte:=by kernel_rfl
 cellsByte:=by kernel_rfl
 sizeByte:=by kernel_rfl
 neB5:=by decide }
open Go.RowKit in
theorem Tryz.strings_Join_none (a:Option Addr) (c:Nat) (sep:ByteArray) (w:World):
 Calls Tryz.prog 165 #[.slice a 0 c,.string sep] w λe w'=>e=.returned (.string ⟨#[]⟩)∧w'=w:=Any.strings_Join_none Tryz.Be Tryz.jf a c sep w
open Go.RowKit in
theorem Tryz.strings_Join (bk o c:Nat) (xs:List ByteArray) (sep:ByteArray) (w:World) (hcells:∀(j:Nat) x,xs[j]? =some x→w.cell? ⟨bk,o+j,none⟩=some (.string x)) (hbk:bk<w.heap.size) (hN:xs.length≤140737488355328) (hcap:xs.length≤c) (hlen:(Lib.join (xs.map (·.data.toList)) sep.data.toList).length≤140737488355328):
 Calls Tryz.prog 165 #[.slice (some ⟨bk,o,none⟩) xs.length c,.string sep] w λe w'=>e=.returned (.string ⟨(Lib.join (xs.map (·.data.toList)) sep.data.toList).toArray⟩)∧Below w.heap.size w w':=Any.strings_Join Tryz.Be Tryz.jf bk o c xs sep w hcells hbk hN hcap hlen
def Tryz.xG:Go.Shelf.Ren:=⟨λ|106=>67|213=>126|265=>198|n=>n,λ|9=>9|3=>3|n=>n,λ|n=>n⟩
theorem Tryz.Gd:Go.Proofs.Lays.n106 Tryz.prog Tryz.xG:={
 mixed:=by kernel_rfl
 f106:=Tryz.func67.trans (congrArg some (by kernel_rfl))
 f213:=Tryz.func126.trans (congrArg some (by kernel_rfl))
 f265:=Tryz.func198.trans (congrArg some (by kernel_rfl))
 t3:=Tryz.underlying3
 a3:=Tryz.isAgg3
 z3:=Tryz.sizeOf3
 v3:=Tryz.zeroValue3
 t9:=Tryz.underlying9
 a9:=Tryz.isAgg9
 z9:=Tryz.sizeOf9
 v9:=Tryz.zeroValue9 }
open Go.RowKit in
theorem Tryz.strings_Compare (a b:ByteArray) (w:World):
 Calls Tryz.prog 67 #[.string a,.string b] w λe w'=>e=.returned (.int .i64 (Lib.compareBytes a.data.toList b.data.toList))∧w'=w:=Any.strings_Compare Tryz.Gd a b w
def Tryz.xF:Go.Shelf.Ren:=⟨λ|103=>274|210=>285|206=>288|n=>n,λ|9=>9|4=>4|24=>108|3=>3|n=>n,λ|n=>n⟩
theorem Tryz.Gc:Go.Proofs.Lays.n103 Tryz.prog Tryz.xF:={
 mixed:=by kernel_rfl
 f103:=Tryz.func274.trans (congrArg some (by kernel_rfl))
 f206:=Tryz.func288.trans (congrArg some (by kernel_rfl))
 f210:=Tryz.func285.trans (congrArg some (by kernel_rfl))
 t3:=Tryz.underlying3
 a3:=Tryz.isAgg3
 z3:=Tryz.sizeOf3
 v3:=Tryz.zeroValue3
 t4:=Tryz.underlying4
 a4:=Tryz.isAgg4
 z4:=Tryz.sizeOf4
 v4:=Tryz.zeroValue4
 t9:=Tryz.underlying9
 a9:=Tryz.isAgg9
 z9:=Tryz.sizeOf9
 v9:=Tryz.zeroValue9
 t24:=Tryz.underlying108
 a24:=Tryz.isAgg108
 z24:=Tryz.sizeOf108
 v24:=Tryz.zeroValue108 }
open Go.RowKit in
theorem Tryz.strings_CutPrefix (s p:ByteArray) (w:World):
 Calls Tryz.prog 274 #[.string s,.string p] w λe w'=>e=.returned (.tuple #[.string ⟨(Lib.trimPrefix s.data.toList p.data.toList).toArray⟩,.bool (Lib.hasPrefix s.data.toList p.data.toList)])∧w'=w:=Any.strings_CutPrefix Tryz.Gc s p w
open Go.RowKit in
def Tryz.xI:Go.Shelf.Ren:=⟨λ|190=>102|125=>125|258=>161|128=>196|129=>197|302=>219|303=>220|304=>221|305=>222|306=>223|307=>224|308=>225|309=>226|310=>227|333=>258|329=>244|330=>245|334=>259|335=>260|336=>261|344=>275|n=>n,λ|31=>34|9=>9|3=>3|46=>56|0=>0|51=>207|53=>209|4=>4|183=>200|182=>199|131=>204|5=>5|218=>243|222=>247|228=>268|229=>159|n=>n,λ|n=>n⟩
theorem Tryz.Bf:Go.Proofs.Lays.n190 Tryz.prog Tryz.xI:={
 mixed:=by kernel_rfl
 f125:=Tryz.func125.trans (congrArg some (by kernel_rfl))
 f128:=Tryz.func196.trans (congrArg some (by kernel_rfl))
 f129:=Tryz.func197.trans (congrArg some (by kernel_rfl))
 f190:=Tryz.func102.trans (congrArg some (by kernel_rfl))
 f258:=Tryz.func161.trans (congrArg some (by kernel_rfl))
 f302:=Tryz.func219.trans (congrArg some (by kernel_rfl))
 f303:=Tryz.func220.trans (congrArg some (by kernel_rfl))
 f304:=Tryz.func221.trans (congrArg some (by kernel_rfl))
 f305:=Tryz.func222.trans (congrArg some (by kernel_rfl))
 f306:=Tryz.func223.trans (congrArg some (by kernel_rfl))
 f307:=Tryz.func224.trans (congrArg some (by kernel_rfl))
 f308:=Tryz.func225.trans (congrArg some (by kernel_rfl))
 f309:=Tryz.func226.trans (congrArg some (by kernel_rfl))
 f310:=Tryz.func227.trans (congrArg some (by kernel_rfl))
 f329:=Tryz.func244.trans (congrArg some (by kernel_rfl))
 f330:=Tryz.func245.trans (congrArg some (by kernel_rfl))
 f333:=Tryz.func258.trans (congrArg some (by kernel_rfl))
 f334:=Tryz.func259.trans (congrArg some (by kernel_rfl))
 f335:=Tryz.func260.trans (congrArg some (by kernel_rfl))
 f336:=Tryz.func261.trans (congrArg some (by kernel_rfl))
 f344:=Tryz.func275.trans (congrArg some (by kernel_rfl))
 t0:=Tryz.underlying0
 a0:=Tryz.isAgg0
 z0:=Tryz.sizeOf0
 v0:=Tryz.zeroValue0
 t3:=Tryz.underlying3
 a3:=Tryz.isAgg3
 z3:=Tryz.sizeOf3
 v3:=Tryz.zeroValue3
 t4:=Tryz.underlying4
 a4:=Tryz.isAgg4
 z4:=Tryz.sizeOf4
 v4:=Tryz.zeroValue4
 t5:=Tryz.underlying5
 a5:=Tryz.isAgg5
 z5:=Tryz.sizeOf5
 v5:=Tryz.zeroValue5
 t9:=Tryz.underlying9
 a9:=Tryz.isAgg9
 z9:=Tryz.sizeOf9
 v9:=Tryz.zeroValue9
 t31:=Tryz.underlying34
 a31:=Tryz.isAgg34
 z31:=Tryz.sizeOf34
 v31:=Tryz.zeroValue34
 t46:=Tryz.underlying56
 a46:=Tryz.isAgg56
 z46:=Tryz.sizeOf56
 v46:=Tryz.zeroValue56
 t51:=Tryz.underlying207
 a51:=Tryz.isAgg207
 z51:=Tryz.sizeOf207
 v51:=Tryz.zeroValue207
 t53:=Tryz.underlying209
 a53:=Tryz.isAgg209
 z53:=Tryz.sizeOf209
 v53:=Tryz.zeroValue209
 t131:=Tryz.underlying204
 a131:=Tryz.isAgg204
 z131:=Tryz.sizeOf204
 v131:=Tryz.zeroValue204
 t182:=Tryz.underlying199
 a182:=Tryz.isAgg199
 z182:=Tryz.sizeOf199
 v182:=Tryz.zeroValue199
 t183:=Tryz.underlying200
 a183:=Tryz.isAgg200
 z183:=Tryz.sizeOf200
 v183:=Tryz.zeroValue200
 t218:=Tryz.underlying243
 a218:=Tryz.isAgg243
 z218:=Tryz.sizeOf243
 v218:=Tryz.zeroValue243
 t222:=Tryz.underlying247
 a222:=Tryz.isAgg247
 z222:=Tryz.sizeOf247
 v222:=Tryz.zeroValue247
 t228:=Tryz.underlying268
 a228:=Tryz.isAgg268
 z228:=Tryz.sizeOf268
 v228:=Tryz.zeroValue268
 t229:=Tryz.underlying159
 a229:=Tryz.isAgg159
 z229:=Tryz.sizeOf159
 v229:=Tryz.zeroValue159 }
open Go.Sort Go.RowKit in
theorem Tryz.slices_Sort_string (blk off cap:Nat) (ss:List (List UInt8)) (w:World) (hH:Holds encStr w blk off ss.toArray) (hblk:blk<w.heap.size) (hsz:ss.length<4611686018427387904):
 Calls Tryz.prog 102 #[.slice (some ⟨blk,off,none⟩) ss.length cap] w λe w'=>
  e=.returned (.tuple #[])∧∃n os,w'=grow (putRow encStr (Sort.ahead w n) blk off (ss.mergeSort λx y=>decide (x≤y)).toArray) os:=Any.slices_Sort_string Tryz.Bf blk off cap ss w hH hblk hsz
def Tryz.vh:Go.Shelf.Ren:=⟨λ|15=>145|20=>206|n=>n,λ|9=>9|23=>165|3=>3|4=>4|0=>0|21=>21|n=>n,λ|n=>n⟩
theorem Tryz.Ek:Go.Proofs.LaysGw.n15 Tryz.prog Tryz.vh:={
 mixed:=by kernel_rfl
 f15:=Tryz.func145.trans (congrArg some (by kernel_rfl))
 f20:=Tryz.func206.trans (congrArg some (by kernel_rfl))
 t0:=Tryz.underlying0
 a0:=Tryz.isAgg0
 z0:=Tryz.sizeOf0
 v0:=Tryz.zeroValue0
 i0:=by kernel_rfl
 t3:=Tryz.underlying3
 a3:=Tryz.isAgg3
 z3:=Tryz.sizeOf3
 v3:=Tryz.zeroValue3
 i3:=by kernel_rfl
 t4:=Tryz.underlying4
 a4:=Tryz.isAgg4
 z4:=Tryz.sizeOf4
 v4:=Tryz.zeroValue4
 i4:=by kernel_rfl
 t9:=Tryz.underlying9
 a9:=Tryz.isAgg9
 z9:=Tryz.sizeOf9
 v9:=Tryz.zeroValue9
 i9:=by kernel_rfl
 t21:=Tryz.underlying21
 a21:=Tryz.isAgg21
 z21:=Tryz.sizeOf21
 v21:=Tryz.zeroValue21
 i21:=by kernel_rfl
 t23:=Tryz.underlying165
 a23:=Tryz.isAgg165
 z23:=Tryz.sizeOf165
 v23:=Tryz.zeroValue165
 i23:=by kernel_rfl }
open Go.RowKit Go.Lib in
theorem Tryz.strings_IndexFunc (g:Nat) (lb:Array Value) (eg:∀args w,(callFunc g args).run Tryz.prog w=.ok (.enter g args) w) (p:Nat→Bool) (s:ByteArray) (w:World) (hp:PredAt Tryz.prog g lb encR p w):
 Calls Tryz.prog 145 #[.string s,.func (.func g) #[] lb] w λe w'=>e=.returned (.int .i64 (Lib.idxFunc p true s))∧Below w.heap.size w w':=Any.strings_IndexFunc Tryz.Ek g lb eg p s w hp
open Go.RowKit Go.Lib in
def Tryz.xH:Go.Shelf.Ren:=⟨λ|157=>273|229=>283|199=>284|261=>287|311=>289|312=>290|n=>n,λ|9=>9|31=>34|3=>3|5=>5|4=>4|119=>279|0=>0|40=>165|152=>281|21=>21|154=>283|51=>207|141=>285|196=>292|193=>289|198=>295|49=>293|194=>290|201=>298|226=>300|46=>56|227=>301|n=>n,λ|0=>1|6=>2|n=>n⟩
theorem Tryz.Ge:Go.Proofs.Lays.n157 Tryz.prog Tryz.xH:={
 mixed:=by kernel_rfl
 f157:=Tryz.func273.trans (congrArg some (by kernel_rfl))
 f199:=Tryz.func284.trans (congrArg some (by kernel_rfl))
 f229:=Tryz.func283.trans (congrArg some (by kernel_rfl))
 f261:=Tryz.func287.trans (congrArg some (by kernel_rfl))
 f311:=Tryz.func289.trans (congrArg some (by kernel_rfl))
 f312:=Tryz.func290.trans (congrArg some (by kernel_rfl))
 t0:=Tryz.underlying0
 a0:=Tryz.isAgg0
 z0:=Tryz.sizeOf0
 v0:=Tryz.zeroValue0
 t3:=Tryz.underlying3
 a3:=Tryz.isAgg3
 z3:=Tryz.sizeOf3
 v3:=Tryz.zeroValue3
 t4:=Tryz.underlying4
 a4:=Tryz.isAgg4
 z4:=Tryz.sizeOf4
 v4:=Tryz.zeroValue4
 t5:=Tryz.underlying5
 a5:=Tryz.isAgg5
 z5:=Tryz.sizeOf5
 v5:=Tryz.zeroValue5
 t9:=Tryz.underlying9
 a9:=Tryz.isAgg9
 z9:=Tryz.sizeOf9
 v9:=Tryz.zeroValue9
 t21:=Tryz.underlying21
 a21:=Tryz.isAgg21
 z21:=Tryz.sizeOf21
 v21:=Tryz.zeroValue21
 t31:=Tryz.underlying34
 a31:=Tryz.isAgg34
 z31:=Tryz.sizeOf34
 v31:=Tryz.zeroValue34
 t40:=Tryz.underlying165
 a40:=Tryz.isAgg165
 z40:=Tryz.sizeOf165
 v40:=Tryz.zeroValue165
 t46:=Tryz.underlying56
 a46:=Tryz.isAgg56
 z46:=Tryz.sizeOf56
 v46:=Tryz.zeroValue56
 t49:=Tryz.underlying293
 a49:=Tryz.isAgg293
 z49:=Tryz.sizeOf293
 v49:=Tryz.zeroValue293
 t51:=Tryz.underlying207
 a51:=Tryz.isAgg207
 z51:=Tryz.sizeOf207
 v51:=Tryz.zeroValue207
 t119:=Tryz.underlying279
 a119:=Tryz.isAgg279
 z119:=Tryz.sizeOf279
 t141:=Tryz.underlying285
 a141:=Tryz.isAgg285
 z141:=Tryz.sizeOf285
 v141:=Tryz.zeroValue285
 t152:=Tryz.underlying281
 a152:=Tryz.isAgg281
 z152:=Tryz.sizeOf281
 v152:=Tryz.zeroValue281
 t154:=Tryz.underlying283
 a154:=Tryz.isAgg283
 z154:=Tryz.sizeOf283
 v154:=Tryz.zeroValue283
 t193:=Tryz.underlying289
 a193:=Tryz.isAgg289
 z193:=Tryz.sizeOf289
 v193:=Tryz.zeroValue289
 t194:=Tryz.underlying290
 a194:=Tryz.isAgg290
 z194:=Tryz.sizeOf290
 v194:=Tryz.zeroValue290
 t196:=Tryz.underlying292
 a196:=Tryz.isAgg292
 z196:=Tryz.sizeOf292
 v196:=Tryz.zeroValue292
 t198:=Tryz.underlying295
 a198:=Tryz.isAgg295
 z198:=Tryz.sizeOf295
 v198:=Tryz.zeroValue295
 t201:=Tryz.underlying298
 a201:=Tryz.isAgg298
 z201:=Tryz.sizeOf298
 v201:=Tryz.zeroValue298
 t226:=Tryz.underlying300
 a226:=Tryz.isAgg300
 z226:=Tryz.sizeOf300
 v226:=Tryz.zeroValue300
 t227:=Tryz.underlying301
 a227:=Tryz.isAgg301
 z227:=Tryz.sizeOf301
 v227:=Tryz.zeroValue301
 g0:=by kernel_rfl
 g6:=by kernel_rfl }
open Go.RowKit Go.Lib in
theorem Tryz.strings_Fields (s:ByteArray) (w:World) (hs:s.size<4294967281) (hascii:∀(j:Nat) b,s.data.toList[j]? =some b→b.toNat<128) (htab:Lib.TabIs Tryz.prog w "strings.asciiSpace" .u8 Lib.asciiSpaceTab):
 Calls Tryz.prog 273 #[.string s] w λe w'=>
  e=.returned (.slice (some ⟨w.heap.size,0,none⟩) (Lib.fields s.data.toList).length (Lib.fields s.data.toList).length)∧w'=w.alloc (.cells ((Lib.fields s.data.toList).map λl=>Value.string ⟨l.toArray⟩).toArray 9):=Any.strings_Fields Tryz.Ge (by kernel_rfl) (by kernel_rfl) s w hs hascii htab
open Go.RowKit Go.Sort in
theorem Tryz.slices_Sort_string_none (p:Option Addr) (cap:Nat) (w:World):
 Calls Tryz.prog 102 #[.slice p 0 cap] w λe w'=>e=.returned (.tuple #[])∧w'=w:=Any.slices_Sort_string_none Tryz.Bf p cap w
end Go.Proofs
