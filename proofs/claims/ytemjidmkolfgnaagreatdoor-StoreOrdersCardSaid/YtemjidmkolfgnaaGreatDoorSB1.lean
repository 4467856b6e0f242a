/-
  Lemmas for the statement: dERIVED: THE SHELF's CONTRACTS AT THIS DUMP, IN PLAIN WORDS (tools/lay-plain.mjs out of 'TryzShelf.lean', which tools/lay-shelf.mjs wrote): THE SAME DECLARATIONS UNDER THE SAME NAMES: 'import', 'namespace', 'open', 'def', 'theorem' AND NOTHING ELSE: no command of the shelf's: FOR A HAND-IN. No condition.
-/
import Derived.Shelf.GgClosure.StringsRunes
import Derived.Shelf.Slices.Cells
import Derived.Shelf.Slices.Clone
import Derived.Shelf.Slices.Empties
import Derived.Shelf.Slices.Empties2
import Derived.Shelf.Slices.In.SortNone
import Derived.Shelf.Slices.Turned
import Derived.Shelf.SlicesE.Clone
import Derived.Shelf.SlicesE.Delete
import Derived.Shelf.Small.Wraps
import Derived.Shelf.Sort.Plain
import Derived.Shelf.Strings.BuilderCap
import Derived.Shelf.Strings.Explode
import Derived.Shelf.Strings.FuncGrows
import Derived.Shelf.Strings.OnBuilder
import Derived.Shelf.Strings.Shaped
import Derived.Shelf.Strings.SplitShaped
import Derived.Shelf.Unicode.ExclAny
import Derived.Shelf.Unicode.Is16WhiteD
import Derived.Shelf.Utf8.RuneCount
import Derived.Test.YtemjidmkolfgnaaGreatDoorProg
namespace Go.Proofs
open Go.Shelf
def Tryz.oA:Go.Shelf.Ren:=⟨λ|156=>63|165=>110|166=>111|169=>112|240=>147|241=>148|276=>179|277=>180|n=>n,λ|31=>31|9=>9|3=>3|4=>4|0=>0|20=>20|72=>185|76=>189|70=>183|37=>38|75=>188|127=>229|164=>251|5=>5|80=>191|n=>n,λ|n=>n⟩
theorem Tryz.Al:Go.Proofs.Lays.n156 Tryz.prog Tryz.oA:={
 mixed:=by kernel_rfl
 f156:=Tryz.func63.trans (congrArg some (by kernel_rfl))
 f165:=Tryz.func110.trans (congrArg some (by kernel_rfl))
 f166:=Tryz.func111.trans (congrArg some (by kernel_rfl))
 f169:=Tryz.func112.trans (congrArg some (by kernel_rfl))
 f240:=Tryz.func147.trans (congrArg some (by kernel_rfl))
 f241:=Tryz.func148.trans (congrArg some (by kernel_rfl))
 f276:=Tryz.func179.trans (congrArg some (by kernel_rfl))
 f277:=Tryz.func180.trans (congrArg some (by kernel_rfl))
 t0:=Tryz.underlying0
 a0:=Tryz.isAgg0
 z0:=Tryz.sizeOf0
 v0:=Tryz.zeroValue0
 t3:=Tryz.underlying3
 a3:=Tryz.isAgg3
 z3:=Tryz.sizeOf3
 v3:=Tryz.zeroValue3
 t4:=Tryz.underlying4
 a4:=Tryz.isAgg4
 z4:=Tryz.sizeOf4
 v4:=Tryz.zeroValue4
 t9:=Tryz.underlying9
 a9:=Tryz.isAgg9
 z9:=Tryz.sizeOf9
 v9:=Tryz.zeroValue9
 t20:=Tryz.underlying20
 a20:=Tryz.isAgg20
 z20:=Tryz.sizeOf20
 v20:=Tryz.zeroValue20
 t31:=Tryz.underlying31
 a31:=Tryz.isAgg31
 z31:=Tryz.sizeOf31
 v31:=Tryz.zeroValue31
 t37:=Tryz.underlying38
 a37:=Tryz.isAgg38
 z37:=Tryz.sizeOf38
 v37:=Tryz.zeroValue38
 t70:=Tryz.underlying183
 a70:=Tryz.isAgg183
 z70:=Tryz.sizeOf183
 v70:=Tryz.zeroValue183
 t72:=Tryz.underlying185
 a72:=Tryz.isAgg185
 z72:=Tryz.sizeOf185
 v72:=Tryz.zeroValue185
 t75:=Tryz.underlying188
 a75:=Tryz.isAgg188
 z75:=Tryz.sizeOf188
 v75:=Tryz.zeroValue188
 t76:=Tryz.underlying189
 a76:=Tryz.isAgg189
 z76:=Tryz.sizeOf189
 v76:=Tryz.zeroValue189
 t127:=Tryz.underlying229
 a127:=Tryz.isAgg229
 z127:=Tryz.sizeOf229
 v127:=Tryz.zeroValue229
 t164:=Tryz.underlying251
 a164:=Tryz.isAgg251
 z164:=Tryz.sizeOf251
 v164:=Tryz.zeroValue251 }
theorem Tryz.gR:Builder.Extra Tryz.prog Tryz.oA:={
 sizeBuilder:=by kernel_rfl
 liesBuilder:=by kernel_rfl
 t5:=Tryz.underlying5
 a5:=Tryz.isAgg5
 z5:=Tryz.sizeOf5
 v5:=Tryz.zeroValue5
 infoByte:=by kernel_rfl
 cellsByte:=by kernel_rfl
 sizeByte:=by kernel_rfl
 neB5:=by decide }
open Go.RowKit in
theorem Tryz.strings_Join_none (a:Option Addr) (c:Nat) (sep:ByteArray) (w:World):
 Calls Tryz.prog 63 #[.slice a 0 c,.string sep] w λe w'=>e=.returned (.string ⟨#[]⟩)∧w'=w:=Any.strings_Join_none Tryz.Al Tryz.gR a c sep w
open Go.RowKit in
theorem Tryz.strings_Join (bk o c:Nat) (xs:List ByteArray) (sep:ByteArray) (w:World) (hcells:∀(j:Nat) x,xs[j]? =some x→w.cell? ⟨bk,o+j,none⟩=some (.string x)) (hbk:bk<w.heap.size) (hN:xs.length≤140737488355328) (hcap:xs.length≤c) (hlen:(Lib.join (xs.map (·.data.toList)) sep.data.toList).length≤140737488355328):
 Calls Tryz.prog 63 #[.slice (some ⟨bk,o,none⟩) xs.length c,.string sep] w λe w'=>e=.returned (.string ⟨(Lib.join (xs.map (·.data.toList)) sep.data.toList).toArray⟩)∧Below w.heap.size w w':=Any.strings_Join Tryz.Al Tryz.gR bk o c xs sep w hcells hbk hN hcap hlen
def Tryz.wF:Go.Shelf.Ren:=⟨λ|103=>243|210=>247|206=>248|n=>n,λ|9=>9|4=>4|24=>141|3=>3|n=>n,λ|n=>n⟩
theorem Tryz.Gv:Go.Proofs.Lays.n103 Tryz.prog Tryz.wF:={
 mixed:=by kernel_rfl
 f103:=Tryz.func243.trans (congrArg some (by kernel_rfl))
 f206:=Tryz.func248.trans (congrArg some (by kernel_rfl))
 f210:=Tryz.func247.trans (congrArg some (by kernel_rfl))
 t3:=Tryz.underlying3
 a3:=Tryz.isAgg3
 z3:=Tryz.sizeOf3
 v3:=Tryz.zeroValue3
 t4:=Tryz.underlying4
 a4:=Tryz.isAgg4
 z4:=Tryz.sizeOf4
 v4:=Tryz.zeroValue4
 t9:=Tryz.underlying9
 a9:=Tryz.isAgg9
 z9:=Tryz.sizeOf9
 v9:=Tryz.zeroValue9
 t24:=Tryz.underlying141
 a24:=Tryz.isAgg141
 z24:=Tryz.sizeOf141
 v24:=Tryz.zeroValue141 }
open Go.RowKit in
theorem Tryz.strings_CutPrefix (s p:ByteArray) (w:World):
 Calls Tryz.prog 243 #[.string s,.string p] w λe w'=>e=.returned (.tuple #[.string ⟨(Lib.trimPrefix s.data.toList p.data.toList).toArray⟩,.bool (Lib.hasPrefix s.data.toList p.data.toList)])∧w'=w:=Any.strings_CutPrefix Tryz.Gv s p w
def Tryz.wG:Go.Shelf.Ren:=⟨λ|104=>106|211=>141|207=>175|n=>n,λ|9=>9|4=>4|24=>141|3=>3|n=>n,λ|n=>n⟩
theorem Tryz.Gw:Go.Proofs.Lays.n104 Tryz.prog Tryz.wG:={
 mixed:=by kernel_rfl
 f104:=Tryz.func106.trans (congrArg some (by kernel_rfl))
 f207:=Tryz.func175.trans (congrArg some (by kernel_rfl))
 f211:=Tryz.func141.trans (congrArg some (by kernel_rfl))
 t3:=Tryz.underlying3
 a3:=Tryz.isAgg3
 z3:=Tryz.sizeOf3
 v3:=Tryz.zeroValue3
 t4:=Tryz.underlying4
 a4:=Tryz.isAgg4
 z4:=Tryz.sizeOf4
 v4:=Tryz.zeroValue4
 t9:=Tryz.underlying9
 a9:=Tryz.isAgg9
 z9:=Tryz.sizeOf9
 v9:=Tryz.zeroValue9
 t24:=Tryz.underlying141
 a24:=Tryz.isAgg141
 z24:=Tryz.sizeOf141
 v24:=Tryz.zeroValue141 }
open Go.RowKit in
theorem Tryz.strings_CutSuffix (s p:ByteArray) (w:World) (hs:s.size≤9223372036854775807):
 Calls Tryz.prog 106 #[.string s,.string p] w λe w'=>e=.returned (.tuple #[.string ⟨(Lib.trimSuffix s.data.toList p.data.toList).toArray⟩,.bool (Lib.hasSuffix s.data.toList p.data.toList)])∧w'=w:=Any.strings_CutSuffix Tryz.Gw s p w hs
def Tryz.wL:Go.Shelf.Ren:=⟨λ|190=>94|125=>132|258=>131|128=>170|129=>171|302=>161|303=>162|304=>163|305=>164|306=>165|307=>166|308=>167|309=>168|310=>169|333=>191|329=>192|330=>193|334=>194|335=>195|336=>196|344=>213|n=>n,λ|31=>31|9=>9|3=>3|46=>67|0=>0|51=>230|53=>234|4=>4|183=>239|182=>238|131=>34|5=>5|218=>257|222=>261|228=>272|229=>273|n=>n,λ|n=>n⟩
theorem Tryz.Am:Go.Proofs.Lays.n190 Tryz.prog Tryz.wL:={
 mixed:=by kernel_rfl
 f125:=Tryz.func132.trans (congrArg some (by kernel_rfl))
 f128:=Tryz.func170.trans (congrArg some (by kernel_rfl))
 f129:=Tryz.func171.trans (congrArg some (by kernel_rfl))
 f190:=Tryz.func94.trans (congrArg some (by kernel_rfl))
 f258:=Tryz.func131.trans (congrArg some (by kernel_rfl))
 f302:=Tryz.func161.trans (congrArg some (by kernel_rfl))
 f303:=Tryz.func162.trans (congrArg some (by kernel_rfl))
 f304:=Tryz.func163.trans (congrArg some (by kernel_rfl))
 f305:=Tryz.func164.trans (congrArg some (by kernel_rfl))
 f306:=Tryz.func165.trans (congrArg some (by kernel_rfl))
 f307:=Tryz.func166.trans (congrArg some (by kernel_rfl))
 f308:=Tryz.func167.trans (congrArg some (by kernel_rfl))
 f309:=Tryz.func168.trans (congrArg some (by kernel_rfl))
 f310:=Tryz.func169.trans (congrArg some (by kernel_rfl))
 f329:=Tryz.func192.trans (congrArg some (by kernel_rfl))
 f330:=Tryz.func193.trans (congrArg some (by kernel_rfl))
 f333:=Tryz.func191.trans (congrArg some (by kernel_rfl))
 f334:=Tryz.func194.trans (congrArg some (by kernel_rfl))
 f335:=Tryz.func195.trans (congrArg some (by kernel_rfl))
 f336:=Tryz.func196.trans (congrArg some (by kernel_rfl))
 f344:=Tryz.func213.trans (congrArg some (by kernel_rfl))
 t0:=Tryz.underlying0
 a0:=Tryz.isAgg0
 z0:=Tryz.sizeOf0
 v0:=Tryz.zeroValue0
 t3:=Tryz.underlying3
 a3:=Tryz.isAgg3
 z3:=Tryz.sizeOf3
 v3:=Tryz.zeroValue3
 t4:=Tryz.underlying4
 a4:=Tryz.isAgg4
 z4:=Tryz.sizeOf4
 v4:=Tryz.zeroValue4
 t5:=Tryz.underlying5
 a5:=Tryz.isAgg5
 z5:=Tryz.sizeOf5
 v5:=Tryz.zeroValue5
 t9:=Tryz.underlying9
 a9:=Tryz.isAgg9
 z9:=Tryz.sizeOf9
 v9:=Tryz.zeroValue9
 t31:=Tryz.underlying31
 a31:=Tryz.isAgg31
 z31:=Tryz.sizeOf31
 v31:=Tryz.zeroValue31
 t46:=Tryz.underlying67
 a46:=Tryz.isAgg67
 z46:=Tryz.sizeOf67
 v46:=Tryz.zeroValue67
 t51:=Tryz.underlying230
 a51:=Tryz.isAgg230
 z51:=Tryz.sizeOf230
 v51:=Tryz.zeroValue230
 t53:=Tryz.underlying234
 a53:=Tryz.isAgg234
 z53:=Tryz.sizeOf234
 v53:=Tryz.zeroValue234
 t131:=Tryz.underlying34
 a131:=Tryz.isAgg34
 z131:=Tryz.sizeOf34
 v131:=Tryz.zeroValue34
 t182:=Tryz.underlying238
 a182:=Tryz.isAgg238
 z182:=Tryz.sizeOf238
 v182:=Tryz.zeroValue238
 t183:=Tryz.underlying239
 a183:=Tryz.isAgg239
 z183:=Tryz.sizeOf239
 v183:=Tryz.zeroValue239
 t218:=Tryz.underlying257
 a218:=Tryz.isAgg257
 z218:=Tryz.sizeOf257
 v218:=Tryz.zeroValue257
 t222:=Tryz.underlying261
 a222:=Tryz.isAgg261
 z222:=Tryz.sizeOf261
 v222:=Tryz.zeroValue261
 t228:=Tryz.underlying272
 a228:=Tryz.isAgg272
 z228:=Tryz.sizeOf272
 v228:=Tryz.zeroValue272
 t229:=Tryz.underlying273
 a229:=Tryz.isAgg273
 z229:=Tryz.sizeOf273
 v229:=Tryz.zeroValue273 }
open Go.Sort Go.RowKit in
theorem Tryz.slices_Sort_string (blk off cap:Nat) (ss:List (List UInt8)) (w:World) (hH:Holds encStr w blk off ss.toArray) (hblk:blk<w.heap.size) (hsz:ss.length<4611686018427387904):
 Calls Tryz.prog 94 #[.slice (some ⟨blk,off,none⟩) ss.length cap] w λe w'=>
  e=.returned (.tuple #[])∧∃n os,w'=grow (putRow encStr (Sort.ahead w n) blk off (ss.mergeSort λx y=>decide (x≤y)).toArray) os:=Any.slices_Sort_string Tryz.Am blk off cap ss w hH hblk hsz
def Tryz.uw:Go.Shelf.Ren:=⟨λ|15=>97|20=>133|n=>n,λ|9=>9|23=>165|3=>3|4=>4|0=>0|21=>21|n=>n,λ|n=>n⟩
theorem Tryz.Es:Go.Proofs.LaysGw.n15 Tryz.prog Tryz.uw:={
 mixed:=by kernel_rfl
 f15:=Tryz.func97.trans (congrArg some (by kernel_rfl))
 f20:=Tryz.func133.trans (congrArg some (by kernel_rfl))
 t0:=Tryz.underlying0
 a0:=Tryz.isAgg0
 z0:=Tryz.sizeOf0
 v0:=Tryz.zeroValue0
 i0:=by kernel_rfl
 t3:=Tryz.underlying3
 a3:=Tryz.isAgg3
 z3:=Tryz.sizeOf3
 v3:=Tryz.zeroValue3
 i3:=by kernel_rfl
 t4:=Tryz.underlying4
 a4:=Tryz.isAgg4
 z4:=Tryz.sizeOf4
 v4:=Tryz.zeroValue4
 i4:=by kernel_rfl
 t9:=Tryz.underlying9
 a9:=Tryz.isAgg9
 z9:=Tryz.sizeOf9
 v9:=Tryz.zeroValue9
 i9:=by kernel_rfl
 t21:=Tryz.underlying21
 a21:=Tryz.isAgg21
 z21:=Tryz.sizeOf21
 v21:=Tryz.zeroValue21
 i21:=by kernel_rfl
 t23:=Tryz.underlying165
 a23:=Tryz.isAgg165
 z23:=Tryz.sizeOf165
 v23:=Tryz.zeroValue165
 i23:=by kernel_rfl }
open Go.RowKit Go.Lib in
theorem Tryz.strings_IndexFunc (g:Nat) (lb:Array Value) (eg:∀args w,(callFunc g args).run Tryz.prog w=.ok (.enter g args) w) (p:Nat→Bool) (s:ByteArray) (w:World) (hp:PredAt Tryz.prog g lb encR p w):
 Calls Tryz.prog 97 #[.string s,.func (.func g) #[] lb] w λe w'=>e=.returned (.int .i64 (Lib.idxFunc p true s))∧Below w.heap.size w w':=Any.strings_IndexFunc Tryz.Es g lb eg p s w hp
def Tryz.wD:Go.Shelf.Ren:=⟨λ|102=>139|209=>173|207=>175|n=>n,λ|9=>9|4=>4|3=>3|n=>n,λ|n=>n⟩
theorem Tryz.Gu:Go.Proofs.Lays.n102 Tryz.prog Tryz.wD:={
 mixed:=by kernel_rfl
 f102:=Tryz.func139.trans (congrArg some (by kernel_rfl))
 f207:=Tryz.func175.trans (congrArg some (by kernel_rfl))
 f209:=Tryz.func173.trans (congrArg some (by kernel_rfl))
 t3:=Tryz.underlying3
 a3:=Tryz.isAgg3
 z3:=Tryz.sizeOf3
 v3:=Tryz.zeroValue3
 t4:=Tryz.underlying4
 a4:=Tryz.isAgg4
 z4:=Tryz.sizeOf4
 v4:=Tryz.zeroValue4
 t9:=Tryz.underlying9
 a9:=Tryz.isAgg9
 z9:=Tryz.sizeOf9
 v9:=Tryz.zeroValue9 }
open Go.RowKit Go.Lib in
theorem Tryz.strings_TrimSuffix (s p:ByteArray) (w:World) (hs:s.size≤9223372036854775807):
 Calls Tryz.prog 139 #[.string s,.string p] w λe w'=>e=.returned (.string ⟨(Lib.trimSuffix s.data.toList p.data.toList).toArray⟩)∧w'=w:=Any.strings_TrimSuffix Tryz.Gu s p w hs
def Tryz.wK:Go.Shelf.Ren:=⟨λ|157=>197|229=>214|199=>215|261=>224|311=>230|312=>231|n=>n,λ|9=>9|31=>31|3=>3|5=>5|4=>4|119=>275|0=>0|40=>165|152=>285|21=>21|154=>287|51=>230|141=>289|196=>301|193=>298|198=>304|49=>302|194=>299|201=>307|226=>326|46=>67|227=>327|n=>n,λ|0=>1|6=>2|n=>n⟩
theorem Tryz.GA:Go.Proofs.Lays.n157 Tryz.prog Tryz.wK:={
 mixed:=by kernel_rfl
 f157:=Tryz.func197.trans (congrArg some (by kernel_rfl))
 f199:=Tryz.func215.trans (congrArg some (by kernel_rfl))
 f229:=Tryz.func214.trans (congrArg some (by kernel_rfl))
 f261:=Tryz.func224.trans (congrArg some (by kernel_rfl))
 f311:=Tryz.func230.trans (congrArg some (by kernel_rfl))
 f312:=Tryz.func231.trans (congrArg some (by kernel_rfl))
 t0:=Tryz.underlying0
 a0:=Tryz.isAgg0
 z0:=Tryz.sizeOf0
 v0:=Tryz.zeroValue0
 t3:=Tryz.underlying3
 a3:=Tryz.isAgg3
 z3:=Tryz.sizeOf3
 v3:=Tryz.zeroValue3
 t4:=Tryz.underlying4
 a4:=Tryz.isAgg4
 z4:=Tryz.sizeOf4
 v4:=Tryz.zeroValue4
 t5:=Tryz.underlying5
 a5:=Tryz.isAgg5
 z5:=Tryz.sizeOf5
 v5:=Tryz.zeroValue5
 t9:=Tryz.underlying9
 a9:=Tryz.isAgg9
 z9:=Tryz.sizeOf9
 v9:=Tryz.zeroValue9
 t21:=Tryz.underlying21
 a21:=Tryz.isAgg21
 z21:=Tryz.sizeOf21
 v21:=Tryz.zeroValue21
 t31:=Tryz.underlying31
 a31:=Tryz.isAgg31
 z31:=Tryz.sizeOf31
 v31:=Tryz.zeroValue31
 t40:=Tryz.underlying165
 a40:=Tryz.isAgg165
 z40:=Tryz.sizeOf165
 v40:=Tryz.zeroValue165
 t46:=Tryz.underlying67
 a46:=Tryz.isAgg67
 z46:=Tryz.sizeOf67
 v46:=Tryz.zeroValue67
 t49:=Tryz.underlying302
 a49:=Tryz.isAgg302
 z49:=Tryz.sizeOf302
 v49:=Tryz.zeroValue302
 t51:=Tryz.underlying230
 a51:=Tryz.isAgg230
 z51:=Tryz.sizeOf230
 v51:=Tryz.zeroValue230
 t119:=Tryz.underlying275
 a119:=Tryz.isAgg275
 z119:=Tryz.sizeOf275
 t141:=Tryz.underlying289
 a141:=Tryz.isAgg289
 z141:=Tryz.sizeOf289
 v141:=Tryz.zeroValue289
 t152:=Tryz.underlying285
 a152:=Tryz.isAgg285
 z152:=Tryz.sizeOf285
 v152:=Tryz.zeroValue285
 t154:=Tryz.underlying287
 a154:=Tryz.isAgg287
 z154:=Tryz.sizeOf287
 v154:=Tryz.zeroValue287
 t193:=Tryz.underlying298
 a193:=Tryz.isAgg298
 z193:=Tryz.sizeOf298
 v193:=Tryz.zeroValue298
 t194:=Tryz.underlying299
 a194:=Tryz.isAgg299
 z194:=Tryz.sizeOf299
 v194:=Tryz.zeroValue299
 t196:=Tryz.underlying301
 a196:=Tryz.isAgg301
 z196:=Tryz.sizeOf301
 v196:=Tryz.zeroValue301
 t198:=Tryz.underlying304
 a198:=Tryz.isAgg304
 z198:=Tryz.sizeOf304
 v198:=Tryz.zeroValue304
 t201:=Tryz.underlying307
 a201:=Tryz.isAgg307
 z201:=Tryz.sizeOf307
 v201:=Tryz.zeroValue307
 t226:=Tryz.underlying326
 a226:=Tryz.isAgg326
 z226:=Tryz.sizeOf326
 v226:=Tryz.zeroValue326
 t227:=Tryz.underlying327
 a227:=Tryz.isAgg327
 z227:=Tryz.sizeOf327
 v227:=Tryz.zeroValue327
 g0:=by kernel_rfl
 g6:=by kernel_rfl }
open Go.RowKit Go.Lib in
theorem Tryz.strings_Fields (s:ByteArray) (w:World) (hs:s.size<4294967281) (hascii:∀(j:Nat) b,s.data.toList[j]? =some b→b.toNat<128) (htab:Lib.TabIs Tryz.prog w "strings.asciiSpace" .u8 Lib.asciiSpaceTab):
 Calls Tryz.prog 197 #[.string s] w λe w'=>
  e=.returned (.slice (some ⟨w.heap.size,0,none⟩) (Lib.fields s.data.toList).length (Lib.fields s.data.toList).length)∧w'=w.alloc (.cells ((Lib.fields s.data.toList).map λl=>Value.string ⟨l.toArray⟩).toArray 9):=Any.strings_Fields Tryz.GA (by kernel_rfl) (by kernel_rfl) s w hs hascii htab
open Go.RowKit Go.Sort in
theorem Tryz.slices_Sort_string_none (p:Option Addr) (cap:Nat) (w:World):
 Calls Tryz.prog 94 #[.slice p 0 cap] w λe w'=>e=.returned (.tuple #[])∧w'=w:=Any.slices_Sort_string_none Tryz.Am p cap w
end Go.Proofs
namespace Go.Proofs
open Go.Shelf
def Tryz.wH:Go.Shelf.Ren:=⟨λ|145=>104|220=>140|219=>174|217=>198|225=>199|224=>200|267=>201|266=>216|314=>217|n=>n,λ|9=>9|4=>4|59=>170|3=>3|5=>5|46=>67|146=>277|51=>230|n=>n,λ|1=>0|n=>n⟩
theorem Tryz.Gx:Go.Proofs.Lays.n145 Tryz.prog Tryz.wH:={
 mixed:=by kernel_rfl
 f145:=Tryz.func104.trans (congrArg some (by kernel_rfl))
 f217:=Tryz.func198.trans (congrArg some (by kernel_rfl))
 f219:=Tryz.func174.trans (congrArg some (by kernel_rfl))
 f220:=Tryz.func140.trans (congrArg some (by kernel_rfl))
 f224:=Tryz.func200.trans (congrArg some (by kernel_rfl))
 f225:=Tryz.func199.trans (congrArg some (by kernel_rfl))
 f266:=Tryz.func216.trans (congrArg some (by kernel_rfl))
 f267:=Tryz.func201.trans (congrArg some (by kernel_rfl))
 f314:=Tryz.func217.trans (congrArg some (by kernel_rfl))
 t3:=Tryz.underlying3
 a3:=Tryz.isAgg3
 z3:=Tryz.sizeOf3
 v3:=Tryz.zeroValue3
 t4:=Tryz.underlying4
 a4:=Tryz.isAgg4
 z4:=Tryz.sizeOf4
 v4:=Tryz.zeroValue4
 t5:=Tryz.underlying5
 a5:=Tryz.isAgg5
 z5:=Tryz.sizeOf5
 v5:=Tryz.zeroValue5
 t9:=Tryz.underlying9
 a9:=Tryz.isAgg9
 z9:=Tryz.sizeOf9
 v9:=Tryz.zeroValue9
 t46:=Tryz.underlying67
 a46:=Tryz.isAgg67
 z46:=Tryz.sizeOf67
 v46:=Tryz.zeroValue67
 t51:=Tryz.underlying230
 a51:=Tryz.isAgg230
 z51:=Tryz.sizeOf230
 v51:=Tryz.zeroValue230
 t59:=Tryz.underlying170
 a59:=Tryz.isAgg170
 z59:=Tryz.sizeOf170
 v59:=Tryz.zeroValue170
 t146:=Tryz.underlying277
 a146:=Tryz.isAgg277
 z146:=Tryz.sizeOf277
 v146:=Tryz.zeroValue277
 g1:=by kernel_rfl }
open Go.RowKit Go.Lib in
theorem Tryz.strings_Cut (s sep:ByteArray) (m:Int) (w:World) (hs:s.size<4294967281) (hm:w.cell? ⟨0,0,none⟩=some (.int .i64 m)):
 Calls Tryz.prog 104 #[.string s,.string sep] w λe w'=>e=.returned (.tuple #[.string ⟨(Lib.cut s.data.toList sep.data.toList).1.toArray⟩,.string ⟨(Lib.cut s.data.toList sep.data.toList).2.1.toArray⟩,.bool (Lib.cut s.data.toList sep.data.toList).2.2])∧∃n,w'=w.drewN n:=Any.strings_Cut Tryz.Gx s sep m w hs hm
def Tryz.wI:Go.Shelf.Ren:=⟨λ|146=>138|221=>154|268=>182|138=>183|143=>184|195=>207|197=>208|218=>209|219=>174|260=>221|217=>198|225=>199|224=>200|267=>201|266=>216|314=>217|n=>n,λ|9=>9|31=>31|3=>3|4=>4|0=>0|105=>269|21=>21|5=>5|46=>67|119=>275|139=>297|138=>296|146=>277|51=>230|n=>n,λ|1=>0|3=>3|4=>4|n=>n⟩
theorem Tryz.Gy:Go.Proofs.Lays.n146 Tryz.prog Tryz.wI:={
 mixed:=by kernel_rfl
 f138:=Tryz.func183.trans (congrArg some (by kernel_rfl))
 f143:=Tryz.func184.trans (congrArg some (by kernel_rfl))
 f146:=Tryz.func138.trans (congrArg some (by kernel_rfl))
 f195:=Tryz.func207.trans (congrArg some (by kernel_rfl))
 f197:=Tryz.func208.trans (congrArg some (by kernel_rfl))
 f217:=Tryz.func198.trans (congrArg some (by kernel_rfl))
 f218:=Tryz.func209.trans (congrArg some (by kernel_rfl))
 f219:=Tryz.func174.trans (congrArg some (by kernel_rfl))
 f221:=Tryz.func154.trans (congrArg some (by kernel_rfl))
 f224:=Tryz.func200.trans (congrArg some (by kernel_rfl))
 f225:=Tryz.func199.trans (congrArg some (by kernel_rfl))
 f260:=Tryz.func221.trans (congrArg some (by kernel_rfl))
 f266:=Tryz.func216.trans (congrArg some (by kernel_rfl))
 f267:=Tryz.func201.trans (congrArg some (by kernel_rfl))
 f268:=Tryz.func182.trans (congrArg some (by kernel_rfl))
 f314:=Tryz.func217.trans (congrArg some (by kernel_rfl))
 t0:=Tryz.underlying0
 a0:=Tryz.isAgg0
 z0:=Tryz.sizeOf0
 v0:=Tryz.zeroValue0
 t3:=Tryz.underlying3
 a3:=Tryz.isAgg3
 z3:=Tryz.sizeOf3
 v3:=Tryz.zeroValue3
 t4:=Tryz.underlying4
 a4:=Tryz.isAgg4
 z4:=Tryz.sizeOf4
 v4:=Tryz.zeroValue4
 t5:=Tryz.underlying5
 a5:=Tryz.isAgg5
 z5:=Tryz.sizeOf5
 v5:=Tryz.zeroValue5
 t9:=Tryz.underlying9
 a9:=Tryz.isAgg9
 z9:=Tryz.sizeOf9
 v9:=Tryz.zeroValue9
 t21:=Tryz.underlying21
 a21:=Tryz.isAgg21
 z21:=Tryz.sizeOf21
 v21:=Tryz.zeroValue21
 t31:=Tryz.underlying31
 a31:=Tryz.isAgg31
 z31:=Tryz.sizeOf31
 v31:=Tryz.zeroValue31
 t46:=Tryz.underlying67
 a46:=Tryz.isAgg67
 z46:=Tryz.sizeOf67
 v46:=Tryz.zeroValue67
 t51:=Tryz.underlying230
 a51:=Tryz.isAgg230
 z51:=Tryz.sizeOf230
 v51:=Tryz.zeroValue230
 t105:=Tryz.underlying269
 a105:=Tryz.isAgg269
 z105:=Tryz.sizeOf269
 v105:=Tryz.zeroValue269
 t119:=Tryz.underlying275
 a119:=Tryz.isAgg275
 z119:=Tryz.sizeOf275
 t138:=Tryz.underlying296
 a138:=Tryz.isAgg296
 z138:=Tryz.sizeOf296
 v138:=Tryz.zeroValue296
 t139:=Tryz.underlying297
 a139:=Tryz.isAgg297
 z139:=Tryz.sizeOf297
 v139:=Tryz.zeroValue297
 t146:=Tryz.underlying277
 a146:=Tryz.isAgg277
 z146:=Tryz.sizeOf277
 v146:=Tryz.zeroValue277
 g1:=by kernel_rfl
 g3:=by kernel_rfl
 g4:=by kernel_rfl }
open Go.RowKit Go.Lib in
theorem Tryz.strings_Split (s sep:ByteArray) (m:Int) (w:World) (hs:s.size<4294967281) (hm:w.cell? ⟨0,0,none⟩=some (.int .i64 m)) (h1:1≤sep.size):
 Calls Tryz.prog 138 #[.string s,.string sep] w λe w'=>
  e=.returned (.slice (some ⟨w.heap.size,0,none⟩) (Lib.countB s sep+1) (Lib.countB s sep+1))∧w'=w.alloc (.cells ((Lib.splitB sep 0 (Lib.countB s sep) s).map Value.string).toArray 9):=Any.strings_Split Tryz.Gy (by kernel_rfl) s sep m w hs hm h1
def Tryz.wJ:Go.Shelf.Ren:=⟨λ|147=>117|221=>154|268=>182|138=>183|143=>184|195=>207|197=>208|218=>209|219=>174|260=>221|217=>198|225=>199|224=>200|267=>201|266=>216|314=>217|n=>n,λ|9=>9|3=>3|31=>31|4=>4|0=>0|105=>269|21=>21|5=>5|46=>67|119=>275|139=>297|138=>296|146=>277|51=>230|n=>n,λ|1=>0|3=>3|4=>4|n=>n⟩
theorem Tryz.Gz:Go.Proofs.Lays.n147 Tryz.prog Tryz.wJ:={
 mixed:=by kernel_rfl
 f138:=Tryz.func183.trans (congrArg some (by kernel_rfl))
 f143:=Tryz.func184.trans (congrArg some (by kernel_rfl))
 f147:=Tryz.func117.trans (congrArg some (by kernel_rfl))
 f195:=Tryz.func207.trans (congrArg some (by kernel_rfl))
 f197:=Tryz.func208.trans (congrArg some (by kernel_rfl))
 f217:=Tryz.func198.trans (congrArg some (by kernel_rfl))
 f218:=Tryz.func209.trans (congrArg some (by kernel_rfl))
 f219:=Tryz.func174.trans (congrArg some (by kernel_rfl))
 f221:=Tryz.func154.trans (congrArg some (by kernel_rfl))
 f224:=Tryz.func200.trans (congrArg some (by kernel_rfl))
 f225:=Tryz.func199.trans (congrArg some (by kernel_rfl))
 f260:=Tryz.func221.trans (congrArg some (by kernel_rfl))
 f266:=Tryz.func216.trans (congrArg some (by kernel_rfl))
 f267:=Tryz.func201.trans (congrArg some (by kernel_rfl))
 f268:=Tryz.func182.trans (congrArg some (by kernel_rfl))
 f314:=Tryz.func217.trans (congrArg some (by kernel_rfl))
 t0:=Tryz.underlying0
 a0:=Tryz.isAgg0
 z0:=Tryz.sizeOf0
 v0:=Tryz.zeroValue0
 t3:=Tryz.underlying3
 a3:=Tryz.isAgg3
 z3:=Tryz.sizeOf3
 v3:=Tryz.zeroValue3
 t4:=Tryz.underlying4
 a4:=Tryz.isAgg4
 z4:=Tryz.sizeOf4
 v4:=Tryz.zeroValue4
 t5:=Tryz.underlying5
 a5:=Tryz.isAgg5
 z5:=Tryz.sizeOf5
 v5:=Tryz.zeroValue5
 t9:=Tryz.underlying9
 a9:=Tryz.isAgg9
 z9:=Tryz.sizeOf9
 v9:=Tryz.zeroValue9
 t21:=Tryz.underlying21
 a21:=Tryz.isAgg21
 z21:=Tryz.sizeOf21
 v21:=Tryz.zeroValue21
 t31:=Tryz.underlying31
 a31:=Tryz.isAgg31
 z31:=Tryz.sizeOf31
 v31:=Tryz.zeroValue31
 t46:=Tryz.underlying67
 a46:=Tryz.isAgg67
 z46:=Tryz.sizeOf67
 v46:=Tryz.zeroValue67
 t51:=Tryz.underlying230
 a51:=Tryz.isAgg230
 z51:=Tryz.sizeOf230
 v51:=Tryz.zeroValue230
 t105:=Tryz.underlying269
 a105:=Tryz.isAgg269
 z105:=Tryz.sizeOf269
 v105:=Tryz.zeroValue269
 t119:=Tryz.underlying275
 a119:=Tryz.isAgg275
 z119:=Tryz.sizeOf275
 t138:=Tryz.underlying296
 a138:=Tryz.isAgg296
 z138:=Tryz.sizeOf296
 v138:=Tryz.zeroValue296
 t139:=Tryz.underlying297
 a139:=Tryz.isAgg297
 z139:=Tryz.sizeOf297
 v139:=Tryz.zeroValue297
 t146:=Tryz.underlying277
 a146:=Tryz.isAgg277
 z146:=Tryz.sizeOf277
 v146:=Tryz.zeroValue277
 g1:=by kernel_rfl
 g3:=by kernel_rfl
 g4:=by kernel_rfl }
open Go.RowKit Go.Lib in
theorem Tryz.strings_SplitN (s sep:ByteArray) (n:Nat) (m:Int) (w:World) (hs:s.size<4294967281) (hm:w.cell? ⟨0,0,none⟩=some (.int .i64 m)) (h1:1≤sep.size) (hn:1≤n) (hn63:n≤9223372036854775807):
 Calls Tryz.prog 117 #[.string s,.string sep,.int .i64 n] w λe w'=>
  e=.returned (.slice (some ⟨w.heap.size,0,none⟩) (Lib.splitB sep 0 (min n (s.size+1) - 1) s).length (min n (s.size+1)))∧w'=w.alloc (.cells (Lib.cellsOf (Lib.splitB sep 0 (min n (s.size+1) - 1) s) (min n (s.size+1))) 9):=Any.strings_SplitN Tryz.Gz (by kernel_rfl) s sep n m w hs hm h1 hn hn63
end Go.Proofs
