/-
  Lemmas for the statement: contracts: the reference's Inside, Names (argusref03), in the words of the program's contracts. The walk of the statement KindInside: it answers true. Conditions: bounds of lengths; the variable strings.asciiSpace.
-/
import Derived.Laws.AppendOwnNone
import Derived.Test.YtakgjcfkdemipaaGreatDoorZG33
namespace Go.Proofs.YtakgjcfkdemipaaGreatDoor
open Go.RowKit
set_option maxRecDepth 4000 in
theorem Bv (s:List UInt8) (hm:s.length≤maxLen) (w:World):
 Calls Tryz.prog 127 #[str s] w λe w'=>∃v,e=.returned (.tuple #[v,.int .i64 (dO s).2])∧Strs w' v (dO s).1∧Below w.heap.size w w':=by
 rcases hq:aq s with⟨c,T⟩
 by_cases hc:c=0
 · subst hc
   rw[show dO s=(kZ T.ins,0) by unfold dO;rw[hq];rfl];exact zj s T hq w
 · rw[show dO s=([],c) by unfold dO;rw[hq,if_neg hc]]
   have hC:=eN s hm w;rw[hq] at hC;obtain⟨g1,g2⟩:=bC hc;clear hq hc;go_enter Tryz.func127,Tryz.ntmps127;go_wp2_with (go_at_call 84;refine hC.mono ?_;clear hC;rintro e w1 ⟨rfl,ay⟩);go_ret2;exact⟨_,rfl,Sl.nil _,ay⟩
end Go.Proofs.YtakgjcfkdemipaaGreatDoor
namespace Go.Proofs.YtakgjcfkdemipaaGreatDoor
open Go.RowKit
end Go.Proofs.YtakgjcfkdemipaaGreatDoor
