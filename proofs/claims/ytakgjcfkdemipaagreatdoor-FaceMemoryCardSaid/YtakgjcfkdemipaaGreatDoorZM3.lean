/-
  Lemmas: contracts: slices.Clone at texts, and of the package face: cloned, types, sig, raising. Conditions: bounds of lengths; the variable strings.asciiSpace.
-/
import Derived.Test.YtakgjcfkdemipaaGreatDoorZB18
import Derived.Test.YtakgjcfkdemipaaGreatDoorZM1
import Derived.Test.YtakgjcfkdemipaaGreatDoorZM2
namespace Go.Proofs.YtakgjcfkdemipaaGreatDoor
open Go.RowKit
theorem jh.ss {D:Nat→Prop} {w:World} {v:Value} {ss:List (List UInt8)} (h:jh D w v ss):SS D w v ss:=SS.mono h λ_ hb=>hb.1
theorem vb3 {D:Nat→Prop} (x:Value) (s:bP) (w:World) (hx:aT D w x s) (h1:s.args.length≤100000) (h2:s.sigs.length≤100000):
 Calls Tryz.prog 94 #[x] w λe w'=>∃v,e=.returned v∧aT (λb=>w.heap.size≤b) w' v s∧Below w.heap.size w w'∧∃a q,v=.agg #[.bool s.iter,a,str s.res,q]∧w'.ownsRow (w.heap.size+2) 9 1 a s.args.length (aB s.args)∧SS (λb=>w.heap.size+2≤b∧a.ownBlock≠some b) w' q s.sigs:=
 (oS x s w hx h1 h2).mono λ_ _ ⟨v,e1,e2,e3,a,q,e4,e5,e6⟩=>⟨v,e1,e2.mono λ_ h=>h.1,e3,a,q,e4,e5,e6.ss⟩
