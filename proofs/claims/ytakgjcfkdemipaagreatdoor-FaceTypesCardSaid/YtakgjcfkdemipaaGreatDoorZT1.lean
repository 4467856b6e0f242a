/-
  Lemmas for the statement: contracts: the reference's Check, kind, Kind, Level, open, Open (argusref03), in the words of the program's contracts. Conditions: bounds of lengths; the variable strings.asciiSpace.
-/
import Derived.Test.YtakgjcfkdemipaaGreatDoorZG10
import Derived.Test.YtakgjcfkdemipaaGreatDoorZT0
set_option maxHeartbeats 3200000
namespace Go.Proofs.YtakgjcfkdemipaaGreatDoor
open Go.RowKit
set_option maxRecDepth 4000 in
theorem vcb (s:List UInt8) (hm:s.length≤maxLen) (w:World):Calls Tryz.prog 82 #[str s] w λe w'=>e=.returned (.tuple #[.int .i64 (iz s),.int .i64 (aq s).1])∧Below w.heap.size w w':=by
 have hC:=eN s hm w
 by_cases hc:(aq s).1=0
 · have hl:¬100<s.length:=by intro h;rw[zW h] at hc;simp at hc
   have hv:iz s=jN s:=by
    unfold iz;rw[if_pos hc];rcases Vr s hl with h|h|h|h
    · omega
    · omega
    · omega
    · exact h.2.2.2.2
   have hr:=λW=>vk s 0 W (Int.le_refl _) (by omega)
   have HV:=Lib.hid hv;rw[hc] at hC ⊢;clear hc hv;go_enter Tryz.func82,Tryz.ntmps82;go_wp2_with (first
    | (go_at_call 84;refine hC.mono ?_;clear hC;rintro e w1 ⟨rfl,ay⟩)
    | (go_at_call 140;refine(hr _).mono ?_;clear hr;rintro e w2 ⟨rfl,aA⟩))
   go_ret2;exact⟨by rw[HV.out];rfl,ay.trans (aA.mono ay.size)⟩
 · have HL:=Lib.hid (show iz s=0 by unfold iz;rw[if_neg hc])
   generalize (aq s).1=C at hC hc ⊢;obtain⟨g1,g2⟩:=bC hc;clear hc;go_enter Tryz.func82,Tryz.ntmps82;go_wp2_with (go_at_call 84;refine hC.mono ?_;clear hC;rintro e w1 ⟨rfl,ay⟩);go_ret2;exact⟨by rw[HL.out];rfl,ay⟩
end Go.Proofs.YtakgjcfkdemipaaGreatDoor
