/-
  Lemmas: contracts: kind.two, kind.With. Conditions: bounds of lengths; the variable strings.asciiSpace.
-/
import Derived.Test.YtakgjcfkdemipaaGreatDoorZB10
import Derived.Test.YtakgjcfkdemipaaGreatDoorZBn
set_option maxHeartbeats 3200000
namespace Go.Proofs.YtakgjcfkdemipaaGreatDoor
open Go.RowKit
theorem MD.a {w:World} {a b:Tr} {va vb:Value} {W:World} (h:MD w a b va vb W):MD w a b va vb (((W.setCell ⟨w.heap.size,0,none⟩ (.int .u8 a.k)).setCell ⟨w.heap.size,1,none⟩ (str a.n)).setCell ⟨w.heap.size,2,none⟩ va):=
 (h.2.2.2.2.Gn h.2.2.2.2.fa).c
theorem vcj {s:List UInt8} (h:(aq s).1=0):mJ s=(aq s).2.k:=by
 rcases hq:aq s with⟨c,T⟩
 rw[hq] at h
 simp only at h
 subst h
 obtain⟨h1,h2,_,_⟩:=bC hq
 rw[←h2,h1.mJ]
theorem vc9 {s:List UInt8} (h:(aq s).1≠0):(aq s).2.k=0:=by
 rcases hq:aq s with⟨c,T⟩
 rw[hq] at h
 rw[(mP hq h).2]
set_option maxRecDepth 4000 in
theorem va8 (s:List UInt8) (hm:s.length≤maxLen) (w:World):Calls Tryz.prog 128 #[str s] w λe w'=>e=.returned (.tuple #[.int .u8 (aq s).2.k,.int .i64 (aq s).1])∧Below w.heap.size w w':=by
 have hC:=nw s hm w
 have hk:=@vcj s
 have hk0:=@vc9 s
 generalize (aq s).1=C at hC hk hk0 ⊢
 generalize (aq s).2.k=K at hk hk0 ⊢
 by_cases hc:C=0
 · subst hc
   have HK:=zh (hk rfl);clear hk hk0;go_enter Tryz.func128,Tryz.ntmps128;go_wp2_with (first
    | (go_at_call 84;refine hC.mono ?_;clear hC;rintro e w1 ⟨rfl,au⟩)
    | (go_at_call 164;refine(Jb s hm _).mono ?_;rintro e w2 ⟨rfl,rfl⟩))
   go_ret2;exact⟨by rw[HK.out];rfl,au⟩
 · obtain rfl:=hk0 hc
   obtain⟨g1,g2⟩:=bK hc;clear hc hk hk0;go_enter Tryz.func128,Tryz.ntmps128;go_wp2_with (go_at_call 84;refine hC.mono ?_;clear hC;rintro e w1 ⟨rfl,au⟩);go_ret2;exact⟨rfl,au⟩
