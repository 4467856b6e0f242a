/-
  Lemmas for the statement: contracts: kind.Check, Kind, Level, Open, told. Conditions: bounds of lengths; the variable strings.asciiSpace.
-/
import Derived.Test.YtemjidmkolfgnaaGreatDoorSBn
import Derived.Test.YtemjidmkolfgnaaGreatDoorSB5
import Derived.Test.YtemjidmkolfgnaaGreatDoorSB8
set_option maxHeartbeats 3200000
namespace Go.Proofs.YtemjidmkolfgnaaGreatDoor
open Go.RowKit
theorem rZ {s:List UInt8} {t:Tr} (h:bH s=(0,t)):t.ok∧t.txt=s∧s.length≤100∧t.level≤6:=by
 unfold bH at h
 split at h
 · simp at h
 · rename_i hl
   split at h
   · rename_i u e
     split at h
     · simp at h
     · rename_i hv
       simp only[Prod.mk.injEq,true_and] at h;subst h;obtain⟨h1,h2⟩:=BP e;exact⟨h1,by simpa using h2.symm,by omega,by omega⟩
   · simp at h
theorem Ao {c:Nat} (h:c≠0):((c:Int)==0)=false∧((c:Int) != 0)=true:=by
 constructor
 · rw[beq_eq_false_iff_ne];omega
 · rw[bne_iff_ne];omega
def kZ (s:List UInt8):Bool:=if(bH s).1=0 then(bH s).2.Av else false
set_option maxRecDepth 4000 in
theorem Bz (s:List UInt8) (hm:s.length≤maxLen) (w:World) (ht:gx w):Calls Tryz.prog 206 #[str s] w λe w'=>e=.returned (.tuple #[.bool (kZ s),.int .i64 (bH s).1])∧Below w.heap.size w w':=by
 have HC:=ur s hm w ht
 unfold cU at HC
 unfold kZ
 rcases hq:bH s with⟨c,t⟩
 rw[hq] at HC
 simp only at HC ⊢
 by_cases hc:c=0
 · subst hc
   have HQ:=zh hq;clear hq;go_enter Tryz.func206,Tryz.ntmps206;go_wp2_with (first|(go_at_call 219;refine HC.mono ?_;clear HC;rintro e w1 ⟨v,rfl,hv,aP⟩;obtain⟨p,c,rfl,_⟩:=hv.shape)|(go_at_call 220;refine(EJ t _ _ _ (hv.below ((zb w1).alloc zr _) zr)).mono ?_;rintro e w2 ⟨rfl,bO⟩));go_ret2;exact⟨rfl,(aP.alloc aP.size _).trans (aa bO (by have:=aP.size;simp;omega))⟩
 · obtain⟨h1,h2⟩:=Ao hc
   have HQ:=zh hq;have HZ:=zh hc;clear hq hc;go_enter Tryz.func206,Tryz.ntmps206;go_wp2_with (go_at_call 219;refine HC.mono ?_;clear HC;rintro e w1 ⟨v,rfl,hv,aP⟩;obtain⟨p,c,rfl,_⟩:=hv.shape);go_ret2;exact⟨rfl,aP.alloc aP.size _⟩
end Go.Proofs.YtemjidmkolfgnaaGreatDoor
