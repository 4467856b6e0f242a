/-
  Lemmas for the statement: contracts of the reference argusref04: FitsIn, Fits. Conditions: bounds of lengths; the variable strings.asciiSpace.
-/
import Derived.Test.YtakgjcfkdemipaaGreatDoorZGn
import Derived.Test.YtakgjcfkdemipaaGreatDoorZG35
set_option maxHeartbeats 6400000
namespace Go.Proofs.YtakgjcfkdemipaaGreatDoor
open Go.RowKit
def mD (c:aR) (want:List aG) (t:List UInt8):List UInt8×Bool×Nat:=if dx c t≠0 then([],false,dx c t) else((dP c want t).getD [],(dP c want t).isNone,0)
theorem Hp (l:List aB) (ag want:List aG) (t:List UInt8):mE l ag want t=if bP l ag≠0 then([],false,bP l ag) else if bh want=false then([],false,42) else mD ⟨l,ag,dX ag t⟩ want t:=by
 unfold mE mD
 congr 2
 split
 · rfl
 · cases dP ⟨l,ag,dX ag t⟩ want t<;>rfl
theorem Cw {t:List UInt8} (h:(aq t).1=0):t≠[]:=by
 rintro rfl
 revert h
 decide+kernel
theorem Bt {D D' D3:Nat→Prop} (l:List aB) (ag:List aG) (lv nv wv:Value) (want:List aG) (t:List UInt8) (w:World) (fW:qm ⟨l,ag,dX ag t⟩) (hl:aZ D w lv l) (hn:aJ D' w nv ag) (hw:aJ D3 w wv want) (hwn:bh want=true) (htl:t.length≤maxLen):
 Calls Tryz.prog 81 #[lv,nv,wv,str t] w λe w'=>e=.returned (.tuple #[str (mD ⟨l,ag,dX ag t⟩ want t).1,.bool (mD ⟨l,ag,dX ag t⟩ want t).2.1,.int .i64 (mD ⟨l,ag,dX ag t⟩ want t).2.2])∧Below w.heap.size w w':=by
 have HP:=λW (hW:Below w.heap.size w W)=>DA ag nv t W (hn.below hW (nl _)) htl
 have HG:=λW (hW:Below w.heap.size w W)=>rK ⟨l,ag,dX ag t⟩ fW lv nv t W (hl.below hW (nl _)) (hn.below hW (nl _)) htl
 simp only at HG
 by_cases h0:dx ⟨l,ag,dX ag t⟩ t=0
 · have QW:=ry h0
   have HX:=Lib.hid (show mD ⟨l,ag,dX ag t⟩ want t=((dP ⟨l,ag,dX ag t⟩ want t).getD [],(dP ⟨l,ag,dX ag t⟩ want t).isNone,0) by unfold mD;rw[if_neg (by simp[h0])]);have HF:=λW (hW:Below w.heap.size w W)=>yb ⟨l,ag,dX ag t⟩ 6 (nJ _ fW 7) fW lv nv wv want t W (hl.below hW (nl _)) (hn.below hW (nl _)) (hw.below hW (nl _)) (λo ho=>Nat.le_trans ((dr hwn).2 o ho).1 (by decide)) QW (Cw QW) (by have:=oh t;omega)
   rw[rj QW (ve _ _ fW.1 fW.2) (.inr h0)] at HF;simp only at HF;rw[h0] at HG;generalize dP ⟨l,ag,dX ag t⟩ want t=LK at *;generalize mD ⟨l,ag,dX ag t⟩ want t=FI at *;generalize dX ag t=PK at *;obtain⟨p,cl,rfl,_⟩:=hl.shape;obtain⟨q,cq,rfl,_⟩:=hn.shape;obtain⟨r,cr,rfl,_⟩:=hw.shape;clear hl hn hw h0;go_enter Tryz.func81,Tryz.ntmps81;go_wp2_with (first
    | (go_at_call 131;refine(HF _ dg).mono ?_;clear HF;rintro e w4 ⟨rfl,hb4⟩;have dH:=dg.trans (af hb4 dg.size))
    | (go_at_call 69;refine(HP _ bW).mono ?_;clear HP;rintro e w3 ⟨rfl,aK⟩;have dg:=bW.trans (af aK bW.size))
    | (go_at_call 68;refine(HG _ ay).mono ?_;clear HG;rintro e w2 ⟨rfl,aA⟩;have bW:=ay.trans (af aA ay.size))
    | (go_at_call 69;refine(HP _ (Below.refl _ _)).mono ?_;rintro e w1 ⟨rfl,ay⟩))
   go_ret3
   rw[HX.out];exact⟨rfl,dH⟩
 · have HX:=Lib.hid (show mD ⟨l,ag,dX ag t⟩ want t=([],false,dx ⟨l,ag,dX ag t⟩ t) by unfold mD;rw[if_pos h0])
   obtain⟨g1,g2⟩:=bC h0;generalize dx ⟨l,ag,dX ag t⟩ t=GK at *;generalize mD ⟨l,ag,dX ag t⟩ want t=FI at *;generalize dX ag t=PK at *;obtain⟨p,cl,rfl,_⟩:=hl.shape;obtain⟨q,cq,rfl,_⟩:=hn.shape;obtain⟨r,cr,rfl,_⟩:=hw.shape;clear hl hn hw h0;go_enter Tryz.func81,Tryz.ntmps81;go_wp2_with (first
    | (go_at_call 68;refine(HG _ ay).mono ?_;clear HG;rintro e w2 ⟨rfl,aA⟩;have bW:=ay.trans (af aA ay.size))
    | (go_at_call 69;refine(HP _ (Below.refl _ _)).mono ?_;clear HP;rintro e w1 ⟨rfl,ay⟩))
   go_ret3
   rw[HX.out];exact⟨rfl,bW⟩
theorem N3 {D D' D3:Nat→Prop} (l:List aB) (ag:List aG) (lv nv wv:Value) (want:List aG) (t:List UInt8) (w:World) (hl:aZ D w lv l) (hn:aJ D' w nv ag) (hw:aJ D3 w wv want) (htl:t.length≤maxLen):
 Calls Tryz.prog 30 #[lv,nv,wv,str t] w λe w'=>e=.returned (.tuple #[str (mE l ag want t).1,.bool (mE l ag want t).2.1,.int .i64 (mE l ag want t).2.2])∧Below w.heap.size w w':=by
 have HA:=uZ l (Bl l) lv ag nv w hl hn
 have HN:=λW (hW:Below w.heap.size w W)=>jB want wv W (hw.below hW (nl _))
 have hX:=Hp l ag want t
 generalize mE l ag want t=FL at *
 by_cases h0:bP l ag=0
 · rw [if_neg (by simp [h0])] at hX
   have fW:=wQ (par:=dX ag t) h0;rw[h0] at HA
   by_cases h1:bh want=true
   · rw[if_neg (by simp[h1])] at hX
     have HX:=Lib.hid hX;have HF:=λW (hW:Below w.heap.size w W)=>Bt l ag lv nv wv want t W fW (hl.below hW (nl _)) (hn.below hW (nl _)) (hw.below hW (nl _)) h1 htl
     rw[h1] at HN;generalize mD ⟨l,ag,dX ag t⟩ want t=FI at *;obtain⟨p,cl,rfl,_⟩:=hl.shape;obtain⟨q,cq,rfl,_⟩:=hn.shape;obtain⟨r,cr,rfl,_⟩:=hw.shape;clear hl hn hw h0 h1 hX fW;go_enter Tryz.func30,Tryz.ntmps30;go_wp2_with (first
      | (go_at_call 81;refine(HF _ bW).mono ?_;clear HF;rintro e w3 ⟨rfl,aK⟩)
      | (go_at_call 80;refine(HN _ ay).mono ?_;clear HN;rintro e w2 ⟨rfl,aA⟩;have bW:=ay.trans (af aA ay.size))
      | (go_at_call 60;refine HA.mono ?_;clear HA;rintro e w1 ⟨rfl,ay⟩))
     go_ret3
     rw[HX.out];exact⟨rfl,bW.trans (af aK bW.size)⟩
   · rw[if_pos (by simpa using h1)] at hX
     have HX:=Lib.hid hX;rw[show bh want=false by simpa using h1] at HN;obtain⟨p,cl,rfl,_⟩:=hl.shape;obtain⟨q,cq,rfl,_⟩:=hn.shape;obtain⟨r,cr,rfl,_⟩:=hw.shape;clear hl hn hw h0 h1 hX fW;go_enter Tryz.func30,Tryz.ntmps30;go_wp2_with (first
      | (go_at_call 80;refine(HN _ ay).mono ?_;clear HN;rintro e w2 ⟨rfl,aA⟩)
      | (go_at_call 60;refine HA.mono ?_;clear HA;rintro e w1 ⟨rfl,ay⟩))
     go_ret3
     rw[HX.out];exact⟨rfl,ay.trans (af aA ay.size)⟩
 · rw[if_pos h0] at hX
   have HX:=Lib.hid hX;obtain⟨g1,g2⟩:=bC h0;have g3:((bP l ag:Int)==0)=false:=by rw[beq_eq_false_iff_ne];omega
   generalize bP l ag=AS at *;obtain⟨p,cl,rfl,_⟩:=hl.shape;obtain⟨q,cq,rfl,_⟩:=hn.shape;obtain⟨r,cr,rfl,_⟩:=hw.shape;clear hl hn hw h0 hX;go_enter Tryz.func30,Tryz.ntmps30;go_wp2_with (go_at_call 60;refine HA.mono ?_;clear HA;rintro e w1 ⟨rfl,ay⟩)
   go_ret3
   rw[HX.out];exact⟨rfl,ay⟩
end Go.Proofs.YtakgjcfkdemipaaGreatDoor
