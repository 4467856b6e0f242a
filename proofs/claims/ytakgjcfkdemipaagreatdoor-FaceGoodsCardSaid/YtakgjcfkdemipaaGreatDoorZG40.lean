/-
  Lemmas for the statement: the law FaceGoods answers true. Conditions: bounds of lengths; the variable strings.asciiSpace.
-/
import Derived.Test.YtakgjcfkdemipaaGreatDoorZGn
import Derived.Test.YtakgjcfkdemipaaGreatDoorZG30
import Derived.Test.YtakgjcfkdemipaaGreatDoorZG35
set_option maxHeartbeats 25600000
namespace Go.Proofs.YtakgjcfkdemipaaGreatDoor
open Go Go.RowKit
theorem Cz {l:List aB} (h:qq l=true):∀f∈l,f.ag.length≤100000:=λf hf=>by
 rw[Ku,Bool.and_eq_true,List.all_eq_true] at h
 have h1:=h.1 f hf
 unfold jT r8 ir at h1
 simp only[Bool.and_eq_true,decide_eq_true_eq] at h1
 omega
set_option maxRecDepth 8000 in
theorem Ai (l:List aB) (ag:List aG) (par:Bool) (t:List UInt8) (lv nv:Value) (w:World) (hT:fN w) (hl:aZ Any w lv l) (hn:aJ Any w nv ag) (htl:t.length≤maxLen):
 Calls Tryz.prog 3 #[lv,nv,.bool par,str t] w λe w'=>e=.returned (.bool true)∧Below w.heap.size w w':=by
 obtain⟨lp,lc,rfl,_⟩:=hl.shape
 obtain⟨np,nc,rfl,_⟩:=hn.shape
 have hA:=Below.refl w.heap.size w
 have HT:=Lib.hid (λW (hW:Below w.heap.size w W)=>hT.below hW (nl _))
 have HS:=λW hW=>Gg W (HT.out W hW)
 have HF:=λW (hW:Below w.heap.size w W)=>I5 l _ W (hl.below hW (nl _))
 have HN:=λW (hW:Below w.heap.size w W)=>sr ag _ W (hn.below hW (nl _))
 have HH:=λW=>iA [t] (.slice (some ⟨W.heap.size,0,none⟩) 1 1) (W.alloc (.cells #[str t] 9)) (BJ (D:=Any) W W.heap.size rfl trivial [t] (by simp[maxLen]) (by simpa using htl) 9)
 rcases q1:qq l with _|_
 · rw[q1] at HF
   clear HN HH q1 hl hn;go_enter Tryz.func3,Tryz.ntmps3;go_wp2_with (first
    | (go_at_call 18;refine(HS w1 B1).mono ?_;rintro e w9 ⟨rfl,Kb⟩)
    | (go_at_call 15;refine(HF w hA).mono ?_;clear HF;rintro e w1 ⟨rfl,ay⟩;have B1:=hA.trans ay))
   go_ret;exact⟨rfl,B1.trans (af Kb B1.size)⟩
 rcases q2:ir ag with _|_
 · rw[q1] at HF
   rw[q2] at HN;clear HH q1 q2 hl hn;go_enter Tryz.func3,Tryz.ntmps3;go_wp2_with (first
    | (go_at_call 18;refine(HS w2 B2).mono ?_;rintro e w9 ⟨rfl,Kb⟩)
    | (go_at_call 16;refine(HN w1 B1).mono ?_;clear HN;rintro e w2 ⟨rfl,aA⟩;have B2:=B1.trans (af aA B1.size))
    | (go_at_call 15;refine(HF w hA).mono ?_;clear HF;rintro e w1 ⟨rfl,ay⟩;have B1:=hA.trans ay))
   go_ret;exact⟨rfl,B2.trans (af Kb B2.size)⟩
 have hfn:=Cz q1
 have hnl:ag.length≤6:=by unfold ir at q2;simp only[Bool.and_eq_true,decide_eq_true_eq] at q2;exact q2.2
 have HP:=λW (hW:Below w.heap.size w W)=>rq l _ ag _ par t W (HT.out W hW) (hl.below hW (nl _)) (hn.below hW (nl _)) hfn (by omega) htl
 have HR:=λW (hW:Below w.heap.size w W)=>Dx l (Bl l) _ ag _ par t W (hl.below hW (nl _)) (hn.below hW (nl _)) htl
 rw[q1] at HF
 rw[q2] at HN
 clear q1 q2 hl hn hfn hnl
 rcases q4:fh [t] with _|_
 · rw[q4] at HH
   clear q4 HP HR;go_enter Tryz.func3,Tryz.ntmps3;go_wp2_with (first
    | (go_at_call 18;refine(HS w4 B4).mono ?_;rintro e w9 ⟨rfl,Kb⟩)
    | (go_at_call 17;refine(HH w2).mono ?_;clear HH;rintro e w4 ⟨rfl,hb4⟩;have B4:=(B2.alloc B2.size (.cells #[str t] 9)).trans (af hb4 (B2.alloc B2.size (.cells #[str t] 9)).size))
    | (go_at_call 16;refine(HN w1 B1).mono ?_;clear HN;rintro e w2 ⟨rfl,aA⟩;have B2:=B1.trans (af aA B1.size))
    | (go_at_call 15;refine(HF w hA).mono ?_;clear HF;rintro e w1 ⟨rfl,ay⟩;have B1:=hA.trans ay))
   go_ret;exact⟨rfl,B4.trans (af Kb B4.size)⟩
 rw[q4] at HH
 clear q4
 generalize oJ l ag par t=n at HP HR
 go_enter Tryz.func3,Tryz.ntmps3
 go_wp2_with (first
  | (go_at_call 20;refine(HR w6 B6).mono ?_;clear HR;rintro e w7 ⟨rfl,qw⟩;have B7:=B6.trans (af qw B6.size))
  | (go_at_call 19;refine(HP w5 B5).mono ?_;clear HP;rintro e w6 ⟨rfl,jw⟩;have B6:=B5.trans (af jw B5.size))
  | (go_at_call 18;refine(HS w4 B4).mono ?_;rintro e w5 ⟨rfl,cW⟩;have B5:=B4.trans (af cW B4.size))
  | (go_at_call 17;refine(HH w2).mono ?_;clear HH;rintro e w4 ⟨rfl,hb4⟩;have B4:=(B2.alloc B2.size (.cells #[str t] 9)).trans (af hb4 (B2.alloc B2.size (.cells #[str t] 9)).size))
  | (go_at_call 16;refine(HN w1 B1).mono ?_;clear HN;rintro e w2 ⟨rfl,aA⟩;have B2:=B1.trans (af aA B1.size))
  | (go_at_call 15;refine(HF w hA).mono ?_;clear HF;rintro e w1 ⟨rfl,ay⟩;have B1:=hA.trans ay))
 go_ret
 exact⟨by simp,B7⟩
end Go.Proofs.YtakgjcfkdemipaaGreatDoor
