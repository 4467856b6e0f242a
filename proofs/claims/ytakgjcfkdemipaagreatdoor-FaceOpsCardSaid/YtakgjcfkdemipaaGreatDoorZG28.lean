/-
  Lemmas for the statement: contracts: of the package face: joined, kinds, line. Conditions: bounds of lengths; the variable strings.asciiSpace.
-/
import Derived.Test.YtakgjcfkdemipaaGreatDoorZGn
import Derived.Test.YtakgjcfkdemipaaGreatDoorZG19
set_option maxHeartbeats 12800000
namespace Go.Proofs.YtakgjcfkdemipaaGreatDoor
open Go.RowKit
theorem jX {D:Nat→Prop} {L:List (List UInt8)} {J:List UInt8} (hJ:L.flatten=J) (v:Value) (w:World) (h:SS D w v L) (hlen:J.length≤1000000) (hn:L.length≤1000000):
 Calls Tryz.prog 105 #[v] w λe w'=>e=.returned (str J)∧Below w.heap.size w w':=by
 have HC:=Ei L [] v w h (by rw[rF,hJ];omega) (by omega)
 rw[rF,hJ] at HC
 obtain⟨p,c,rfl,_⟩:=h.shape
 clear hJ h
 go_enter Tryz.func105,Tryz.ntmps105
 go_wp2_with (go_at_call 165;refine HC.mono ?_;clear HC;rintro e w2 ⟨rfl,hb⟩)
 go_ret
 exact⟨rfl,hb⟩
theorem zY {D:Nat→Prop} (ss:List (List UInt8)) (v:Value) (w:World) (h:SS D w v ss) (hlen:(ei ss).length≤1000000) (hn:ss.length≤1000000):
 Calls Tryz.prog 165 #[v,str [44]] w λe w'=>e=.returned (str (ei ss))∧Below w.heap.size w w':=by
 have HC:=Ei ss [44] v w h (by rw[join_eq];omega) (by omega)
 rw[join_eq] at HC
 exact HC
theorem Fs (w:World):Calls Tryz.prog 106 #[] w λe w'=>e=.returned (.agg #[str [],str [112,114,111,99],str [105,116,101,114],str [99,108,117,115,116,101,114]])∧Below w.heap.size w w':=by
 go_enter Tryz.func106,Tryz.ntmps106
 go_wp2_with fail
 have hg:=heap_alloc_new w (.cells #[str [],str [112,114,111,99],str [105,116,101,114],str [99,108,117,115,116,101,114]] 127)
 refine bodyPost_ret (v:=.agg #[str [],str [112,114,111,99],str [105,116,101,114],str [99,108,117,115,116,101,114]]) (by simp[results,Tryz.results106,go_sem]) rfl ?_
 exact⟨rfl,(Below.refl _ _).alloc (nl _) _⟩
theorem C6 (wd nm:List UInt8) (s:cD) (hw:wd.length≤10) (hn:nm.length≤12) (hs:tr s):∃X1 X2 X3 X4:List UInt8,
 [wd,[32],nm,[32],cond s.iter [105,116,101,114,40] [112,114,111,99,40],ei s.args,[41]].flatten=X1∧[X1,cond s.iter [32,121,105,101,108,100,115,32] [32,114,101,116,117,114,110,115,32],s.res].flatten=X2∧
 [X1,[32,115,105,103,110,97,108,115,40],ei s.sigs,[41]].flatten=X3∧[X2,[32,115,105,103,110,97,108,115,40],ei s.sigs,[41]].flatten=X4∧
 X1.length≤1100∧X2.length≤1300∧X3.length≤1500∧X4.length≤1500∧fG wd ⟨nm,s⟩=(if s.res=[] then(if s.sigs=[] then X1 else X3) else(if s.sigs=[] then X2 else X4))++[10]:=by
 refine⟨_,_,_,_,rfl,rfl,rfl,rfl,?_,?_,?_,?_,?_⟩
 · have h1:=hs.a
   cases s.iter<;>simp<;>omega
 · have h1:=hs.a
   have h2:=hs.r;cases s.iter<;>simp<;>omega
 · have h1:=hs.a
   have h2:=hs.g;cases s.iter<;>simp<;>omega
 · have h1:=hs.a
   have h2:=hs.r;have h3:=hs.g;cases s.iter<;>simp<;>omega
 · unfold fG Oa
   cases s.iter<;>by_cases hr:s.res=[]<;>by_cases hg:s.sigs=[]<;>simp[hr,hg]
set_option maxRecDepth 8000 in
theorem AZ {D:Nat→Prop} (wd nm:List UInt8) (v:Value) (s:cD) (w:World) (hv:aT D w v s) (hw:wd.length≤10) (hn:nm.length≤12) (hs:tr s):
 Calls Tryz.prog 107 #[str wd,str nm,v] w λe w'=>e=.returned (str (fG wd ⟨nm,s⟩))∧Below w.heap.size w w':=by
 obtain⟨a,g,rfl,Fj,dy,Ia⟩:=hv
 obtain⟨X1,X2,X3,X4,e1,e2,e3,e4,l1,l2,l3,l4,hL⟩:=C6 wd nm s hw hn hs
 have hA:=(Below.refl _ w).alloc (nl _) (.cells #[.bool s.iter,a,str s.res,g] 36)
 have cI:=heap_alloc_new w (.cells #[.bool s.iter,a,str s.res,g] 36)
 have RX:=λW (hW:Below (w.heap.size+1) (w.alloc (.cells #[.bool s.iter,a,str s.res,g] 36)) W)=>zY s.args a W ((dy.below hA (nl _)).below hW (by simp)) (by have:=hs.a;omega) (by have:=hs.an;omega)
 have RY:=λW (hW:Below (w.heap.size+1) (w.alloc (.cells #[.bool s.iter,a,str s.res,g] 36)) W)=>zY s.sigs g W ((Ia.below hA (nl _)).below hW (by simp)) (by have:=hs.g;omega) (by have:=hs.gn;omega)
 have hle:wd.length≤maxLen∧nm.length≤maxLen∧(ei s.args).length≤maxLen∧(ei s.sigs).length≤maxLen∧s.res.length≤maxLen∧X1.length≤maxLen∧X2.length≤maxLen:=by
  have:=hs.a;have:=hs.r;have:=hs.g;unfold maxLen;omega
 obtain⟨m1,m2,m3,m4,m5,m6,m7⟩:=hle
 have H1:=λW=>jX e1 _ _ (SS.new (λ_=>True) W trivial _ 9 (0,0) (by simp[maxLen]) (by intro x hx;cases hi:s.iter<;>rw[hi] at hx<;>simp only[cond_true,cond_false,List.mem_cons,List.not_mem_nil,or_false] at hx<;>rcases hx with hx|hx|hx|hx|hx|hx|hx<;>rw[hx]<;>first|assumption|simp[maxLen])) (by omega) (by simp)
 have H2:=λW=>jX e2 _ _ (SS.new (λ_=>True) W trivial _ 9 (0,0) (by simp[maxLen]) (by intro x hx;cases hi:s.iter<;>rw[hi] at hx<;>simp only[cond_true,cond_false,List.mem_cons,List.not_mem_nil,or_false] at hx<;>rcases hx with hx|hx|hx<;>rw[hx]<;>first|assumption|simp[maxLen])) (by omega) (by simp)
 have H3:=λW=>jX e3 _ _ (SS.new (λ_=>True) W trivial _ 9 (0,0) (by simp[maxLen]) (by intro x hx;simp only[List.mem_cons,List.not_mem_nil,or_false] at hx;rcases hx with hx|hx|hx|hx<;>rw[hx]<;>first|assumption|simp[maxLen])) (by omega) (by simp)
 have H4:=λW=>jX e4 _ _ (SS.new (λ_=>True) W trivial _ 9 (0,0) (by simp[maxLen]) (by intro x hx;simp only[List.mem_cons,List.not_mem_nil,or_false] at hx;rcases hx with hx|hx|hx|hx<;>rw[hx]<;>first|assumption|simp[maxLen])) (by omega) (by simp)
 obtain⟨pa,ca,rfl,_⟩:=dy.shape
 obtain⟨pg,cg,rfl,_⟩:=Ia.shape
 have HL:=Lib.hid hL
 clear dy Ia e1 e2 e3 e4 hL hs hw hn m1 m2 m3 m4 m5 m6 m7
 obtain⟨it,args,res,sigs⟩:=s
 dsimp only at *
 have q0:Below (w.heap.size+1) (w.alloc (.cells #[.bool it,.slice pa args.length ca,str res,.slice pg sigs.length cg] 36)) (w.alloc (.cells #[.bool it,.slice pa args.length ca,str res,.slice pg sigs.length cg] 36)):=Below.refl _ _
 have n1:¬9223372036854775807<X1.length+1:=by omega
 have n2:¬9223372036854775807<X2.length+1:=by omega
 have n3:¬9223372036854775807<X3.length+1:=by omega
 have n4:¬9223372036854775807<X4.length+1:=by omega
 have bx:=(aU cI).1
 by_cases hr:res=[]
 · subst hr
   clear H2 H4;rcases Nat.eq_zero_or_pos sigs.length with hg|hg
   · obtain rfl:=List.length_eq_zero_iff.1 hg
     clear RY H3;cases it
     all_goals
      have yB:=HL.out;simp only[if_true] at yB;have yB:=Lib.hid yB;clear HL;go_enter Tryz.func107,Tryz.ntmps107;go_wp2_with (first
       | (go_at_call 105;refine(H1 w2).mono ?_;rintro e w3 ⟨rfl,aK⟩;have q3:Below (w.heap.size+1) _ w3:=(q2.alloc (by simpa using q2.size) _).trans (af aK (by have:=q2.size;simp at this ⊢;omega));have BZ:=(aU (dY cI q3 (by omega))).1)
       | (go_at_call 165;refine(RX _ q0).mono ?_;rintro e w2 ⟨rfl,aA⟩;have q2:=q0.trans (af aA (by simp))))
      go_ret;exact⟨by rw[yB.out];rfl,hA.trans (af q3 (Nat.le_succ _))⟩
   · have hg2:¬sigs=[]:=λe=>by rw[e] at hg;simp at hg
     have hg3:(0:Int)<(sigs.length:Int):=by omega
     cases it
     all_goals
      have yB:=HL.out;simp only[hg2,if_true,if_false] at yB;have yB:=Lib.hid yB;clear HL hg2;go_enter Tryz.func107,Tryz.ntmps107;go_wp2_with (first
       | (go_at_call 105;refine(H3 w5).mono ?_;rintro e w6 ⟨rfl,jw⟩;have q6:Below (w.heap.size+1) _ w6:=(q5.alloc (by simpa using q5.size) _).trans (af jw (by have:=q5.size;simp at this ⊢;omega)))
       | (go_at_call 165;refine(RY w3 q3).mono ?_;rintro e w5 ⟨rfl,cW⟩;have q5:=q3.trans (af cW (by simpa using q3.size)))
       | (go_at_call 105;refine(H1 w2).mono ?_;rintro e w3 ⟨rfl,aK⟩;have q3:Below (w.heap.size+1) _ w3:=(q2.alloc (by simpa using q2.size) _).trans (af aK (by have:=q2.size;simp at this ⊢;omega));have BZ:=(aU (dY cI q3 (by omega))).1)
       | (go_at_call 165;refine(RX _ q0).mono ?_;rintro e w2 ⟨rfl,aA⟩;have q2:=q0.trans (af aA (by simp))))
      go_ret;exact⟨by rw[yB.out];rfl,hA.trans (af q6 (Nat.le_succ _))⟩
 · clear H3
   have gr:res.isEmpty=false:=by cases res<;>simp at hr ⊢
   have gr2:=Lib.hid hr;rcases Nat.eq_zero_or_pos sigs.length with hg|hg
   · obtain rfl:=List.length_eq_zero_iff.1 hg
     clear RY H4;cases it
     all_goals
      have yB:=HL.out;simp only[hr,if_true,if_false] at yB;have yB:=Lib.hid yB;clear HL hr;go_enter Tryz.func107,Tryz.ntmps107;go_wp2_with (first
       | (go_at_call 105;refine(H2 w3).mono ?_;rintro e w4 ⟨rfl,hb4⟩;have q4:Below (w.heap.size+1) _ w4:=(q3.alloc (by simpa using q3.size) _).trans (af hb4 (by have:=q3.size;simp at this ⊢;omega));have Pm:=(aU (dY cI q4 (by omega))).1)
       | (go_at_call 105;refine(H1 w2).mono ?_;rintro e w3 ⟨rfl,aK⟩;have q3:Below (w.heap.size+1) _ w3:=(q2.alloc (by simpa using q2.size) _).trans (af aK (by have:=q2.size;simp at this ⊢;omega));have BZ:=(aU (dY cI q3 (by omega))).1)
       | (go_at_call 165;refine(RX _ q0).mono ?_;rintro e w2 ⟨rfl,aA⟩;have q2:=q0.trans (af aA (by simp))))
      go_ret;exact⟨by rw[yB.out];rfl,hA.trans (af q4 (Nat.le_succ _))⟩
   · have hg2:¬sigs=[]:=λe=>by rw[e] at hg;simp at hg
     have hg3:(0:Int)<(sigs.length:Int):=by omega
     cases it
     all_goals
      have yB:=HL.out;simp only[hr,hg2,if_false] at yB;have yB:=Lib.hid yB;clear HL hg2 hr;go_enter Tryz.func107,Tryz.ntmps107;go_wp2_with (first
       | (go_at_call 105;refine(H4 w5).mono ?_;rintro e w6 ⟨rfl,jw⟩;have q6:Below (w.heap.size+1) _ w6:=(q5.alloc (by simpa using q5.size) _).trans (af jw (by have:=q5.size;simp at this ⊢;omega)))
       | (go_at_call 165;refine(RY w4 q4).mono ?_;rintro e w5 ⟨rfl,cW⟩;have q5:=q4.trans (af cW (by simpa using q4.size)))
       | (go_at_call 105;refine(H2 w3).mono ?_;rintro e w4 ⟨rfl,hb4⟩;have q4:Below (w.heap.size+1) _ w4:=(q3.alloc (by simpa using q3.size) _).trans (af hb4 (by have:=q3.size;simp at this ⊢;omega));have Pm:=(aU (dY cI q4 (by omega))).1)
       | (go_at_call 105;refine(H1 w2).mono ?_;rintro e w3 ⟨rfl,aK⟩;have q3:Below (w.heap.size+1) _ w3:=(q2.alloc (by simpa using q2.size) _).trans (af aK (by have:=q2.size;simp at this ⊢;omega));have BZ:=(aU (dY cI q3 (by omega))).1)
       | (go_at_call 165;refine(RX _ q0).mono ?_;rintro e w2 ⟨rfl,aA⟩;have q2:=q0.trans (af aA (by simp))))
      go_ret;exact⟨by rw[yB.out];rfl,hA.trans (af q6 (Nat.le_succ _))⟩
end Go.Proofs.YtakgjcfkdemipaaGreatDoor
