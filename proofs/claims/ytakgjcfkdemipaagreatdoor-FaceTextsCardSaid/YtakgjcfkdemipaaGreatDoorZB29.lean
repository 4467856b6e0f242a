/-
  Lemmas for the statement: contracts: of the package face: joined, kinds, line. Conditions: bounds of lengths; the variable strings.asciiSpace.
-/
import Derived.Test.YtakgjcfkdemipaaGreatDoorZBn
import Derived.Test.YtakgjcfkdemipaaGreatDoorZB19
set_option maxHeartbeats 12800000
namespace Go.Proofs.YtakgjcfkdemipaaGreatDoor
open Go.RowKit
theorem iQ {D:Nat→Prop} {L:List (List UInt8)} {J:List UInt8} (hJ:L.flatten=J) (v:Value) (w:World) (h:SS D w v L) (hlen:J.length≤1000000) (hn:L.length≤1000000):
 Calls Tryz.prog 105 #[v] w λe w'=>e=.returned (str J)∧Below w.heap.size w w':=by
 have HC:=Bb L [] v w h (by rw[oB,hJ];omega) (by omega)
 rw[oB,hJ] at HC
 obtain⟨p,c,rfl,_⟩:=h.shape
 clear hJ h
 go_enter Tryz.func105,Tryz.ntmps105
 go_wp2_with (go_at_call 165;refine HC.mono ?_;clear HC;rintro e w2 ⟨rfl,hb⟩)
 go_ret
 exact⟨rfl,hb⟩
theorem wG {D:Nat→Prop} (ss:List (List UInt8)) (v:Value) (w:World) (h:SS D w v ss) (hlen:(cH ss).length≤1000000) (hn:ss.length≤1000000):
 Calls Tryz.prog 165 #[v,str [44]] w λe w'=>e=.returned (str (cH ss))∧Below w.heap.size w w':=by
 have HC:=Bb ss [44] v w h (by rw[join_eq];omega) (by omega)
 rw[join_eq] at HC
 exact HC
theorem Cj (w:World):Calls Tryz.prog 106 #[] w λe w'=>e=.returned (.agg #[str [],str [112,114,111,99],str [105,116,101,114],str [99,108,117,115,116,101,114]])∧Below w.heap.size w w':=by
 go_enter Tryz.func106,Tryz.ntmps106
 go_wp2_with fail
 have hg:=heap_alloc_new w (.cells #[str [],str [112,114,111,99],str [105,116,101,114],str [99,108,117,115,116,101,114]] 127)
 refine bodyPost_ret (v:=.agg #[str [],str [112,114,111,99],str [105,116,101,114],str [99,108,117,115,116,101,114]]) (by simp[results,Tryz.results106,go_sem]) rfl ?_
 exact⟨rfl,(zb _).alloc zr _⟩
theorem zW (wd nm:List UInt8) (s:bP) (hw:wd.length≤10) (hn:nm.length≤12) (hs:qp s):∃X1 X2 X3 X4:List UInt8,
 [wd,[32],nm,[32],cond s.iter [105,116,101,114,40] [112,114,111,99,40],cH s.args,[41]].flatten=X1∧[X1,cond s.iter [32,121,105,101,108,100,115,32] [32,114,101,116,117,114,110,115,32],s.res].flatten=X2∧
 [X1,[32,115,105,103,110,97,108,115,40],cH s.sigs,[41]].flatten=X3∧[X2,[32,115,105,103,110,97,108,115,40],cH s.sigs,[41]].flatten=X4∧
 X1.length≤1100∧X2.length≤1300∧X3.length≤1500∧X4.length≤1500∧dR wd ⟨nm,s⟩=(if s.res=[] then(if s.sigs=[] then X1 else X3) else(if s.sigs=[] then X2 else X4))++[10]:=by
 refine⟨_,_,_,_,rfl,rfl,rfl,rfl,?_,?_,?_,?_,?_⟩
 · have h1:=hs.a
   cases s.iter<;>simp<;>omega
 · have h1:=hs.a
   have h2:=hs.r;cases s.iter<;>simp<;>omega
 · have h1:=hs.a
   have h2:=hs.g;cases s.iter<;>simp<;>omega
 · have h1:=hs.a
   have h2:=hs.r;have h3:=hs.g;cases s.iter<;>simp<;>omega
 · unfold dR Ji
   cases s.iter<;>by_cases hr:s.res=[]<;>by_cases hg:s.sigs=[]<;>simp[hr,hg]
set_option maxRecDepth 8000 in
theorem xM {D:Nat→Prop} (wd nm:List UInt8) (v:Value) (s:bP) (w:World) (hv:aT D w v s) (hw:wd.length≤10) (hn:nm.length≤12) (hs:qp s):
 Calls Tryz.prog 107 #[str wd,str nm,v] w λe w'=>e=.returned (str (dR wd ⟨nm,s⟩))∧Below w.heap.size w w':=by
 obtain⟨a,g,rfl,Cc,fe,DG⟩:=hv
 obtain⟨X1,X2,X3,X4,e1,e2,e3,e4,l1,l2,l3,l4,hL⟩:=zW wd nm s hw hn hs
 have hA:=(zb w).alloc zr (.cells #[.bool s.iter,a,str s.res,g] 36)
 have bT:=heap_alloc_new w (.cells #[.bool s.iter,a,str s.res,g] 36)
 have LJ:=λW (hW:Below (w.heap.size+1) (w.alloc (.cells #[.bool s.iter,a,str s.res,g] 36)) W)=>wG s.args a W ((fe.below hA zr).below hW (by simp)) (by have:=hs.a;omega) (by have:=hs.an;omega)
 have LM:=λW (hW:Below (w.heap.size+1) (w.alloc (.cells #[.bool s.iter,a,str s.res,g] 36)) W)=>wG s.sigs g W ((DG.below hA zr).below hW (by simp)) (by have:=hs.g;omega) (by have:=hs.gn;omega)
 have hle:wd.length≤maxLen∧nm.length≤maxLen∧(cH s.args).length≤maxLen∧(cH s.sigs).length≤maxLen∧s.res.length≤maxLen∧X1.length≤maxLen∧X2.length≤maxLen:=by
  have:=hs.a;have:=hs.r;have:=hs.g;unfold maxLen;omega
 obtain⟨m1,m2,m3,m4,m5,m6,m7⟩:=hle
 have H1:=λW=>iQ e1 _ _ (SS.new (λ_=>True) W trivial _ 9 (0,0) (by simp[maxLen]) (by intro x hx;cases hi:s.iter<;>rw[hi] at hx<;>simp only[cond_true,cond_false,List.mem_cons,List.not_mem_nil,or_false] at hx<;>rcases hx with hx|hx|hx|hx|hx|hx|hx<;>rw[hx]<;>first|assumption|simp[maxLen])) (by omega) (by simp)
 have H2:=λW=>iQ e2 _ _ (SS.new (λ_=>True) W trivial _ 9 (0,0) (by simp[maxLen]) (by intro x hx;cases hi:s.iter<;>rw[hi] at hx<;>simp only[cond_true,cond_false,List.mem_cons,List.not_mem_nil,or_false] at hx<;>rcases hx with hx|hx|hx<;>rw[hx]<;>first|assumption|simp[maxLen])) (by omega) (by simp)
 have H3:=λW=>iQ e3 _ _ (SS.new (λ_=>True) W trivial _ 9 (0,0) (by simp[maxLen]) (by intro x hx;simp only[List.mem_cons,List.not_mem_nil,or_false] at hx;rcases hx with hx|hx|hx|hx<;>rw[hx]<;>first|assumption|simp[maxLen])) (by omega) (by simp)
 have H4:=λW=>iQ e4 _ _ (SS.new (λ_=>True) W trivial _ 9 (0,0) (by simp[maxLen]) (by intro x hx;simp only[List.mem_cons,List.not_mem_nil,or_false] at hx;rcases hx with hx|hx|hx|hx<;>rw[hx]<;>first|assumption|simp[maxLen])) (by omega) (by simp)
 obtain⟨pa,ca,rfl,_⟩:=fe.shape
 obtain⟨pg,cg,rfl,_⟩:=DG.shape
 have HL:=zh hL
 clear fe DG e1 e2 e3 e4 hL hs hw hn m1 m2 m3 m4 m5 m6 m7
 obtain⟨it,args,res,sigs⟩:=s
 dsimp only at *
 have q0:Below (w.heap.size+1) (w.alloc (.cells #[.bool it,.slice pa args.length ca,str res,.slice pg sigs.length cg] 36)) (w.alloc (.cells #[.bool it,.slice pa args.length ca,str res,.slice pg sigs.length cg] 36)):=zb _
 have n1:¬9223372036854775807<X1.length+1:=by omega
 have n2:¬9223372036854775807<X2.length+1:=by omega
 have n3:¬9223372036854775807<X3.length+1:=by omega
 have n4:¬9223372036854775807<X4.length+1:=by omega
 have bx:=(aN bT).1
 by_cases hr:res=[]
 · subst hr
   clear H2 H4;rcases Nat.eq_zero_or_pos sigs.length with hg|hg
   · obtain rfl:=List.length_eq_zero_iff.1 hg
     clear LM H3;cases it
     all_goals
      have uL:=HL.out;simp only[if_true] at uL;have uL:=zh uL;clear HL;go_enter Tryz.func107,Tryz.ntmps107;go_wp2_with (first
       | (go_at_call 105;refine(H1 w2).mono ?_;rintro e w3 ⟨rfl,aH⟩;have q3:Below (w.heap.size+1) _ w3:=(q2.alloc (by simpa using q2.size) _).trans (af aH (by have:=q2.size;simp at this ⊢;omega));have yR:=(aN (cG bT q3 (by omega))).1)
       | (go_at_call 165;refine(LJ _ q0).mono ?_;rintro e w2 ⟨rfl,aC⟩;have q2:=q0.trans (af aC (by simp))))
      go_ret;exact⟨by rw[uL.out];rfl,hA.trans (af q3 (Nat.le_succ _))⟩
   · have hg2:¬sigs=[]:=λe=>by rw[e] at hg;simp at hg
     have hg3:(0:Int)<(sigs.length:Int):=by omega
     cases it
     all_goals
      have uL:=HL.out;simp only[hg2,if_true,if_false] at uL;have uL:=zh uL;clear HL hg2;go_enter Tryz.func107,Tryz.ntmps107;go_wp2_with (first
       | (go_at_call 105;refine(H3 w5).mono ?_;rintro e w6 ⟨rfl,jJ⟩;have q6:Below (w.heap.size+1) _ w6:=(q5.alloc (by simpa using q5.size) _).trans (af jJ (by have:=q5.size;simp at this ⊢;omega)))
       | (go_at_call 165;refine(LM w3 q3).mono ?_;rintro e w5 ⟨rfl,eT⟩;have q5:=q3.trans (af eT (by simpa using q3.size)))
       | (go_at_call 105;refine(H1 w2).mono ?_;rintro e w3 ⟨rfl,aH⟩;have q3:Below (w.heap.size+1) _ w3:=(q2.alloc (by simpa using q2.size) _).trans (af aH (by have:=q2.size;simp at this ⊢;omega));have yR:=(aN (cG bT q3 (by omega))).1)
       | (go_at_call 165;refine(LJ _ q0).mono ?_;rintro e w2 ⟨rfl,aC⟩;have q2:=q0.trans (af aC (by simp))))
      go_ret;exact⟨by rw[uL.out];rfl,hA.trans (af q6 (Nat.le_succ _))⟩
 · clear H3
   have gr:res.isEmpty=false:=by cases res<;>simp at hr ⊢
   have T3:=zh hr;rcases Nat.eq_zero_or_pos sigs.length with hg|hg
   · obtain rfl:=List.length_eq_zero_iff.1 hg
     clear LM H4;cases it
     all_goals
      have uL:=HL.out;simp only[hr,if_true,if_false] at uL;have uL:=zh uL;clear HL hr;go_enter Tryz.func107,Tryz.ntmps107;go_wp2_with (first
       | (go_at_call 105;refine(H2 w3).mono ?_;rintro e w4 ⟨rfl,hb4⟩;have q4:Below (w.heap.size+1) _ w4:=(q3.alloc (by simpa using q3.size) _).trans (af hb4 (by have:=q3.size;simp at this ⊢;omega));have O0:=(aN (cG bT q4 (by omega))).1)
       | (go_at_call 105;refine(H1 w2).mono ?_;rintro e w3 ⟨rfl,aH⟩;have q3:Below (w.heap.size+1) _ w3:=(q2.alloc (by simpa using q2.size) _).trans (af aH (by have:=q2.size;simp at this ⊢;omega));have yR:=(aN (cG bT q3 (by omega))).1)
       | (go_at_call 165;refine(LJ _ q0).mono ?_;rintro e w2 ⟨rfl,aC⟩;have q2:=q0.trans (af aC (by simp))))
      go_ret;exact⟨by rw[uL.out];rfl,hA.trans (af q4 (Nat.le_succ _))⟩
   · have hg2:¬sigs=[]:=λe=>by rw[e] at hg;simp at hg
     have hg3:(0:Int)<(sigs.length:Int):=by omega
     cases it
     all_goals
      have uL:=HL.out;simp only[hr,hg2,if_false] at uL;have uL:=zh uL;clear HL hg2 hr;go_enter Tryz.func107,Tryz.ntmps107;go_wp2_with (first
       | (go_at_call 105;refine(H4 w5).mono ?_;rintro e w6 ⟨rfl,jJ⟩;have q6:Below (w.heap.size+1) _ w6:=(q5.alloc (by simpa using q5.size) _).trans (af jJ (by have:=q5.size;simp at this ⊢;omega)))
       | (go_at_call 165;refine(LM w4 q4).mono ?_;rintro e w5 ⟨rfl,eT⟩;have q5:=q4.trans (af eT (by simpa using q4.size)))
       | (go_at_call 105;refine(H2 w3).mono ?_;rintro e w4 ⟨rfl,hb4⟩;have q4:Below (w.heap.size+1) _ w4:=(q3.alloc (by simpa using q3.size) _).trans (af hb4 (by have:=q3.size;simp at this ⊢;omega));have O0:=(aN (cG bT q4 (by omega))).1)
       | (go_at_call 105;refine(H1 w2).mono ?_;rintro e w3 ⟨rfl,aH⟩;have q3:Below (w.heap.size+1) _ w3:=(q2.alloc (by simpa using q2.size) _).trans (af aH (by have:=q2.size;simp at this ⊢;omega));have yR:=(aN (cG bT q3 (by omega))).1)
       | (go_at_call 165;refine(LJ _ q0).mono ?_;rintro e w2 ⟨rfl,aC⟩;have q2:=q0.trans (af aC (by simp))))
      go_ret;exact⟨by rw[uL.out];rfl,hA.trans (af q6 (Nat.le_succ _))⟩
set_option maxRecDepth 4000 in
theorem Hx (s:List UInt8) (hm:s.length≤maxLen) (w:World):
 Calls Tryz.prog 127 #[str s] w λe w'=>∃v,e=.returned (.tuple #[v,.int .i64 (cT s).2])∧Strs w' v (cT s).1∧Below w.heap.size w w':=by
 rcases hq:aq s with⟨c,T⟩
 by_cases hc:c=0
 · subst hc
   rw[show cT s=(jL T.ins,0) by unfold cT;rw[hq];rfl];exact vF s T hq w
 · rw[show cT s=([],c) by unfold cT;rw[hq,if_neg hc]]
   have hC:=nw s hm w;rw[hq] at hC;obtain⟨g1,g2⟩:=bK hc;clear hq hc;go_enter Tryz.func127,Tryz.ntmps127;go_wp2_with (go_at_call 84;refine hC.mono ?_;clear hC;rintro e w1 ⟨rfl,au⟩);go_ret2;exact⟨_,rfl,Sl.nil _,au⟩

end Go.Proofs.YtakgjcfkdemipaaGreatDoor
