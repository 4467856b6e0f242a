/-
  Lemmas for the statement: contract: the program's kind.sorted at parts: a few parts in the order of their names. Conditions: bounds of lengths; the variable strings.asciiSpace.
-/
import Derived.Shelf.SlSortCmp.InsertionK
import Derived.Test.YtakgjcfkdemipaaGreatDoorZBn
import Derived.Test.YtakgjcfkdemipaaGreatDoorZB10
import Derived.Test.YtakgjcfkdemipaaGreatDoorZB11
set_option maxHeartbeats 6400000
namespace Go.Proofs.YtakgjcfkdemipaaGreatDoor
section
open Go.RowKit Go.Sort
abbrev PV:=List UInt8×Tr×Option Addr×Nat×Nat
def MQ (x:PV):List Value:=[str x.1,.int .u8 x.2.1.k,str x.2.1.n,.slice x.2.2.1 x.2.2.2.1 x.2.2.2.2]
def Gr (W W':World):Prop:=∃q os,W'=grow (W.drewN q) os
theorem Gr.refl (W:World):Gr W W:=⟨0,#[],by simp[World.drewN]⟩
theorem Gr.alloc {W W':World} (h:Gr W W') (o:Obj):Gr W (W'.alloc o):=by
 obtain⟨q,os,rfl⟩:=h
 exact⟨q,os++ #[o],by rw[alloc_eq_grow,grow_grow]⟩
end
section
open Go.RowKit Go.Sort Go.Shelf
instance:Inhabited Tr:=⟨⟨0,[],.nil⟩⟩

end
section
open Go.RowKit
def Dd (w:World) (v:Value) (ps:List (List UInt8×List UInt8)):Prop:=
 (v=.slice none 0 0∧ps=[])∨∃b o c,v=.slice (some ⟨b,o,none⟩) ps.length c∧b<w.heap.size∧∀j (h:j<ps.length),w.cell? ⟨b,o+j * 2,none⟩=some (str ps[j].1)∧w.cell? ⟨b,o+j * 2+1,none⟩=some (str ps[j].2)
theorem Dd.below {w w':World} {v:Value} {ps:List (List UInt8×List UInt8)} (h:Dd w v ps) (hb:Below w.heap.size w w'):Dd w' v ps:=by
 rcases h with h|⟨b,o,c,rfl,hl,hc⟩
 · exact .inl h
 · refine .inr ⟨b,o,c,rfl,Nat.lt_of_lt_of_le hl hb.size,λj h=>⟨Below.keep hb (hc j h).1,Below.keep hb (hc j h).2⟩⟩
theorem Dd.shape {w:World} {v:Value} {ps:List (List UInt8×List UInt8)} (h:Dd w v ps):∃p c,v=.slice p ps.length c:=by
 rcases h with⟨rfl,rfl⟩|⟨b,o,c,rfl,_⟩
 · exact⟨none,0,rfl⟩
 · exact⟨_,_,rfl⟩
theorem Dd.at {w:World} {v:Value} {ps:List (List UInt8×List UInt8)} (h:Dd w v ps) {j:Nat} (hj:j<ps.length):∃b o c x,v=.slice (some ⟨b,o,none⟩) ps.length c∧ps[j]? =some x∧w.cell? ⟨b,o+j * 2,none⟩=some (str x.1)∧w.cell? ⟨b,o+j * 2+1,none⟩=some (str x.2):=by
 rcases h with⟨rfl,rfl⟩|⟨b,o,c,rfl,hl,hc⟩
 · simp at hj
 · exact⟨b,o,c,ps[j],rfl,List.getElem?_eq_getElem hj,(hc j hj).1,(hc j hj).2⟩
def PR (w:World) (D:Nat→Prop) (v:Value) (l:List PV):Prop:=
 w.ownsRow 0 192 4 v l.length (l.flatMap MQ)∧(∀b,v.ownBlock=some b→D b)∧∀x∈l,dB w (λb=>D b∧v.ownBlock≠some b) x.2.1.sub (.slice x.2.2.1 x.2.2.2.1 x.2.2.2.2)
theorem PR.nil (w:World) (D:Nat→Prop):PR w D (.slice none 0 0) []:=⟨World.ownsRow_nil _ _ _ _,by intro b h;simp[Value.ownBlock] at h,by simp⟩
end
section
open Go.RowKit Go.Sort

end
open Go.RowKit
def Fo.pts:Fo→List (List UInt8×List UInt8)
 | .nil=>[]
 | .cons pn k n sub rest=>(pn,Tr.txt ⟨k,n,sub⟩)::rest.pts
theorem Fo.nS:∀fo:Fo,fo.pts.length=fo.len
 | .nil=>rfl
 | .cons pn k n sub rest=>by rw[Fo.pts,List.length_cons,Fo.nS rest];rfl
def p5 (ps:List (List UInt8×List UInt8)):List Value:=ps.flatMap λx=>[str x.1,str x.2]
theorem yg:∀(ps:List (List UInt8×List UInt8)) (j:Nat) (h:j<ps.length),(p5 ps)[j * 2]? =some (str ps[j].1)∧(p5 ps)[j * 2+1]? =some (str ps[j].2)
 | [],j,h=>by simp at h
 | x::ps,0,_=>⟨rfl,rfl⟩
 | x::ps,j+1,h=>by
  have:=yg ps j (by simpa using h);unfold p5 at this ⊢;simp only[List.flatMap_cons];rw[show(j+1) * 2=j * 2+1+1 from by omega];exact this
theorem CD (ps:List (List UInt8×List UInt8)) (x:List UInt8×List UInt8):p5 (ps++[x])=p5 ps++[str x.1,str x.2]:=by simp[p5]
theorem Dd.bH {w:World} {base:Nat} {e:TypeId} {v:Value} {ps:List (List UInt8×List UInt8)} (h:w.ownsRow base e 2 v ps.length (p5 ps)):Dd w v ps:=by
 rcases h.2 with⟨rfl,h0⟩|⟨g,cap,cur,rfl,_⟩
 · exact .inl ⟨rfl,List.length_eq_zero_iff.1 h0⟩
 · refine .inr ⟨g,0,cap,rfl,aK h rfl,λj hj=>?_⟩
   have hc:∀j x,(p5 ps)[j]? =some x→w.cell? ⟨g,j,none⟩=some x:=by
    intro j x hx;have:=h.cells (g:=g) rfl _ _ hx;simp only[Addr.add] at this;split at this
    · rename_i e;rw[e];exact this
    · simpa using this
   have h2:=yg ps j hj;rw[Nat.zero_add];exact⟨hc _ _ h2.1,hc _ _ h2.2⟩
theorem IY:(Tryz.prog.info? 155).map (λi=>(i.zero,i.size,i.bytes))=some (some (.agg #[.string ⟨#[]⟩,.string ⟨#[]⟩]),2,32):=by kernel_rfl
theorem Fb:Tryz.prog.underlying 151=some (.slice 155):=by kernel_rfl
theorem Cm {b pn:List UInt8} {k:Nat} {n:List UInt8} {sub rest:Fo} {s:List UInt8} {i:Nat} (h:Wf (some b) (.cons pn k n sub rest)) (hs:s.drop i=(Fo.cons pn k n sub rest).tx++[93]) (hi:i≤s.length):
 aj (s.drop i)=pn.length∧List.drop i (List.take (i+pn.length) s)=pn∧cW (s.drop (i+pn.length+1))=(Tr.txt ⟨k,n,sub⟩).length∧List.drop (i+pn.length+1) (List.take (i+pn.length+1+(Tr.txt ⟨k,n,sub⟩).length) s)=Tr.txt ⟨k,n,sub⟩∧
 i+pn.length+(Tr.txt ⟨k,n,sub⟩).length+2≤s.length∧((rest=.nil∧i+pn.length+(Tr.txt ⟨k,n,sub⟩).length+2=s.length)∨(Wf (some pn) rest∧s.drop (i+pn.length+(Tr.txt ⟨k,n,sub⟩).length+2)=rest.tx++[93])):=by
 have key:∀(c:UInt8) (Y:List UInt8),isName pn=true→Wf none (.cons [] k n sub .nil)→(c=93∨c=44)→s.drop i=pn++58::((Fo.cons [] k n sub .nil).tx++c::Y)→
  aj (s.drop i)=pn.length∧List.drop i (List.take (i+pn.length) s)=pn∧cW (s.drop (i+pn.length+1))=(Tr.txt ⟨k,n,sub⟩).length∧List.drop (i+pn.length+1) (List.take (i+pn.length+1+(Tr.txt ⟨k,n,sub⟩).length) s)=Tr.txt ⟨k,n,sub⟩∧
  s.length=i+pn.length+(Tr.txt ⟨k,n,sub⟩).length+2+Y.length∧s.drop (i+pn.length+(Tr.txt ⟨k,n,sub⟩).length+2)=Y:=by
  intro c Y hn h hc hs;have ho:(Tr.mk k n sub).ok:=h;have e:(Fo.cons [] k n sub .nil).tx=(Tr.mk k n sub).txt:=by rw[Tr.eA];rfl
  rw[e] at hs;generalize hT:(Tr.mk k n sub).txt=T at hs ⊢;have hlen:s.length=i+pn.length+T.length+2+Y.length:=by
   have:=congrArg List.length hs;simp only[List.length_drop,List.length_append,List.length_cons] at this;omega
  have d1:s.drop (i+pn.length+1)=T++c::Y:=by
   rw[show i+pn.length+1=i+(pn.length+1) from by omega,←List.drop_drop,hs,←List.drop_drop,List.drop_left];rfl
  refine⟨?_,?_,?_,?_,hlen,?_⟩
  · rw[hs];exact qD _ (dw hn) _ (by rw[bh];rfl)
  · rw[List.drop_take,hs];simp
  · rw[d1,←hT]
    refine Eq.trans ?_ rfl;unfold cW;rw[ho.reads (r:=c::Y) (by rcases hc with rfl|rfl;exact jH _;exact mQ _)];simp
  · rw[List.drop_take,d1];simp
  · rw[show i+pn.length+T.length+2=(i+pn.length+1)+(T.length+1) from by omega,←List.drop_drop,d1,←List.drop_drop,List.drop_left];rfl
 cases h with
 | last _ _ _ _ _ hn hb h=>
  rw[Fo.gU,dM hn] at hs;obtain⟨a1,a2,a3,a4,a5,a6⟩:=key 93 [] hn h (.inl rfl) (by rw[hs];simp);exact⟨a1,a2,a3,a4,by omega,.inl ⟨rfl,by rw[a5];rfl⟩⟩
 | more _ _ _ _ _ _ hn hb h h2=>
  rw[Fo.gV _ _ _ _ _ h2.ne,dM hn] at hs;obtain⟨a1,a2,a3,a4,a5,a6⟩:=key 44 (rest.tx++[93]) hn h (.inr rfl) (by rw[hs];simp);exact⟨a1,a2,a3,a4,by omega,.inr ⟨h2,a6⟩⟩
def y6 (s:List UInt8) (fo:Fo) (i:Nat) (ps:List (List UInt8×List UInt8)):Prop:=∃JF,fo.pts=ps++JF.pts∧i≤s.length∧((JF=.nil∧i=s.length)∨∃b,Wf (some b) JF∧s.drop i=JF.tx++[93])
theorem y6.cases {s:List UInt8} {fo:Fo} {i:Nat} {ps:List (List UInt8×List UInt8)} (h:y6 s fo i ps):(i=s.length∧fo.pts=ps)∨
 ∃n m,∃a b:List UInt8,i<s.length∧aj (s.drop i)=n∧List.drop i (List.take (i+n) s)=a∧cW (s.drop (i+n+1))=m∧List.drop (i+n+1) (List.take (i+n+1+m) s)=b∧i+n+m+2≤s.length∧y6 s fo (i+n+m+2) (ps++[(a,b)])∧ps.length<fo.len:=by
 obtain⟨JF,h1,hi,h2|⟨b,h2,h3⟩⟩:=h
 · obtain⟨rfl,rfl⟩:=h2
   exact .inl ⟨rfl,by rw[h1];simp[Fo.pts]⟩
 · cases JF with
   | nil=>exact absurd rfl h2.ne
   | cons pn k n sub rest=>
    obtain⟨a1,a2,a3,a4,a5,a6⟩:=Cm h2 h3 hi;have hl:ps.length<fo.len:=by
     have:=congrArg List.length h1;rw[Fo.nS,List.length_append,Fo.nS] at this;simp only[Fo.len] at this;omega
    refine .inr ⟨pn.length,_,pn,_,by omega,a1,a2,a3,a4,a5,⟨rest,by rw[h1,Fo.pts];simp,a5,?_⟩,hl⟩;rcases a6 with⟨rfl,e⟩|⟨e1,e2⟩
    · exact .inl ⟨rfl,e⟩
    · exact .inr ⟨pn,e1,e2⟩
def dJ (s:List UInt8):List (List UInt8×List UInt8)×Nat:=if(mz s [5,6]).1=0 then((mz s [5,6]).2.sub.pts,0) else([],(mz s [5,6]).1)
theorem Bp {T:Tr} (h:T.ok) (hk:T.k=5∨T.k=6):T.sub.len≤6:=by
 obtain⟨k,n,sub⟩:=T
 have h':Wf none (.cons [] k n sub .nil):=h
 simp only at hk ⊢
 clear h
 cases h' with
 | par=>simp at hk
 | word _ h3=>omega
 | arr _ h=>simp at hk
 | rcd _ _ _ hk2 h hl=>exact hl
 | nam _ _=>simp at hk
 | app _ _ _ h=>simp at hk
theorem Fo.Ez:∀(fo:Fo) (i:Nat) (pn:List UInt8) (t:Tr),fo.at i=some (pn,t)→fo.pts[i]? =some (pn,t.txt)
 | .nil,_,_,_,h=>by simp[Fo.at] at h
 | .cons sL k n sub rest,0,pn,t,h=>by
  simp only[Fo.at,Option.some.injEq,Prod.mk.injEq] at h;obtain⟨rfl,rfl⟩:=h
  rfl
 | .cons sL k n sub rest,i+1,pn,t,h=>by
  rw[Fo.pts,List.getElem?_cons_succ];exact Fo.Ez rest i pn t h
theorem Fo.Ie {fo:Fo} {i:Nat} {pn:List UInt8} {t:Tr} (h:fo.at i=some (pn,t)):t.txt.length≤fo.tx.length:=by
 have:=iF _ _ _ (fo.qv i pn t h)
 rw[List.length_append] at this
 unfold Fo.tx
 omega
set_option maxRecDepth 4000 in
theorem ru (s:List UInt8) (hm:s.length≤maxLen) (w:World) (ht:dW w):Calls Tryz.prog 241 #[str s] w λe w'=>∃v,e=.returned (.tuple #[v,.int .i64 (dJ s).2])∧Dd w' v (dJ s).1∧Below w.heap.size w w':=by
 have hb0:=(zb w).alloc zr (.cells #[.int .u8 5,.int .u8 6] 5)
 have lp:=heap_alloc_new w (.cells #[.int .u8 5,.int .u8 6] 5)
 have HC:=z8 s [5,6] w.heap.size 2 hm _ (ht.below hb0 zr) (by simp) (λj h=>by
  have h:j<2:=h;rcases(show j=0∨j=1 by omega) with rfl|rfl
  · exact(ak lp 0).trans rfl
  · exact(ak lp 1).trans rfl)
 clear lp
 unfold mM at HC
 unfold dJ
 rcases hq:mz s [5,6] with⟨C,T⟩
 rw[hq] at HC
 simp only at HC ⊢
 by_cases h0:C=0
 case neg=>
  obtain⟨g1,g2⟩:=bK h0;rw[if_neg h0];clear hq h0;go_enter Tryz.func241,Tryz.ntmps241;go_wp2_with (go_at_call 176;refine HC.mono ?_;clear HC;rintro e w1 ⟨v,rfl,hv,au⟩;obtain⟨p,cc,rfl,_⟩:=hv.shape);have hs1:=au.size;simp only[World.size_alloc] at hs1;go_ret2;exact⟨_,rfl,.inl ⟨rfl,rfl⟩,(hb0.trans (af au (by simp))).alloc (by omega) _⟩
 case pos =>
  subst h0;rw[if_pos rfl];obtain⟨hk,hk2⟩:=rH hq;obtain⟨o1,e1,l1,_⟩:=bC hk;have hfl:=Bp o1 (by simpa using hk2);have C7:T.sub.tx.length≤100:=by
   have:=(Fo.vQ [] T.k T.n T.sub .nil).2.1;have h2:(Fo.one ⟨T.k,T.n,T.sub⟩).tx.length=T.txt.length:=by rw[Tr.eA]
   rw[e1] at h2;omega
  obtain⟨i0,gw,hz0,hz1,hz2⟩:=info_parts IY;generalize T.sub=fo at *;clear hq hk hk2 o1 e1;go_enter Tryz.func241,Tryz.ntmps241;go_wp2_with (go_at_call 176;refine HC.mono ?_;clear HC;rintro e w1 ⟨v,rfl,hv,au⟩;obtain⟨p,cc,rfl,_⟩:=hv.shape);have hbz:=(hb0.trans (af au (by simp))).alloc (by have:=au.size;simp at this;omega) (.cells #[.int .u8 T.k,.string ⟨T.n.toArray⟩,.slice p fo.len cc] 174);have P5:=hv.below ((zb w1).alloc zr (.cells #[.int .u8 T.k,.string ⟨T.n.toArray⟩,.slice p fo.len cc] 174)) zr;generalize w1.alloc (.cells #[.int .u8 T.k,.string ⟨T.n.toArray⟩,.slice p fo.len cc] 174)=wz at hbz P5 ⊢;clear hv au;go_loopw [6,21] (λo y wr=>∃i:Nat,i≤fo.len∧y=.int .i64 i∧wr.ownsRow wz.heap.size 155 2 o i (p5 (fo.pts.take i))∧Below w.heap.size w wr∧Below wz.heap.size wz wr) (λ_ y _=>fo.len - (intOf y).toNat)
  case atStart=>exact⟨0,Nat.zero_le _,by go_num,by simpa[p5] using World.ownsRow_nil _ _ _ _,hbz,zb _⟩
  case round=>
   obtain⟨i,hi,rfl,hown,hb,tH⟩:=hrel;obtain⟨po,co,rfl⟩:=bu hown
   by_cases hlt:i<fo.len
   case neg=>
    have hie:i=fo.pts.length:=by rw[Fo.nS];omega
    have hrow:wr.ownsRow wz.heap.size 155 2 (.slice po i co) fo.pts.length (p5 fo.pts):=by
     rw[hie,List.take_of_length_le zr] at hown;rw[hie];exact hown
    clear hie;go_wp2_with fail;go_ret2;exact⟨_,rfl,Dd.bH hrow,hb⟩
   case pos=>
    obtain⟨g,TQ,pn,t,uv,he,_,hg,hat,x0,x1,x2,x3,hu⟩:=(P5.below tH zr).at hlt;injection he with IA A5 KJ;subst IA KJ;obtain⟨pt,ct,rfl,_⟩:=hu.shape;have htl:t.txt.length≤1000000:=by have:=Fo.Ie hat;omega
    have QA:=zh (nC _ _ _ (Fo.Ez fo i pn t hat));have mT:=hb.alloc hb.size (.cells #[str pn,.int .u8 t.k,str t.n,.slice pt t.sub.len ct] 192);have mH:=ay hown ((zb wr).alloc zr (.cells #[str pn,.int .u8 t.k,str t.n,.slice pt t.sub.len ct] 192)).drew zr;clear hat;go_upto_region 8 with fail;have hA:=heap_alloc_new wr (.cells #[str pn,.int .u8 t.k,str t.n,.slice pt t.sub.len ct] 192);have Oe:=hu.below ((zb wr).alloc zr (.cells #[str pn,.int .u8 t.k,str t.n,.slice pt t.sub.len ct] 192)).drew zr;have q0:=(ak hA 0).trans rfl;have q1:=(ak hA 1).trans rfl;have q2:=(ak hA 2).trans rfl;have q3:=(ak hA 3).trans rfl;refine wp_region_held_drew (S:=(λW=>W.cell? ⟨wr.heap.size,0,none⟩=some (str pn)∧W.cell? ⟨wr.heap.size,1,none⟩=some (.int .u8 t.k)∧W.cell? ⟨wr.heap.size,2,none⟩=some (str t.n)∧W.cell? ⟨wr.heap.size,3,none⟩=some (.slice pt t.sub.len ct))) (by kernel_rfl) ?_ (λdg=>?_)
    · exact⟨q0,q1,q2,q3⟩
    refine iA (i:=0) (d:=some 25) (v:=?_) rfl (by kernel_rfl) (by kernel_rfl) (by kernel_rfl) (by kernel_rfl) (λ_ _ _ h=>h) (by assumption) (by kernel_rfl) ?_ ?_;rotate_left
    · intro w aI
      try dsimp only at aI
      go_simp;try with_reducible rfl
    try simp only[pz,pw]
    refine iA (i:=1) (d:=some 26) (v:=?_) rfl (by kernel_rfl) (by kernel_rfl) (by kernel_rfl) (by kernel_rfl) (λ_ _ _ h=>h) (by assumption) (by kernel_rfl) ?_ ?_;rotate_left
    · intro w aI
      try dsimp only at aI
      go_simp;try with_reducible rfl
    try simp only[pz,pw]
    refine iA (i:=2) (d:=some 27) (v:=?_) rfl (by kernel_rfl) (by kernel_rfl) (by kernel_rfl) (by kernel_rfl) (λ_ _ _ h=>h) (by assumption) (by kernel_rfl) ?_ ?_;rotate_left
    · intro w aI
      obtain⟨r0,r1,r2,r3⟩:=aI;go_simp;try with_reducible rfl
    try simp only[pz,pw]
    refine iA (i:=3) (d:=some 28) (v:=?_) rfl (by kernel_rfl) (by kernel_rfl) (by kernel_rfl) (by kernel_rfl) (λ_ _ _ h=>h) (by assumption) (by kernel_rfl) ?_ ?_;rotate_left
    · intro w aI
      try dsimp only at aI
      go_simp;try with_reducible rfl
    try simp only[pz,pw]
    refine iA (i:=4) (d:=some 29) (v:=?_) rfl (by kernel_rfl) (by kernel_rfl) (by kernel_rfl) (by kernel_rfl) (λ_ _ _ h=>h) (by assumption) (by kernel_rfl) ?_ ?_;rotate_left
    · intro w aI
      obtain⟨r0,r1,r2,r3⟩:=aI;go_simp;try with_reducible rfl
    try simp only[pz,pw]
    refine wpAnyH_ready (rs:=[5]) (by kernel_rfl) (by simp) ?_;refine AllReadyH.cons rfl (λK hK=>?_) AllReadyH.nil;go_simp;go_wp2_with ((go_at_call 175;refine(fq t _ _ _ Oe htl).mono ?_;rintro e w5 ⟨rfl,eT⟩));refine hK.out _ _ ?_ (λdg=>?_)
    · exact⟨Below.keep eT q0,Below.keep eT q1,Below.keep eT q2,Below.keep eT q3⟩
    clear hK K;try simp only[pz,pw]
    refine iA (i:=6) (d:=some 31) (v:=?_) rfl (by kernel_rfl) (by kernel_rfl) (by kernel_rfl) (by kernel_rfl) (λ_ _ _ h=>h) (by assumption) (by kernel_rfl) ?_ ?_;rotate_left
    · intro w aI
      try dsimp only at aI
      go_simp;try with_reducible rfl
    try simp only[pz,pw]
    refine wpAnyH_ready (rs:=[7]) (by kernel_rfl) (by simp) ?_;refine AllReadyH.cons rfl (λK hK=>?_) AllReadyH.nil;go_simp;go_wp2_with (fail);refine hK.out _ _ ?_ (λdg=>?_)
    · exact⟨Below.keep (eT.alloc eT.size _) q0,Below.keep (eT.alloc eT.size _) q1,Below.keep (eT.alloc eT.size _) q2,Below.keep (eT.alloc eT.size _) q3⟩
    clear hK K;try simp only[pz,pw]
    refine wpAnyH_ready (rs:=[8]) (by kernel_rfl) (by simp) ?_;refine AllReadyH.cons rfl (λK hK=>?_) AllReadyH.nil;refine wp_append_own _ _ _ 151 rfl wz.heap.size 155 i0 (.agg #[.string ⟨#[]⟩,.string ⟨#[]⟩]) 2 32 Fb gw hz0 hz1 hz2 rfl (by decide) (.slice po i co) i (p5 (fo.pts.take i)) rfl (by exact(ay mH eT zr).alloc _) ⟨w5.heap.size,0,none⟩ 1 1 [str pn,str t.txt] rfl rfl (λj u h=>cell_two_new w5 _ _ _ j u h) (λx hx=>by simp at hx;rcases hx with rfl|rfl<;>rfl) (by unfold maxLen;omega) (by omega) (by have e1:=tH.size;have e2:=eT.size;simp at e2;simp;omega) ?_;intro v' w6 bB hgr _;have hs5:=eT.size;have F2:wr.heap.size<w5.heap.size:=by simp at hs5;omega
    have hblk:=hgr.block wr.heap.size (by simp;omega) (λe=>by have:=(hown.lt _ e.symm).2;omega);have mF:∀o,w6.cell? ⟨wr.heap.size,o,none⟩=w5.cell? ⟨wr.heap.size,o,none⟩:=λo=>(World.cell?_of_block hblk).trans (World.cell?_of_block (Below.heap_alloc _ _ _ F2))
    refine hK.out _ _ ⟨(mF 0).trans (Below.keep eT q0),(mF 1).trans (Below.keep eT q1),(mF 2).trans (Below.keep eT q2),(mF 3).trans (Below.keep eT q3)⟩ (λdg=>?_);clear hK K;refine wpAnyH_ready (rs:=[9]) (by kernel_rfl) (by simp) ?_;refine AllReadyH.cons rfl (λK hK=>?_) AllReadyH.nil;go_simp;refine hK.out _ _ ⟨(mF 0).trans (Below.keep eT q0),(mF 1).trans (Below.keep eT q1),(mF 2).trans (Below.keep eT q2),(mF 3).trans (Below.keep eT q3)⟩ (λdg=>?_);clear hK K;refine wpAnyH_done (by kernel_rfl) ?_ _;have sB:=mT.drew.trans (af eT (by have:=hb.size;simp;omega));have N5:=(tH.alloc tH.size (.cells #[str pn,.int .u8 t.k,str t.n,.slice pt t.sub.len ct] 192)).drew.trans (af eT (by have:=tH.size;simp;omega));have tG:=(sB.alloc sB.size (.cells #[str pn,str t.txt] 155)).grown hgr (by have:=sB.size;simp;omega) (λb e=>by have:=(hown.lt b e).1;have:=hbz.size;omega);have Sz:=(N5.alloc N5.size (.cells #[str pn,str t.txt] 155)).grown hgr (by have:=N5.size;simp;omega) (λb e=>(hown.lt b e).1);go_wp2_with fail;refine⟨⟨i+1,hlt,by go_num,?_,tG,Sz⟩,by simp only[intOf];omega⟩;rw[QA.out,CD];exact bB
end Go.Proofs.YtakgjcfkdemipaaGreatDoor
