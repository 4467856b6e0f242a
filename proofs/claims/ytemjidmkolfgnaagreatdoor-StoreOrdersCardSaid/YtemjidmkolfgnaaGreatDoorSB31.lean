/-
  Lemmas for the statement: units and libraries in memory. Conditions: bounds of lengths; the variable strings.asciiSpace.
-/
import Derived.Test.YtemjidmkolfgnaaGreatDoorSBn
import Derived.Test.YtemjidmkolfgnaaGreatDoorSB24
import Derived.Test.YtemjidmkolfgnaaGreatDoorSB28
import Derived.Test.YtemjidmkolfgnaaGreatDoorSB30
set_option maxHeartbeats 12800000
namespace Go.Proofs.YtemjidmkolfgnaaGreatDoor
open Go Go.RowKit
attribute [local go_sem] Oper.semAt_some
theorem lz {P:Program} {ops:Array Oper} {rest:List Oper} {o:Oper} {a:Act} {w:World} {Q:Exit→Act→World→Prop} (hgd:o.guard=none) {T:TypeId} (x:Operand) (ho:o.op=.load T x) {p:Value} {c:Array Value} (e1:a.eval x=p) (hr:(Instr.loadAt T p).run P w=.ok (.agg c) w)
 (h:wpList P ops Q rest (a.put o.dst (.agg c)) w):wpList P ops Q (o::rest) a w:=wpList_plain hgd λK hK=>by
 unfold Oper.wp execOp
 simp only[ho,e1,Sem.run_bind,hr,Result.andThen_ok]
 exact hK _ _ h
theorem wS (a:Nat) (L:mX) {j:Nat} {v:Value} (h:(aH L.last)[j]? =some v):(fZ a L)[2+j]? =some v:=by
 unfold fZ
 rw[Nat.add_comm 2 j]
 simp only[List.getElem?_toArray,List.getElem?_cons_succ]
 rw[List.getElem?_append_left (List.getElem?_eq_some_iff.1 h).1]
 exact h
def gz (B:Nat) (w:World) (a b1 b2 n p:Nat) (lo hi:Int):Prop:=
 ∃pv S,bw B w a b1 b2 pv S∧S.n=n∧S.down=false∧S.ends=false∧S.pend.length≤p∧lo≤S.calls∧S.calls≤hi
theorem gz.below {B K:Nat} {w w':World} {a b1 b2 n p:Nat} {lo hi:Int} (h:gz B w a b1 b2 n p lo hi) (hb:Below K w w') (hK:w.heap.size≤K):gz B w' a b1 b2 n p lo hi:=by
 obtain⟨pv,S,h1,h2⟩:=h
 exact⟨pv,S,h1.below hb hK,h2⟩
theorem gz.mono {B:Nat} {w:World} {a b1 b2 n p p':Nat} {lo hi lo' hi':Int} (h:gz B w a b1 b2 n p lo hi) (hp:p≤p') (hl:lo'≤lo) (hh:hi≤hi'):gz B w a b1 b2 n p' lo' hi':=by
 obtain⟨pv,S,h1,h2,h3,h4,h5,h6,h7⟩:=h
 exact⟨pv,S,h1,h2,h3,h4,by omega,by omega,by omega⟩
structure zW (w:World) (B lg a b1 b2 dn p0 N g6 Bs:Nat) (c0:Int) (LB:Array Value) (pre:List (mW N)) (W:World):Prop where
 ks:KS B w W
 size:Bs≤W.heap.size
 log:W.heap[lg]? =some (.cells LB 198 (0,0))
 pP:gz B W a b1 b2 dn (p0+pre.length) (c0 - pre.length) c0
 t2:W.heap[w.heap.size]? =some (.cells #[.pointer (some ⟨lg,0,none⟩)] 109 (0,0))
 t4:W.heap[w.heap.size+1]? =some (.cells #[.int .i64 0] 49 (0,0))
 t5:W.heap[w.heap.size+2]? =some (.cells #[.int .i64 (N:Int)] 3 (0,0))
 t6:∃ds:List UInt8,ds.length=32∧W.heap[g6]? =some (.cells (aH ds).toArray 195 (0,0))
theorem zW.below {w:World} {B lg a b1 b2 dn p0 N g6 Bs:Nat} {c0:Int} {LB:Array Value} {pre:List (mW N)} {W W':World} (h:zW w B lg a b1 b2 dn p0 N g6 Bs c0 LB pre W) (hB:B≤w.heap.size) (hb:Below W.heap.size W W'):zW w B lg a b1 b2 dn p0 N g6 Bs c0 LB pre W':=by
 obtain⟨ds,m1,m2⟩:=h.t6
 exact⟨h.ks.trans (KS.ai hb zr (Nat.le_trans hB h.ks.cV.size)),Nat.le_trans h.size hb.size,ag h.log hb,h.pP.below hb zr,ag h.t2 hb,ag h.t4 hb,ag h.t5 hb,ds,m1,ag m2 hb⟩
theorem iT.Ar {X:Nat→Prop} {B:Nat} {a b:World} (h:KD X B a b):iT a b:=⟨λx cs fl e=>h.keep x _ e (.inl λcs' t Nv e'=>by cases e';decide),λx o e ho=>h.keep x o e (.inl λcs t fl e'=>by subst e';cases ho),h.cV.size⟩
theorem zW.wrote {w:World} {B lg a b1 b2 dn p0 N g6 Bs:Nat} {c0:Int} {LB:Array Value} {pre:List (mW N)} {x:mW N} {W W':World} {X:Nat→Prop} (h:zW w B lg a b1 b2 dn p0 N g6 Bs c0 LB pre W) (hk:KD X B W W') (hd:gz B W' a b1 b2 dn (p0+pre.length+1) (c0 - pre.length - 1) c0):zW w B lg a b1 b2 dn p0 N g6 Bs c0 LB (pre++[x]) W':=by
 obtain⟨ds,m1,m2⟩:=h.t6
 have key:∀{b:Nat} {cs:Array Value} {t:TypeId},t≠133∧t≠145∧t≠147→W.heap[b]? =some (.cells cs t (0,0))→W'.heap[b]? =some (.cells cs t (0,0)):=λht e=>hk.keep _ _ e (.inl λcs' t' Nv e'=>by cases e';exact ht)
 refine⟨h.ks.trans (KS.Ar hk),Nat.le_trans h.size hk.cV.size,key (by decide) h.log,hd.mono (by simp;omega) (by simp;omega) (Int.le_refl _),key (by decide) h.t2,key (by decide) h.t4,key (by decide) h.t5,ds,m1,key (by decide) m2⟩
theorem fI {c c':Array Value} {t t':TypeId} {z z':Nat×Nat} (h:some (Obj.cells c t z)=some (Obj.cells c' t' z')):t=t':=by cases h;rfl
theorem zW.last {w:World} {B lg a b1 b2 dn p0 N g6 Bs:Nat} {c0:Int} {LB:Array Value} {pre:List (mW N)} {W:World} (h:zW w B lg a b1 b2 dn p0 N g6 Bs c0 LB pre W) (hB:B≤w.heap.size) (hg:w.heap.size≤g6) (ds:List UInt8) (hd:ds.length=32):zW w B lg a b1 b2 dn p0 N g6 Bs c0 LB pre (W.setRow g6 (aH ds).toArray):=by
 obtain⟨d0,m1,m2⟩:=h.t6
 have key:∀{b:Nat} {cs:Array Value} {t:TypeId},t≠195→W.heap[b]? =some (.cells cs t (0,0))→(W.setRow g6 (aH ds).toArray).heap[b]? =some (.cells cs t (0,0)):=λht e=>(setRow_other W g6 _ _ (λe2=>by subst e2;rw[m2] at e;cases e;exact ht rfl)).trans e
 obtain⟨pv,S,k1,k2⟩:=h.pP
 refine⟨⟨below_setRow h.ks.cV (by omega) _,λb x e ho=>?_⟩,by simpa[World.setRow] using h.size,key (by decide) h.log,⟨pv,S,k1.agree λb hb=>?_,k2⟩,key (by decide) h.t2,key (by decide) h.t4,key (by decide) h.t5,ds,hd,setRow_heap _ _ _ _ _ _ m2⟩
 · have e2:=h.ks.keep b x e ho
   refine(setRow_other W g6 b _ (λe3=>?_)).trans e2;have:=aj e;omega
 · refine setRow_other W g6 b _ λe3=>?_
   subst e3;rcases hb with hb|hb|hb|hb
   · subst hb;have:=k1.head;rw[m2] at this;exact absurd (fI this) (by decide)
   · subst hb;have:=k1.iY;rw[m2] at this;exact absurd (fI this) (by decide)
   · subst hb;have:=k1.now;rw[m2] at this;exact absurd (fI this) (by decide)
   · rcases k1.pend.2 with⟨e,_⟩|⟨g,cap,cur,e,_,tZ,_⟩
     · rw[e] at hb;cases hb
     · rw[e] at hb
       cases hb;rw[m2] at tZ;exact absurd (fI tZ) (by decide)
theorem cW {W W':World} {row:Option Nat} {B b:Nat} {cs:Array Value} {t:TypeId} {fl:Nat×Nat} (hg:W.grownBy W' row) (hr:∀r,row=some r→B≤r∧∃o:Obj,W.heap[r]? =some o∧o.isCells=false) (h:W.heap[b]? =some (.cells cs t fl)):W'.heap[b]? =W.heap[b]? :=
 hg.block b (aj h) λe=>by
  obtain⟨_,o,ho,hc⟩:=hr b e.symm;rw[h] at ho;cases ho;cases hc
theorem G4 (w:World) (B lg a b1 b2 dn p0 N g6 Bs:Nat) (c0:Int) (LB:Array Value) (hB:B≤w.heap.size) (mm:w.heap.size≤Bs):OwnFrom Bs (zW w B lg a b1 b2 dn p0 N g6 Bs c0 LB):=by
 intro pre W W' row h hg hr
 obtain⟨pv,S,k1,k2⟩:=h.pP
 obtain⟨ds,m1,m2⟩:=h.t6
 have hw:w.heap.size≤W.heap.size:=h.ks.cV.size
 refine⟨⟨h.ks.cV.grown hg (by have:=h.size;omega) λr e=>by have:=(hr r e).1;omega,λb x hx ho=>?_⟩,Nat.le_trans h.size hg.size,(cW hg hr h.log).trans h.log,⟨pv,S,k1.agree λb hb=>?_,k2⟩,(cW hg hr h.t2).trans h.t2,(cW hg hr h.t4).trans h.t4,(cW hg hr h.t5).trans h.t5,ds,m1,(cW hg hr m2).trans m2⟩
 · have hx2:=h.ks.keep b x hx ho
   refine(hg.block b (aj hx2) λe=>?_).trans hx2;have:=(hr b e.symm).1;have:=aj hx;omega
 · rcases hb with rfl|rfl|rfl|hb
   · exact cW hg hr k1.head
   · exact cW hg hr k1.iY
   · exact cW hg hr k1.now
   · rcases k1.pend.2 with⟨e,_⟩|⟨g,cap,cur,e,_,tZ,_⟩
     · rw[e] at hb;cases hb
     · rw[e] at hb
       cases hb;exact cW hg hr tZ
theorem CV.IV {D:Nat→Prop} {w:World} {g:Nat} {cs:List Value} {t:TypeId} {z:Nat×Nat} (hD:D g) (h:w.heap[g]? =some (.cells cs.toArray t z)) (hl:cs.length≤maxLen):CV D w (.slice (some ⟨g,0,none⟩) cs.length cs.length) cs:=
 ⟨_, _, rfl, nl _, hl, .inr ⟨g, 0, rfl, hD, aj h, fun j u hj => by
  rw[Nat.zero_add];exact(af h j).trans (by simpa using hj)⟩⟩
theorem xL {o:Oper} {a:Act} {w:World} {K:Act→World→Prop} {Q:Exit→Act→World→Prop} {f:FuncId} {x y z:Operand} {tys:Array TypeId} (ho:o.op=.call {callee:=.value (.func f),args:= #[x,y,z],argTypes:=tys }) (en:∀args w,(callFunc f args).run Tryz.prog w=.ok (.enter f args) w)
 {v1 v2 v3:Value} (e1:a.eval x=v1) (e2:a.eval y=v2) (e3:a.eval z=v3) {R:Value→World→Prop} (hc:Calls Tryz.prog f #[v1,v2,v3] w λe w'=>∃u,e=.returned u∧R u w') (hn:∀u w',R u w'→K (a.put o.dst u) w'):o.wp Tryz.prog a w K Q:=by
 subst e1 e2 e3
 have hrun:(execOp a.eval o).run Tryz.prog w=.ok (.enter f #[a.eval x,a.eval y,a.eval z]) w:=by
  simp[execOp,ho,resolve,Deferred.ofValue,invoke,Act.eval,en]
 unfold Oper.wp
 rw[hrun,Oper.upon_enter]
 refine hc.mono ?_
 rintro e w' ⟨u,rfl,hu⟩
 exact hn u w' hu
theorem iB {P:Program} {ops:Array Oper} {Q:Exit→Act→World→Prop} {S:Array Bool→World→Prop} {A:Nat→Value→Prop} {a0:Act} {i:Nat} {o:Oper}
 (h:∀(listed:Array Bool) (a:Act) (w:World),listed.size=ops.size→listed.getD i true=false→S listed w→(∀(j d:Nat),jr o j=true→(ops[j]?).bind (·.dst)=some d→A j (a.eval (.tmp d)))→(∀s,Out ops s→a.eval (.tmp s)=a0.eval (.tmp s))→∀next:Act→World→Prop,(∀v w',A i v→S (listed.setIfInBounds i true) w'→next (a.put o.dst v) w')→o.wp P a w next Q):rU P .any ops Q S A a0 i o:=
 λlisted a w h1 h2 hS _ hd ho next hn=>h listed a w h1 h2 hS (λj _d hj h=>IZ hd j hj h) ho next hn
theorem GY {P:Program} {ops:Array Oper} {Q:Exit→Act→World→Prop} {S:Array Bool→World→Prop} {A:Nat→Value→Prop} {a0:Act} {i:Nat} {o:Oper}
 (h:∀(listed:Array Bool) (a:Act) (w:World),listed.size=ops.size→listed.getD i true=false→S listed w→(∀j o e,ops[j]? =some o→listed.getD j false=true→e∈o.after→Region.binds .any e=true→listed.getD e.on false=true)→(∀(j d:Nat),jr o j=true→(ops[j]?).bind (·.dst)=some d→A j (a.eval (.tmp d)))→(∀s,Out ops s→a.eval (.tmp s)=a0.eval (.tmp s))→∀next:Act→World→Prop,(∀v w',A i v→S (listed.setIfInBounds i true) w'→next (a.put o.dst v) w')→o.wp P a w next Q):rU P .any ops Q S A a0 i o:=
 λlisted a w h1 h2 hS hcl hd ho next hn=>h listed a w h1 h2 hS hcl (λj _d hj h=>IZ hd j hj h) ho next hn
theorem Ca {l:List UInt8} {j:Nat} {v:Value} (h:(aH (l.take 32))[j]? =some v):((aH l).toArray)[0+j]? =some v:=by
 rw[Nat.zero_add,List.getElem?_toArray]
 unfold aH at *
 rw[List.map_take,List.getElem?_take] at h
 split at h
 · exact h
 · cases h
theorem iT.row {a b:World} (h:iT a b) {g:Nat} {cs:Array Value} {t:TypeId} (hp:b.heap[g]? =some (.cells cs t (0,0))) (ht:t≠9) (ds:Array Value):iT a (b.setRow g ds):=by
 refine⟨λx cs' fl e=>?_,λx o e ho=>?_,by simpa[World.setRow] using h.z⟩
 · have e2:=h.s x cs' fl e
   refine(setRow_other b g x ds λe3=>?_).trans e2;subst e3;rw[hp] at e2;exact ht (fI e2)
 · have e2:=h.n x o e ho
   refine(setRow_other b g x ds λe3=>?_).trans e2;subst e3;rw[hp] at e2;cases e2;cases ho
theorem JW:(∀(a b:Act),bD a [] b=b)∧(∀(a b:Act) (o:Oper) (l:List Oper),bD a (o::l) b=bD a l (b.put o.dst (match o.dst with|some d=>a.tmps.getD d undef|none=>undef))):=⟨λ_ _=>rfl,λ_ _ _ _=>rfl⟩
def Hj (w:World) (B lg a b1 b2 dn p0 N g6 g9 Bs:Nat) (c0:Int) (LB:Array Value) (pre:List (mW N)) (x:mW N) (d9:List UInt8) (W9:World) (listed:Array Bool) (w':World):Prop:=
 (listed.getD 11 false=false→Below W9.heap.size W9 w')∧(listed.getD 11 false=true→zW w B lg a b1 b2 dn p0 N g6 Bs c0 LB (pre++[x]) w'∧w'.heap[g9]? =some (.cells (aH d9).toArray 145 (0,0))∧iT W9 w')
theorem Hj.mark {w:World} {B lg a b1 b2 dn p0 N g6 g9 Bs:Nat} {c0:Int} {LB:Array Value} {pre:List (mW N)} {x:mW N} {d9:List UInt8} {W9:World} {listed:Array Bool} {w':World} (h:Hj w B lg a b1 b2 dn p0 N g6 g9 Bs c0 LB pre x d9 W9 listed w') {i:Nat} (hi:i≠11):Hj w B lg a b1 b2 dn p0 N g6 g9 Bs c0 LB pre x d9 W9 (listed.setIfInBounds i true) w':=by
 unfold Hj at *
 rw[getD_set_ne false hi]
 exact h
theorem Hj.common {w:World} {B lg a b1 b2 dn p0 N g6 g9 Bs:Nat} {c0:Int} {LB:Array Value} {pre:List (mW N)} {x:mW N} {d9:List UInt8} {W9:World} {listed:Array Bool} {w':World} (h:Hj w B lg a b1 b2 dn p0 N g6 g9 Bs c0 LB pre x d9 W9 listed w') (hB:B≤w.heap.size) (hI:zW w B lg a b1 b2 dn p0 N g6 Bs c0 LB pre W9):
 True∧w'.heap[lg]? =some (.cells LB 198 (0,0))∧w'.heap[w.heap.size]? =some (.cells #[.pointer (some ⟨lg,0,none⟩)] 109 (0,0)):=by
 rcases hq:listed.getD 11 false with _|_
 · have:=hI.below hB (h.1 hq)
   exact⟨trivial,this.log,this.t2⟩
 · have:=(h.2 hq).1
   exact⟨trivial,this.log,this.t2⟩
def KX (w w6:World) (B lg a:Nat) (L:mX) (N:Nat) (d6:List UInt8) (listed:Array Bool) (w':World):Prop:=
 KS B w w'∧(∀b,b≠lg→w'.heap[b]? =w6.heap[b]?)∧w'.heap[lg]? =some (.cells (fZ a ⟨if listed.getD 11 false=true then L.at_+N else L.at_,if listed.getD 14 false=true then d6 else L.last,false⟩) 198 (0,0))
theorem KX.mark {w w6:World} {B lg a:Nat} {L:mX} {N:Nat} {d6:List UInt8} {listed:Array Bool} {w':World} (h:KX w w6 B lg a L N d6 listed w') {i:Nat} (hi:i≠11∧i≠14):KX w w6 B lg a L N d6 (listed.setIfInBounds i true) w':=by
 unfold KX at *
 rw[getD_set_ne false hi.1,getD_set_ne false hi.2]
 exact h
set_option maxRecDepth 8000 in
theorem uA {B lg a b1 b2 dn p0:Nat} {c0:Int} {L:mX} (s:List UInt8) (w:World) (hL:jH w lg a L) (hD:gz B w a b1 b2 dn p0 c0 c0) (hB:B≤lg) (hs:s.length≤100000) (hat:L.at_+bV s.length≤dn) (hf:L.failed=false) (hc: -1000000000000000000≤c0∧c0≤1000000000000000000) (Qf:p0≤50000):
 Calls Tryz.prog 109 #[.pointer (some ⟨lg,0,none⟩),str s] w λe w'=>e=.returned (.int .i64 0)∧(∃ds:List UInt8,jH w' lg a ⟨L.at_+bV s.length,ds,false⟩)∧gz B w' a b1 b2 dn 0 (c0 - bV s.length - 1) c0∧KS B w w':=by
 have hmb:1≤bV s.length∧bV s.length≤3705:=by unfold bV;omega
 have N0:max (1:Int) (((s.length:Int)+27 - 1) / 27)=(bV s.length:Int):=by
  unfold bV;omega
 have hlc:=hL.cells
 have P4:=aj hL.head
 have hBw:B≤w.heap.size:=by omega
 generalize hN:bV s.length=N at *
 have F6:=hL.len
 refine(callsIn_wide (n:=6)).1 ?_
 refine callsIn_of_wp_marks Tryz.func109 rfl trivial ?_ rfl
 simp only[Tryz.ntmps109,List.size_toArray,List.length_cons,List.length_nil,Nat.reduceAdd,Nat.reduceSub,Array.replicate_succ,Array.replicate_zero,List.push_toArray,List.append_toArray,List.nil_append,List.cons_append]
 refine wpIn_wide.2 ?_
 go_upto_region 2 with fail
 obtain⟨h2,h4,h5,cK,sF⟩:=tj w (.cells #[.pointer (some ⟨lg,0,none⟩)] 109) (.cells #[.int .i64 0] 49) (.cells #[.int .i64 (N:Int)] 3)
 clear N0
 generalize World.alloc (World.alloc (World.alloc w _) _) _=W3 at *
 replace sF:w.heap.size+3≤W3.heap.size:=Nat.le_of_eq sF.symm
 have LP:=hL.below cK zr
 have Fl:=hD.below cK zr
 have vV:KS B w W3:=KS.ai cK zr hBw
 clear hlc hL hD cK
 obtain⟨pv,S,hM,RU,Pq,T8,Ua,T7⟩:=id Fl
 have hlc:=LP.cells
 rw[hf] at hlc
 have c2:=(af h2 0).trans rfl
 have ID:=vH W3 hM
 rw[Pq] at ID
 have bm:=(lG hM.head).1
 rw[RU,Pq] at bm
 go_upto_region 4 with(go_at_call 40;refine ID.mono ?_;rintro e w1 ⟨rfl,rfl⟩)
 have hlt2:=aj h2
 have hdn:dn≤65536:=by have:=hM.hn;omega
 have RI:¬(65535:Int)<(N:Int):=by omega
 have Bc:∀(b:Nat) (x:Obj) (w':World),Below w1.heap.size w1 w'→w1.heap[b]? =some x→w'.heap[b]? =some x:=λb x w' hb hx=>(hb.block b (aj hx)).trans hx
 refine u5 (D:=λ_=>True) (w:=w1) (d:=some 47) 18 [(5,vP (w.heap.size+1+1) 0),(2,vP w.heap.size 0)] [vI N,vN,vN,vP lg 0,vP lg 0,vP lg 1,vI L.at_,vI N,vI ((L.at_:Int)+N),vP lg 0,vP lg 0,vP lg 0,vP a 0,vP a 0,vP a 1,.eq (.slice (some ⟨b2,0,none⟩) dn S.nc),vI dn,vN,vN]
  (λw'=>Below w1.heap.size w1 w') (by kernel_rfl) rfl rfl (λ_ _ h hb=>h.trans (aa hb h.size)) (zb w1).drew ⟨rfl,rfl,trivial⟩ ?_ ?_
 · refine⟨?_,?_,iU rfl rfl (by kernel_rfl),?_,ic rfl (by kernel_rfl) rfl rfl,?_,?_,?_,?_,?_,ic rfl (by kernel_rfl) rfl rfl,?_,?_,ic rfl (by kernel_rfl) rfl rfl,?_,?_,?_,?_,iU rfl rfl (by kernel_rfl),trivial⟩
   · exact dV rfl (by kernel_rfl) rfl rfl (λw hS=>by have:=(af (Bc _ _ _ hS h5) 0).trans rfl;simp[go_sem,this])
   · exact gJ rfl (by kernel_rfl) rfl rfl rfl (λw=>by simp[go_sem,RI])
   · exact dV rfl (by kernel_rfl) rfl rfl (λw hS=>by have:=(af (Bc _ _ _ hS h2) 0).trans rfl;simp[go_sem,this])
   · exact gQ rfl (by kernel_rfl) rfl rfl (λw=>by simp[go_sem])
   · exact dV rfl (by kernel_rfl) rfl rfl (λw hS=>by have:=(LP.below hS zr).cells;simp[go_sem,this])
   · exact dV rfl (by kernel_rfl) rfl rfl (λw hS=>by have:=(af (Bc _ _ _ hS h5) 0).trans rfl;simp[go_sem,this])
   · exact KO rfl (by kernel_rfl) rfl rfl rfl rfl (by omega) (by omega)
   · exact dV rfl (by kernel_rfl) rfl rfl (λw hS=>by have:=(af (Bc _ _ _ hS h2) 0).trans rfl;simp[go_sem,this])
   · exact gQ rfl (by kernel_rfl) rfl rfl (λw=>by simp[go_sem])
   · exact dV rfl (by kernel_rfl) rfl rfl (λw hS=>by have:=(LP.below hS zr).cells;simp[go_sem,this])
   · exact gQ rfl (by kernel_rfl) rfl rfl (λw=>by simp[go_sem])
   · exact dV rfl (by kernel_rfl) rfl rfl (λw hS=>by have:=(lG (Bc _ _ _ hS hM.head)).1;rw[RU] at this;simp[go_sem,this])
   · exact td rfl (by kernel_rfl) (by kernel_rfl) rfl rfl
   · exact gJ rfl (by kernel_rfl) rfl rfl rfl (λw=>by have:¬(dn:Int)<(L.at_:Int)+N:=(by omega);simp[go_sem,this])
 intro av W4 Hu _ _
 simp only[pq,pz,pw]
 generalize av.tmps.getD 29 undef=SK
 generalize av.tmps.getD 30 undef=u30
 generalize av.tmps.getD 31 undef=u31
 generalize av.tmps.getD 32 undef=u32
 generalize av.tmps.getD 33 undef=u33
 generalize av.tmps.getD 34 undef=u34
 generalize av.tmps.getD 35 undef=u35
 generalize av.tmps.getD 36 undef=u36
 generalize av.tmps.getD 37 undef=SM
 generalize av.tmps.getD 38 undef=u38
 generalize av.tmps.getD 39 undef=u39
 generalize av.tmps.getD 40 undef=u40
 generalize av.tmps.getD 41 undef=u41
 generalize av.tmps.getD 42 undef=u42
 generalize av.tmps.getD 43 undef=u43
 generalize av.tmps.getD 44 undef=u44
 generalize av.tmps.getD 45 undef=u45
 generalize av.tmps.getD 46 undef=u46
 have LQ:=LP.below Hu zr
 have z8:=Fl.below Hu zr
 have Ky:KS B w W4:=vV.trans (KS.ai Hu zr (by omega))
 have k2:=Bc _ _ _ Hu h2
 have k4:=Bc _ _ _ Hu h4
 have k5:=Bc _ _ _ Hu h5
 have hs4:w.heap.size+3≤W4.heap.size:=Nat.le_trans sF Hu.size
 clear Hu Bc hlc hM Fl LP vV h2 h4 h5 bm ID c2 hlt2 RI T7 Ua T8 Pq
 have c2:=(af k2 0).trans rfl
 have oN:(aH L.last).toArray.size=32:=by simp[ak,LQ.len]
 have Bk:=run_loadAt_mid (P:=Tryz.prog) W4 lg 2 195 (aH L.last) _ (λj v hj=>(af LQ.head (2+j)).trans (wS a L hj)) Tryz.underlying195 rfl (by rw[ak,LQ.len];kernel_rfl)
 go_upto_region 7 with(first
  | ((with_reducible refine lz (o:=⟨some 51,_,_,_,_,_⟩) (T:=195) (p:=.pointer (some ⟨lg,2,none⟩)) (c:=(aH L.last).toArray) ?_ (.tmp 50) ?_ ?_ ?_ ?_);rfl;rfl;kernel_rfl;exact Bk)
  | ((with_reducible refine wpList_store_row (o:=⟨none,_,_,_,_,_⟩) (T:=195) (f:=0) (Y:=(aH L.last).toArray) ?_ (.tmp 6) (.tmp 51) ?_ (heap_alloc_new _ _) ?_ ?_ ?_ ?_ ?_ ?_);rfl;rfl;kernel_rfl;kernel_rfl;(rw[oN];kernel_rfl);(rw[oN];decide);exact(bF.u8 L.last).one))
 simp only[Act.put]
 generalize rC:World.setRow _ _ _=W5
 have sy:Below W4.heap.size W4 W5:=by
  rw[←rC];exact(cI _ _ _ _).2
 have k6:W5.heap[W4.heap.size]? =some (.cells (aH L.last).toArray 195 (0,0)):=by
  rw[←rC];refine(cI _ _ _ _).1.trans (congrArg (λz=>some (Obj.cells z 195 (0,0))) ?_);rw[List.take_zero,List.nil_append,List.drop_eq_nil_of_le (by rw[oN];decide),List.append_nil,Array.toArray_toList]
 clear rC Bk
 replace k2:=ag k2 sy
 replace k4:=ag k4 sy
 replace k5:=ag k5 sy
 have CE:=LQ.below sy zr
 have yl:=z8.below sy zr
 have CG:KS B w W5:=Ky.trans (KS.ai sy zr (by omega))
 have HH:=aj k6
 have UA:w.heap.size+3≤W4.heap.size:=hs4
 clear LQ z8 Ky sy hs4 c2
 generalize W4.heap.size=g6 at *
 obtain⟨p1,p2,p3,p4,p5⟩:KS B w (W5.alloc (.cells #[str s] 9))∧(W5.alloc (.cells #[str s] 9)).heap[W5.heap.size]? =some (.cells #[str s] 9 (0,0))∧Below W5.heap.size W5 (W5.alloc (.cells #[str s] 9))∧(W5.alloc (.cells #[str s] 9)).heap.size=W5.heap.size+1∧w.heap.size≤W5.heap.size:=by
  have hA:=(zb W5).alloc zr (.cells #[str s] 9);exact⟨CG.trans (KS.ai hA zr (Nat.le_trans hBw CG.cV.size)),heap_alloc_new _ _,hA,by simp,CG.cV.size⟩
 have hI0:zW w B lg a b1 b2 dn p0 N g6 (W5.heap.size+1) c0 (fZ a L) [] (W5.alloc (.cells #[str s] 9)):=
  ⟨p1,Nat.le_of_eq p4.symm,(CE.below p3 zr).head,(yl.below p3 zr).mono (by simp) (by simp) (Int.le_refl _),ag k2 p3,ag k4 p3,ag k5 p3,L.last,CE.len,ag k6 p3⟩
 have QZ:=λW=>callsIn_wide.1 (ze s 0 W)
 go_wp2_with (go_at_call 146;refine(QZ _).mono ?_;clear QZ;rintro e w' ⟨rfl,rfl⟩)
 generalize W5.alloc (.cells #[str s] 9)=W0 at *
 have hseq:xY Fence.wide 5 Tryz.prog 178 #[.pointer (some ⟨W5.heap.size,0,none⟩)] (λx:mW N=> #[.int .i64 (x.k:Int),x.val]) Cx gp (λxs=>xs.length=N) N W0:=by
  subst hN;exact zf s hs 5 p2
 have vR:=G4 w B lg a b1 b2 dn p0 N g6 (W5.heap.size+1) c0 (fZ a L) hBw (by omega)
 rw[←p4] at vR hI0
 clear CG k2 k4 k5 k6 CE yl p1 p3 p2 oN
 refine(wpIn_wide (n:=6)).1 ?_
 refine(mj (α:=mW N) (F:=Fence.wide) (n:=6) rfl (by decide) (gf:=178) (lb:= #[.pointer (some ⟨W5.heap.size,0,none⟩)]) rfl trivial (enters_of Tryz.func178 (by kernel_rfl) rfl) hseq (λh k=>h.trans k) (λW l o o' h1 h2=>gp.putObj h1 h2 o') (zb W0) (λ_=>rfl)
  (zW w B lg a b1 b2 dn p0 N g6 W0.heap.size c0 (fZ a L)) vR (λx=>GK x _) hI0 (λx:mW N=>{tmps:= #[.pointer (some ⟨lg,0,none⟩),str s,.pointer (some ⟨w.heap.size,0,none⟩),undef,.pointer (some ⟨w.heap.size+1,0,none⟩),.pointer (some ⟨w.heap.size+1+1,0,none⟩),.pointer (some ⟨g6,0,none⟩),.int .i64 (x.k:Int),x.val,undef,undef,undef,str s,.int .i64 (s.length:Int),.int .i64 ((s.length:Int)+27),.int .i64 ((s.length:Int)+27 - 1),.int .i64 (((s.length:Int)+27 - 1) / 27),.int .i64 (N:Int),.pointer (some ⟨lg,0,none⟩),.pointer (some ⟨lg,0,none⟩),.pointer (some ⟨lg,34,none⟩),.bool false,.bool false,.pointer (some ⟨lg,0,none⟩),.pointer (some ⟨lg,0,none⟩),.pointer (some ⟨lg,0,none⟩),.pointer (some ⟨a,0,none⟩),.bool false,.bool false,SK,u30,u31,u32,u33,u34,u35,u36,SM,u38,u39,u40,u41,u42,u43,u44,u45,u46,.bool false,.pointer (some ⟨lg,0,none⟩),.pointer (some ⟨lg,0,none⟩),.pointer (some ⟨lg,2,none⟩),.agg (aH L.last).toArray,str s,.func (.func 178) #[] #[.pointer (some ⟨W5.heap.size,0,none⟩)],.int .i64 (x.k:Int),x.val,undef,undef,undef,undef,undef,undef,undef,undef,undef,undef,undef,undef,undef,undef,undef,undef,undef,undef,undef,undef,undef,undef,undef,undef,undef,undef,undef,undef,undef,undef,undef,undef,undef,undef,undef,undef,undef,undef,undef,undef,undef,undef,undef,undef,undef,undef,undef,undef,undef,undef],defers:=[] }) ?assign ?body ?done)
 case assign=>
  rintro l x W K hK
  gi_wp2
  exact hK
 case body =>
  rintro l pre x W hI hP hlen;clear hI0 vR hseq p4;obtain⟨ds,m1,m2⟩:=hI.t6;have hds:(aH ds).toArray.size=32:=by simp[ak,m1]
  have c5:=(af hI.t5 0).trans rfl;have hcv:=hP.cv;have hvl:x.val=.slice (some ⟨x.g,0,none⟩) x.bs.length x.c:=rfl;have Q0:=zu ds x.k N x.val x.bs W hcv x.le m1;have hsz:∀d9:List UInt8,d9.length=64→(aH d9).toArray.size=64:=λd9 h=>by simp[ak,h]
  gi_wp2_with (first
   | ((with_reducible refine oF (o:=⟨some 56,_,_,_,_,_⟩) (T:=195) (p:=.pointer (some ⟨g6,0,none⟩)) (c:=(aH ds).toArray) ?_ (.tmp 6) ?_ ?_ ?_ ?_);rfl;rfl;kernel_rfl;exact bT m2 Tryz.underlying195 (by rw[hds];kernel_rfl))
   | (refine⟨trivial,?_⟩;gi_at_call 115;refine(CallsIn.inRound l (callsIn_wide.2 Q0)).mono ?_;clear Q0;rintro e w1 ⟨⟨d9,rfl,k9⟩,kM⟩)
   | ((with_reducible refine mP (o:=⟨none,_,_,_,_,_⟩) (T:=145) (f:=0) (Y:=(aH d9).toArray) ?_ (.tmp 9) (.tmp 60) ?_ (heap_alloc_new _ _) ?_ ?_ ?_ ?_ ?_ ?_);rfl;rfl;kernel_rfl;kernel_rfl;(rw[hsz d9 k9];kernel_rfl);(rw[hsz d9 k9];decide);exact(bF.u8 d9).one))
  generalize L4:World.setRow _ _ _=W9;have Kv:Below w1.heap.size w1 W9:=by
   rw[←L4];exact(cI _ _ _ _).2
  have SE:W9.heap[w1.heap.size]? =some (.cells (aH d9).toArray 145 (0,0)):=by
   rw[←L4];refine(cI _ _ _ _).1.trans (congrArg (λz=>some (Obj.cells z 145 (0,0))) ?_);rw[List.take_zero,List.nil_append,List.drop_eq_nil_of_le (by rw[hsz d9 k9];decide),List.append_nil]
  clear L4;have Rv:=(hI.below hBw kM).below hBw Kv;have Pc:iT W W9:=(iT.ai kM).trans (iT.ai Kv);have Js:∀(pv:Value) (S:dc),bw B w1 a b1 b2 pv S→∀b,(b=a∨b=b1∨b=b2∨pv.ownBlock=some b)→b≠w1.heap.size:=λpv S h b hb e=>by have:=(h.lt hb).2;omega
  have Rt:=hI.below hBw kM;obtain⟨pv,Sx,q1,q2,q3,q4,q5,q6,q7⟩:=id Rt.pP;have VA:=q1.below Kv zr;have hne:=Js pv Sx q1;have U9:B≤w1.heap.size:=Nat.le_trans hBw Rt.ks.cV.size;have UB:=aj SE;clear hI Kv kM hcv hvl c5 m2;generalize UC:w1.heap.size=g9 at *;simp only[Act.put];have HW:=enters_of Tryz.func43 (by kernel_rfl) rfl;have yo:∀(listed:Array Bool) (w':World),Hj w B lg a b1 b2 dn p0 N g6 g9 W0.heap.size c0 (fZ a L) pre x d9 W9 listed w'→w'.cell? ⟨w.heap.size,0,none⟩=some (.pointer (some ⟨lg,0,none⟩))∧w'.cell? ⟨lg,0,none⟩=some (.pointer (some ⟨a,0,none⟩))∧w'.cell? ⟨lg,1,none⟩=some (.int .i64 (L.at_:Int)):=λlisted w' h=>by
   obtain⟨_,hX⟩:=h.common hBw Rv;obtain⟨g1,g2,_⟩:=mG a L F6;exact⟨(af hX.2 0).trans rfl,(af hX.1 0).trans g1,(af hX.1 1).trans g2⟩
  refine qG (S:=Hj w B lg a b1 b2 dn p0 N g6 g9 W0.heap.size c0 (fZ a L) pre x d9 W9) (A:=λj v=>match j with
   | 0=>v=.pointer (some ⟨lg,0,none⟩)
   | 1=>v=.pointer (some ⟨lg,0,none⟩)
   | 2=>v=.pointer (some ⟨lg,0,none⟩)
   | 3=>v=.pointer (some ⟨a,0,none⟩)
   | 4=>v=.pointer (some ⟨lg,0,none⟩)
   | 5=>v=.pointer (some ⟨lg,0,none⟩)
   | 6=>v=.pointer (some ⟨lg,1,none⟩)
   | 7=>v=.int .i64 (L.at_:Int)
   | 8=>v=.int .i64 (x.k:Int)
   | 9=>v=.int .i64 ((L.at_+x.k:Nat):Int)
   | 10=>v=.slice (some ⟨g9,0,none⟩) 64 64
   | _=>v=.int .i64 0) (by kernel_rfl) (λ⟨_,_,h⟩=>h) (by kernel_rfl) (by kernel_rfl) (by kernel_rfl) ⟨λ_=>(zb W9).drew,λh=>by simp at h⟩ ⟨?_,?_,?_,?_,?_,?_,?_,?_,?_,?_,?_,?_,?_,trivial⟩ ?_
  · exact fh (λ_ _ h=>h.mark (by decide)) rfl λlisted a' wx hS aC hout=>by
     have e:a'.eval (.tmp 2)=.pointer (some ⟨w.heap.size,0,none⟩):=(hout 2 (bG (by kernel_rfl))).trans rfl;unfold execOp;simp only[e];simp[go_sem,yo _ _ hS]
  · exact fh (λ_ _ h=>h.mark (by decide)) rfl λlisted a' wx hS aC hout=>by
     have e:a'.eval (.tmp 61)=.pointer (some ⟨lg,0,none⟩):=aC 0 61 (by kernel_rfl) rfl;unfold execOp;simp only[e];simp[go_sem]
  · exact fh (λ_ _ h=>h.mark (by decide)) rfl λlisted a' wx hS aC hout=>by
     have e:a'.eval (.tmp 62)=.pointer (some ⟨lg,0,none⟩):=aC 1 62 (by kernel_rfl) rfl;unfold execOp;simp only[e];simp[go_sem]
  · exact fh (λ_ _ h=>h.mark (by decide)) rfl λlisted a' wx hS aC hout=>by
     have e:a'.eval (.tmp 63)=.pointer (some ⟨lg,0,none⟩):=aC 2 63 (by kernel_rfl) rfl;unfold execOp;simp only[e];simp[go_sem,yo _ _ hS]
  · exact fh (λ_ _ h=>h.mark (by decide)) rfl λlisted a' wx hS aC hout=>by
     have e:a'.eval (.tmp 2)=.pointer (some ⟨w.heap.size,0,none⟩):=(hout 2 (bG (by kernel_rfl))).trans rfl;unfold execOp;simp only[e];simp[go_sem,yo _ _ hS]
  · exact fh (λ_ _ h=>h.mark (by decide)) rfl λlisted a' wx hS aC hout=>by
     have e:a'.eval (.tmp 65)=.pointer (some ⟨lg,0,none⟩):=aC 4 65 (by kernel_rfl) rfl;unfold execOp;simp only[e];simp[go_sem]
  · exact fh (λ_ _ h=>h.mark (by decide)) rfl λlisted a' wx hS aC hout=>by
     have e:a'.eval (.tmp 66)=.pointer (some ⟨lg,0,none⟩):=aC 5 66 (by kernel_rfl) rfl;unfold execOp;simp only[e];simp[go_sem]
  · exact fh (λ_ _ h=>h.mark (by decide)) rfl λlisted a' wx hS aC hout=>by
     have e:a'.eval (.tmp 67)=.pointer (some ⟨lg,1,none⟩):=aC 6 67 (by kernel_rfl) rfl;unfold execOp;simp only[e];simp[go_sem,yo _ _ hS]
  · exact fh (λ_ _ h=>h.mark (by decide)) rfl λlisted a' wx hS aC hout=>by
     have e:a'.eval (.tmp 7)=.int .i64 (x.k:Int):=(hout 7 (bG (by kernel_rfl))).trans rfl;unfold execOp;simp only[e];simp[go_sem]
  · exact fh (λ_ _ h=>h.mark (by decide)) rfl λlisted a' wx hS aC hout=>by
     have e:a'.eval (.tmp 68)=.int .i64 (L.at_:Int):=aC 7 68 (by kernel_rfl) rfl;have e2:a'.eval (.tmp 69)=.int .i64 (x.k:Int):=aC 8 69 (by kernel_rfl) rfl;have Va:=x.hk;have hwr:IntKind.i64.wrap ((L.at_:Int)+(x.k:Int))=(L.at_:Int)+(x.k:Int):=by
      simp[IntKind.wrap,IntKind.bits,IntKind.signed];omega
     unfold execOp;simp only[e,e2];simp[go_sem,hwr]
  · exact fh (λ_ _ h=>h.mark (by decide)) rfl λlisted a' wx hS aC hout=>by
     have e:a'.eval (.tmp 9)=.pointer (some ⟨g9,0,none⟩):=(hout 9 (bG (by kernel_rfl))).trans rfl;unfold execOp;simp only[e];simp[go_sem]
  · refine iB λlisted a' wx oN Ba hS aC hout next hnx=>?_
    have h11:11<listed.size:=by rw[oN];decide
    have PE:listed.getD 11 false=false:=by
     simp[Array.getD_eq_getD_getElem?,h11] at Ba ⊢;exact Ba
    have hBl:=hS.1 PE;have hIx:=Rv.below hBw hBl;have TI:=VA.below hBl zr;have SF:=(hBl.block _ UB).trans SE;have Ts:a'.eval (.tmp 64)=.pointer (some ⟨a,0,none⟩):=aC 3 64 (by kernel_rfl) rfl;have Tt:a'.eval (.tmp 70)=.int .i64 ((L.at_+x.k:Nat):Int):=aC 9 70 (by kernel_rfl) rfl;have Tu:a'.eval (.tmp 71)=.slice (some ⟨g9,0,none⟩) 64 64:=aC 10 71 (by kernel_rfl) rfl;have Mg:=CV.IV (D:=λb=>b=g9) rfl SF (by rw[ak,k9];decide);rw[ak,k9] at Mg;have Va:=x.hk;have Qg:gh Sx={Sx with calls:=Sx.calls - 1 }:=by
     unfold gh;rw[if_neg (by simp[q4])]
    have N5:FB Sx ((L.at_+x.k:Nat):Int)=0:=by
     unfold FB;rw[if_neg (by simp[q3]),if_pos ⟨by omega,by omega⟩]
    refine xL rfl HW Ts Tt Tu ((zQ (X:=λb=>b=g9) wx TI (L.at_+x.k) _ d9 Mg ⟨by omega,by omega⟩ N5 (by omega) (by unfold zg;simp[q4]) (λb hb e=>hne b (.inl e) hb) (λb hb=>⟨λe=>hne b (.inl e) hb,λe=>hne b (.inr (.inl e)) hb,λe=>hne b (.inr (.inr (.inl e))) hb,λe=>hne b (.inr (.inr (.inr e))) hb⟩) (by omega)).mono (R':=λe w'=>∃u,e=.returned u∧(u=.int .i64 0∧(∃GM,bw B w' a b1 b2 GM {gh Sx with now:=mO (gh Sx).now (L.at_+x.k) (jV d9),pend:=(gh Sx).pend++[(L.at_+x.k,jV d9)] })∧KD (λb=>b=g9) B wx w')) (by rintro e w' ⟨rfl,h2,h3⟩;exact⟨_,rfl,rfl,h2,h3⟩)) λu w' hu=>?_
    obtain⟨rfl,⟨GM,Rl⟩,Hs⟩:=hu;rw[Qg] at Rl;refine hnx _ w' rfl ⟨λh=>?_,λ_=>⟨hIx.wrote Hs ⟨GM,_,Rl,q2,q3,q4,by simp;omega,by simp only;omega,by simp only;omega⟩,Hs.keep g9 _ SF (.inr rfl),(iT.ai hBl).trans (iT.Ar Hs)⟩⟩;simp[Array.getD_eq_getD_getElem?,h11] at h
  · exact fh (λ_ _ h=>h.mark (by decide)) rfl λlisted a' wx hS aC hout=>by
     have e:a'.eval (.tmp 72)=.int .i64 0:=aC 11 72 (by kernel_rfl) rfl;unfold execOp;simp only[e];simp[go_sem]
  · intro a3 w3 hdf iw hout hS hA
    obtain⟨Vt,hall,RY⟩:=hS;obtain⟨Ru,Vl,Pb⟩:=RY.2 (hall 11 (by decide));have Cy:a3.tmps.getD 10 undef=.int .i64 0:=hA 12 _ 10 rfl rfl;rw[dO hdf iw hout];simp only[JW,pz,pw];rw[Cy];clear hdf iw hout hall RY hA Cy;generalize a3.tmps.getD 61 undef=v61;generalize a3.tmps.getD 62 undef=v62;generalize a3.tmps.getD 63 undef=v63;generalize a3.tmps.getD 64 undef=v64;generalize a3.tmps.getD 65 undef=v65;generalize a3.tmps.getD 66 undef=v66;generalize a3.tmps.getD 67 undef=v67;generalize a3.tmps.getD 68 undef=v68;generalize a3.tmps.getD 69 undef=v69;generalize a3.tmps.getD 70 undef=v70;generalize a3.tmps.getD 71 undef=v71;generalize a3.tmps.getD 72 undef=v72;obtain⟨d6,n1,n2⟩:=Ru.t6;have Kg:(aH d6).toArray.size=32:=by simp[ak,n1]
    have hT:(d9.take 32).length=32:=by rw[List.length_take,k9];rfl
    have L2:(aH (d9.take 32)).toArray.size=32:=by simp only[List.size_toArray,ak,hT]
    have Bk:=run_loadAt_mid (P:=Tryz.prog) w3 g9 0 195 (aH (d9.take 32)) _ (λj v hj=>(af Vl (0+j)).trans (Ca hj)) Tryz.underlying195 rfl (by rw[ak,hT];kernel_rfl);have Ur:∀W:World,(Instr.arrayAt 195 (.slice (some ⟨g9,0,none⟩) 32 64)).run Tryz.prog W=.ok (.pointer (some ⟨g9,0,none⟩)) W:=λW=>by
     unfold Instr.arrayAt;simp[run_underlying Tryz.underlying195]
    generalize d9.take 32=T9 at *
    gi_wp2_with (first
     | ((with_reducible refine oF (o:=⟨some 81,_,_,_,_,_⟩) (T:=195) (p:=.pointer (some ⟨g9,0,none⟩)) (c:=(aH T9).toArray) ?_ (.tmp 80) ?_ ?_ ?_ ?_);rfl;rfl;kernel_rfl;exact Bk)
     | ((with_reducible refine mP (o:=⟨none,_,_,_,_,_⟩) (T:=195) (f:=0) (Y:=(aH T9).toArray) ?_ (.tmp 6) (.tmp 81) ?_ n2 ?_ ?_ ?_ ?_ ?_ ?_);rfl;rfl;kernel_rfl;kernel_rfl;(rw[L2];kernel_rfl);(rw[L2,Kg];decide);exact(bF.u8 T9).one))
    have hrow:(List.take 0 (aH d6)++aH T9++List.drop (0+(aH T9).toArray.size) (aH d6)).toArray=(aH T9).toArray:=by
     rw[L2,List.take_zero,List.nil_append,List.drop_eq_nil_of_le (by rw[ak,n1];decide),List.append_nil]
    rw[hrow];have RB:=(Pc.trans Pb).row n2 (by decide) (aH T9).toArray;exact⟨RB.from _,RB.s,Ru.last hBw (by omega) T9 hT⟩
 case done =>
  rintro D xs W hDl0 hxs hI hDd;have V8:w.heap.size<D:=by omega
  obtain⟨pv,Sx,q1,q2,q3,q4,q5,q6,q7⟩:=id hI.pP;rw[hxs] at q5 q6;have N5:FB Sx ((0:Nat):Int)=0:=by
   unfold FB;rw[if_neg (by simp[q3]),if_pos ⟨by omega,by omega⟩]
  have Qg:gh Sx={Sx with calls:=Sx.calls - 1 }:=by
   unfold gh;rw[if_neg (by simp[q4])]
  have HF:=yj (X:=λ_=>False) W q1 ⟨by omega,by omega⟩ N5 (by unfold zg;simp[q4]) (by omega) (λb hb=>hb.elim);rw[Qg] at HF;have c2:=(af hI.t2 0).trans rfl;obtain⟨g1,g2,g3,g4⟩:=mG a L F6;have l0:=(af hI.log 0).trans g1;clear hI0 vR hseq p4 N5;go_upto_region 20 with(go_at_call 44;refine HF.mono ?_;clear HF;rintro e w6 ⟨rfl,I9,Hs⟩);have key:∀{b:Nat} {cs:Array Value} {t:TypeId},t≠133∧t≠145∧t≠147→W.heap[b]? =some (.cells cs t (0,0))→w6.heap[b]? =some (.cells cs t (0,0)):=λht e=>Hs.keep _ _ e (.inl λcs' t' Nv e'=>by cases e';exact ht)
  obtain⟨d6,m1,m2⟩:=hI.t6;have t2:=key (by decide) hI.t2;have t4:=key (by decide) hI.t4;have t5:=key (by decide) hI.t5;have tl:=key (by decide) hI.log
  replace m2:=key (by decide) m2
  have tD:=Hs.keep D _ hDd (.inl λcs' t' Nv e'=>by cases e');have oq:=hI.ks.trans (KS.Ar Hs);have Kg:(aH d6).toArray.size=32:=by simp[ak,m1]
  have Wp:lg<w.heap.size:=P4;have hnl:w.heap.size≠lg:=by omega
  have DV:w.heap.size+1+1≠lg:=by omega
  have Mx:g6≠lg:=by omega
  have TP:fZ a L=fZ a ⟨L.at_,L.last,false⟩:=by rw[←hf]
  rw[TP] at tl;clear hI hDd key Hs q1 c2 l0;refine dW (S:=KX w w6 B lg a L N d6) (A:=λj v=>match j with
   | 0=>v=.pointer (some ⟨lg,0,none⟩)
   | 1=>v=.pointer (some ⟨lg,0,none⟩)
   | 2=>v=.pointer (some ⟨lg,0,none⟩)
   | 3=>v=.pointer (some ⟨lg,0,none⟩)
   | 4=>v=.pointer (some ⟨lg,1,none⟩)
   | 5=>v=.int .i64 (L.at_:Int)
   | 6=>v=.int .i64 (N:Int)
   | 7=>v=.int .i64 ((L.at_+N:Nat):Int)
   | 8=>v=.agg (aH d6).toArray
   | 9=>v=.pointer (some ⟨lg,0,none⟩)
   | 10=>v=.pointer (some ⟨lg,1,none⟩)
   | 12=>v=.pointer (some ⟨lg,0,none⟩)
   | 13=>v=.pointer (some ⟨lg,2,none⟩)
   | _=>True) (by kernel_rfl) (by kernel_rfl) (by kernel_rfl) ⟨oq.trans (KS.ai (zb w6).drew zr (Nat.le_trans hBw oq.cV.size)),λb _=>rfl,by refine(show w6.heap[lg]? =_ from tl).trans ?_;simp⟩ ⟨?_,?_,?_,?_,?_,?_,?_,?_,?_,?_,?_,?_,?_,?_,?_,trivial⟩ ?_
  · exact fh (λ_ _ h=>h.mark (by decide)) rfl λlisted a' wx hS aC hout=>by
     have e:a'.eval (.tmp 2)=.pointer (some ⟨w.heap.size,0,none⟩):=(hout 2 (bG (by kernel_rfl))).trans rfl;have c:=(af ((hS.2.1 _ hnl).trans t2) 0).trans rfl;unfold execOp;simp only[e];simp[go_sem,c]
  · exact fh (λ_ _ h=>h.mark (by decide)) rfl λlisted a' wx hS aC hout=>by
     have e:a'.eval (.tmp 2)=.pointer (some ⟨w.heap.size,0,none⟩):=(hout 2 (bG (by kernel_rfl))).trans rfl;have c:=(af ((hS.2.1 _ hnl).trans t2) 0).trans rfl;unfold execOp;simp only[e];simp[go_sem,c]
  · exact fh (λ_ _ h=>h.mark (by decide)) rfl λlisted a' wx hS aC hout=>by
     have e:a'.eval (.tmp 2)=.pointer (some ⟨w.heap.size,0,none⟩):=(hout 2 (bG (by kernel_rfl))).trans rfl;have c:=(af ((hS.2.1 _ hnl).trans t2) 0).trans rfl;unfold execOp;simp only[e];simp[go_sem,c]
  · exact fh (λ_ _ h=>h.mark (by decide)) rfl λlisted a' wx hS aC hout=>by
     have e:a'.eval (.tmp 95)=.pointer (some ⟨lg,0,none⟩):=aC 2 95 (by kernel_rfl) rfl;unfold execOp;simp only[e];simp[go_sem]
  · exact fh (λ_ _ h=>h.mark (by decide)) rfl λlisted a' wx hS aC hout=>by
     have e:a'.eval (.tmp 96)=.pointer (some ⟨lg,0,none⟩):=aC 3 96 (by kernel_rfl) rfl;unfold execOp;simp only[e];simp[go_sem]
  · refine GY λlisted a' wx oN Ba hS hcl aC hout next hnx=>?_
    have h5:5<listed.size:=by rw[oN];decide
    have Qb:listed.getD 11 false=false:=by
     rcases hq:listed.getD 11 false with _|_
     · rfl
     · have k5:=bl hcl (i:=7) (j:=5) rfl (by kernel_rfl) (bl hcl (i:=11) (j:=7) rfl (by kernel_rfl) hq)
       simp[Array.getD_eq_getD_getElem?,h5] at k5 Ba;rw[k5] at Ba;cases Ba
    have Ms:=hS.2.2;rw[Qb] at Ms;have e:a'.eval (.tmp 97)=.pointer (some ⟨lg,1,none⟩):=aC 4 97 (by kernel_rfl) rfl;have c:wx.cell? ⟨lg,1,none⟩=some (.int .i64 (L.at_:Int)):=(af Ms 1).trans rfl;refine aR (v:=.int .i64 (L.at_:Int)) ?_ (hnx _ _ rfl (hS.mark (by decide)));unfold execOp;simp only[e];simp[go_sem,c]
  · exact fh (λ_ _ h=>h.mark (by decide)) rfl λlisted a' wx hS aC hout=>by
     have e:a'.eval (.tmp 5)=.pointer (some ⟨w.heap.size+1+1,0,none⟩):=(hout 5 (bG (by kernel_rfl))).trans rfl;have c:=(af ((hS.2.1 _ DV).trans t5) 0).trans rfl;unfold execOp;simp only[e];simp[go_sem,c]
  · exact fh (λ_ _ h=>h.mark (by decide)) rfl λlisted a' wx hS aC hout=>by
     have e:a'.eval (.tmp 98)=.int .i64 (L.at_:Int):=aC 5 98 (by kernel_rfl) rfl;have e2:a'.eval (.tmp 99)=.int .i64 (N:Int):=aC 6 99 (by kernel_rfl) rfl;have hwr:IntKind.i64.wrap ((L.at_:Int)+(N:Int))=(L.at_:Int)+(N:Int):=by
      simp[IntKind.wrap,IntKind.bits,IntKind.signed];omega
     unfold execOp;simp only[e,e2];simp[go_sem,hwr]
  · exact fh (λ_ _ h=>h.mark (by decide)) rfl λlisted a' wx hS aC hout=>by
     have e:a'.eval (.tmp 6)=.pointer (some ⟨g6,0,none⟩):=(hout 6 (bG (by kernel_rfl))).trans rfl;have Bk:=bT (P:=Tryz.prog) (w:=wx) (t:=195) ((hS.2.1 _ Mx).trans m2) Tryz.underlying195 (by rw[Kg];kernel_rfl);unfold execOp;simp only[e,Bk,Sem.run_bind,Result.andThen_ok,Sem.run_pure]
  · exact fh (λ_ _ h=>h.mark (by decide)) rfl λlisted a' wx hS aC hout=>by
     have e:a'.eval (.tmp 93)=.pointer (some ⟨lg,0,none⟩):=aC 0 93 (by kernel_rfl) rfl;unfold execOp;simp only[e];simp[go_sem]
  · exact fh (λ_ _ h=>h.mark (by decide)) rfl λlisted a' wx hS aC hout=>by
     have e:a'.eval (.tmp 102)=.pointer (some ⟨lg,0,none⟩):=aC 9 102 (by kernel_rfl) rfl;unfold execOp;simp only[e];simp[go_sem]
  · refine iB λlisted a' wx oN Ba hS aC hout next hnx=>?_
    have h11:11<listed.size:=by rw[oN];decide
    have e1:a'.eval (.tmp 103)=.pointer (some ⟨lg,1,none⟩):=aC 10 103 (by kernel_rfl) rfl;have e2:a'.eval (.tmp 100)=.int .i64 ((L.at_+N:Nat):Int):=aC 7 100 (by kernel_rfl) rfl;obtain⟨j1,j2,j3⟩:=hS;have c:wx.cell? ⟨lg,1,none⟩=some (.int .i64 ((if listed.getD 11 false=true then L.at_+N else L.at_:Nat):Int)):=(af j3 1).trans rfl;have f:=au j3 1;refine aY rfl e1 e2 (w':=wx.setCell ⟨lg,1,none⟩ (.int .i64 ((L.at_+N:Nat):Int))) (by simp[go_sem,c,f]) (hnx undef _ trivial ⟨j1.put j3 hB _,λb hb=>(heap_setCell_other wx ⟨lg,1,none⟩ b _ hb).trans (j2 b hb),?_⟩);rw[heap_setCell_same wx lg 1 _ _ _ j3,GD,getD_set_ne false (by decide:(11:Nat)≠14)];have Oy:(listed.setIfInBounds 11 true).getD 11 false=true:=by simp[Array.getD_eq_getD_getElem?,h11]
    rw[Oy]
    rfl
  · exact fh (λ_ _ h=>h.mark (by decide)) rfl λlisted a' wx hS aC hout=>by
     have e:a'.eval (.tmp 94)=.pointer (some ⟨lg,0,none⟩):=aC 1 94 (by kernel_rfl) rfl;unfold execOp;simp only[e];simp[go_sem]
  · exact fh (λ_ _ h=>h.mark (by decide)) rfl λlisted a' wx hS aC hout=>by
     have e:a'.eval (.tmp 104)=.pointer (some ⟨lg,0,none⟩):=aC 12 104 (by kernel_rfl) rfl;unfold execOp;simp only[e];simp[go_sem]
  · refine iB λlisted a' wx oN Ba hS aC hout next hnx=>?_
    have Nx:14<listed.size:=by rw[oN];decide
    have e1:a'.eval (.tmp 105)=.pointer (some ⟨lg,2,none⟩):=aC 13 105 (by kernel_rfl) rfl;have e2:a'.eval (.tmp 101)=.agg (aH d6).toArray:=aC 8 101 (by kernel_rfl) rfl;obtain⟨j1,j2,j3⟩:=hS;have DS:(if listed.getD 14 false=true then d6 else L.last).length=32:=by
     by_cases h:listed.getD 14 false=true
     · rw[if_pos h]
       exact m1
     · rw[if_neg h]
       exact F6
    refine aY rfl e1 e2 (bK (o:=2) j3 (by rw[Kg];kernel_rfl) (by rw[Kg,(mG a _ DS).2.2.2];decide) (bF.u8 d6).one) (hnx undef _ trivial ⟨j1.row j3 hB _,λb hb=>(setRow_other wx lg b _ hb).trans (j2 b hb),?_⟩);rw[setRow_heap wx lg _ _ _ _ j3,getD_set_ne false (by decide:(14:Nat)≠11)];have Oz:(listed.setIfInBounds 14 true).getD 14 false=true:=by simp[Array.getD_eq_getD_getElem?,Nx]
    rw[Oz,Kg];exact congrArg (λz=>some (Obj.cells z 198 (0,0))) (BE a _ d6 DS m1)
  intro a4 w7 hdf iw hout hS _;obtain⟨Vt,hall,j1,j2,j3⟩:=hS;rw[hall 11 (by decide),hall 14 (by decide),if_pos rfl,if_pos rfl] at j3;rw[dO hdf iw hout];simp only[JW,pz,pw];clear hdf iw hout hall;have My:w.heap.size+1≠lg:=by omega
  have t47:=(j2 _ My).trans t4;have c4:=(af t47 0).trans rfl;have f4:=au t47 0;have hDl:D≠lg:=λe=>by subst e;rw[tl] at tD;cases tD
  have QT:=(j2 _ hDl).trans tD;have Rm:D≠w.heap.size+1:=λe=>by rw[e,t47] at QT;cases QT
  go_wp2_with fail;have f1:(w7.setCell ⟨w.heap.size+1,0,none⟩ (.int .i64 0)).heap[D]? =some (.deferred (some [])):=(heap_setCell_other w7 ⟨w.heap.size+1,0,none⟩ D _ Rm).trans QT;have f2:=heap_setCell_same w7 (w.heap.size+1) 0 _ _ (.int .i64 0) t47;obtain⟨W8,NU⟩:∃W8,(w7.setCell ⟨w.heap.size+1,0,none⟩ (.int .i64 0)).putObj D (.deferred none)=W8:=⟨_,rfl⟩
  have QN:∀b,b≠D→b≠w.heap.size+1→W8.heap[b]? =w7.heap[b]? :=λb h1 h2=>by
   rw[←NU];exact(World.putObj_heap_other h1).trans (heap_setCell_other w7 ⟨w.heap.size+1,0,none⟩ b _ h2)
  have f3:W8.heap[w.heap.size+1]? =some (.cells #[.int .i64 0] 49 (0,0)):=by
   rw[←NU];exact(World.putObj_heap_other (λe=>Rm e.symm)).trans f2
  have cz:=(af f3 0).trans rfl;have OJ:Below B w W8:=by
   rw[←NU];exact(j1.cV.setCell (p:=⟨w.heap.size+1,0,none⟩) (by show B≤w.heap.size+1;omega) (.int .i64 0)).grown (grownBy_putObj' _ D (.deferred none)) (by have:=j1.cV.size;simp[World.setCell];omega) (λk e=>by cases e;omega)
  have Bu:∀{b:Nat} {cs:Array Value} {t:TypeId},t≠198∧t≠49→w6.heap[b]? =some (.cells cs t (0,0))→W8.heap[b]? =some (.cells cs t (0,0)):=λ{b cs t} ht e=>by
   refine(QN b (λe2=>?_) (λe2=>?_)).trans ((j2 b λe2=>?_).trans e)
   · subst e2;rw[tD] at e;cases e
   · subst e2;rw[t4] at e;exact ht.2 (fI e).symm
   · subst e2;rw[tl] at e;exact ht.1 (fI e).symm
  refine⟨by simp,.inl ⟨_,W8,rfl,by rw[←NU];exact run_takeDeferred f1,?_⟩⟩;refine⟨.int .i64 0,by simp[results,Tryz.results109,go_sem,cz],rfl,⟨d6,(QN lg (λe=>hDl e.symm) (λe=>My e.symm)).trans j3,m1⟩,⟨_,_,I9.agree λb hb=>?_,q2,q3,q4,nl _,by simp only;omega,by simp only;omega⟩,OJ,λb x hx ho=>?_⟩
  · rcases hb with rfl|rfl|rfl|hb
    · rw[Bu (by decide) I9.head,I9.head]
    · rw[Bu (by decide) I9.iY,I9.iY]
    · rw[Bu (by decide) I9.now,I9.now]
    · cases hb
  · have:=aj hx
    exact(QN b (by omega) (by omega)).trans (j1.keep b x hx ho)
def ck (D:Nat→Prop) (w:World) (v:Value) (l:List (List UInt8×List UInt8)):Prop:=
 ∃p c,v=.slice p l.length c∧l.length≤c∧l.length≤maxLen∧(∀x∈l,x.1.length≤maxLen∧x.2.length≤maxLen)∧(l=[]∨∃b o,p=some ⟨b,o,none⟩∧D b∧b<w.heap.size∧∀j (h:j<l.length),w.cell? ⟨b,o+j * 2,none⟩=some (str l[j].1)∧w.cell? ⟨b,o+j * 2+1,none⟩=some (str l[j].2))
def l9 (l:List (List UInt8×List UInt8)):List Value:=l.flatMap λx=>[str x.1,str x.2]
theorem Cf (l:List (List UInt8×List UInt8)) (x:List UInt8×List UInt8):l9 (l++[x])=l9 l++[str x.1,str x.2]:=by simp[l9]
theorem qT:∀(l:List (List UInt8×List UInt8)) (j:Nat) (h:j<l.length),(l9 l)[j * 2]? =some (str l[j].1)∧(l9 l)[j * 2+1]? =some (str l[j].2)
 | x::l,0,_=>⟨rfl,rfl⟩
 | x::l,j+1,h=>by
  have:=qT l j (by simpa using h);have e:l9 (x::l)=str x.1::str x.2::l9 l:=rfl;rw[e,show(j+1) * 2=j * 2+1+1 by omega]
  simpa using this
section
variable {D D':Nat→Prop} {w w':World} {v:Value} {l:List (List UInt8×List UInt8)}
theorem ck.shape (h:ck D w v l):∃p c,v=.slice p l.length c∧l.length≤c∧l.length≤maxLen:=by
 obtain⟨p,c,h1,h2,h3,_⟩:=h
 exact⟨p,c,h1,h2,h3⟩
theorem ck.le (h:ck D w v l):∀x∈l,x.1.length≤maxLen∧x.2.length≤maxLen:=by
 obtain⟨p,c,_,_,_,h,_⟩:=h
 exact h
theorem ck.at {p:Option Addr} {n c:Nat} (h:ck D w (.slice p n c) l) {k:Nat} {x:List UInt8×List UInt8} (hk:l[k]? =some x):∃b o,p=some ⟨b,o,none⟩∧D b∧w.cell? ⟨b,o+k * 2,none⟩=some (str x.1)∧w.cell? ⟨b,o+k * 2+1,none⟩=some (str x.2):=by
 obtain⟨hj,e⟩:=List.getElem?_eq_some_iff.1 hk
 obtain⟨p',c',h1,_,_,_,h4⟩:=h
 injection h1 with h1
 subst h1
 rcases h4 with rfl|⟨b,o,e1,h5,_,h6⟩
 · simp at hj
 · have:=h6 k hj
   rw[e] at this;exact⟨b,o,e1,h5,this⟩
theorem ck.agree (h:ck D w v l) (hk:∀b,D b→b<w.heap.size→w'.heap[b]? =w.heap[b]?):ck D w' v l:=by
 obtain⟨p,c,h1,h2,h3,hl,h4⟩:=h
 refine⟨p,c,h1,h2,h3,hl,?_⟩
 rcases h4 with h4|⟨b,o,e1,h5,h6,h7⟩
 · exact .inl h4
 · refine .inr ⟨b,o,e1,h5,wT (hk b h5 h6) h6,λj hj=>?_⟩
   rw[World.cell?_of_block (w:=w) (a:=⟨b,o+j * 2,none⟩) (hk b h5 h6),World.cell?_of_block (w:=w) (a:=⟨b,o+j * 2+1,none⟩) (hk b h5 h6)];exact h7 j hj
theorem ck.mono (h:ck D w v l) (hD:∀b,D b→D' b):ck D' w v l:=by
 obtain⟨p,c,h1,h2,h3,hl,h4⟩:=h
 refine⟨p,c,h1,h2,h3,hl,?_⟩
 rcases h4 with h4|⟨b,o,e1,h5,h6,h7⟩
 · exact .inl h4
 · exact .inr ⟨b,o,e1,hD _ h5,h6,h7⟩
theorem ck.below {K:Nat} (h:ck D w v l) (hb:Below K w w') (hK:w.heap.size≤K):ck D w' v l:=h.agree λb _ hl=>hb.block b (by omega)
theorem ck.nil (D:Nat→Prop) (w:World) (p:Option Addr) (c:Nat):ck D w (.slice p 0 c) []:=⟨p,c,rfl,Nat.zero_le _,Nat.zero_le _,(λ_ h=>by cases h),.inl rfl⟩
theorem ck.eZ {base:Nat} {e:TypeId} (h:w.ownsRow base e 2 v l.length (l9 l)) (hl:∀x∈l,x.1.length≤maxLen∧x.2.length≤maxLen) (hD:∀b,v.ownBlock=some b→D b):ck D w v l:=by
 have hlt:=λb e=>aW h (b:=b) e
 rcases h.2 with⟨rfl,h0⟩|⟨g,cap,cur,rfl,hg,hh,h1,h2,h3,h4⟩
 · have e0:l=[]:=List.length_eq_zero_iff.1 (by omega)
   subst e0;exact ck.nil _ _ _ _
 · refine⟨_,_,rfl,by omega,by omega,hl,.inr ⟨g,0,rfl,hD g rfl,hlt g rfl,λj hj=>?_⟩⟩
   obtain⟨g1,g2⟩:=qT l j hj;have e1:=h.cells (g:=g) rfl _ _ g1;have e2:=h.cells (g:=g) rfl _ _ g2;refine⟨?_,?_⟩
   · rwa [eH] at e1
   · rwa [eH,←Nat.add_assoc] at e2
end
structure az where
 name:List UInt8
 version:Nat
 source:List UInt8
 aO:List UInt8
 uses:List (List UInt8)
 built:Bool
 code:List UInt8
 used:List (List UInt8×List UInt8)
def az.le (u:az):Prop:=u.name.length≤maxLen∧u.source.length≤maxLen∧u.aO.length≤maxLen
def dN (D:Nat→Prop) (w:World) (v:Value) (u:az):Prop:=
 ∃a c d,v=.agg #[str u.name,.int .i64 (u.version:Int),str u.source,str u.aO,a,.bool u.built,c,d]∧u.le∧SS D w a u.uses∧CV D w c (aH u.code)∧ck D w d u.used
abbrev xG:Value:=.agg #[str [],.int .i64 0,str [],str [],.slice none 0 0,.bool false,.slice none 0 0,.slice none 0 0]
def az.zero:az:=⟨[],0,[],[],[],false,[],[]⟩
theorem dN.zero (D:Nat→Prop) (w:World):dN D w xG .zero:=⟨_,_,_,rfl,⟨Nat.zero_le _,Nat.zero_le _,Nat.zero_le _⟩,SS.nil _ _ _ _,CV.nil _ _ _ _,ck.nil _ _ _ _⟩
theorem dN.agree {D:Nat→Prop} {w w':World} {v:Value} {u:az} (h:dN D w v u) (hk:∀b,D b→b<w.heap.size→w'.heap[b]? =w.heap[b]?):dN D w' v u:=by
 obtain⟨a,c,d,h1,h2,h3,h4,h5⟩:=h
 exact⟨a,c,d,h1,h2,h3.agree hk,h4.agree hk,h5.agree hk⟩
theorem dN.mono {D D':Nat→Prop} {w:World} {v:Value} {u:az} (h:dN D w v u) (hD:∀b,D b→D' b):dN D' w v u:=by
 obtain⟨a,c,d,h1,h2,h3,h4,h5⟩:=h
 exact⟨a,c,d,h1,h2,h3.mono hD,h4.mono hD,h5.mono hD⟩
theorem xN (w:World):(zeroValue 41).run Tryz.prog w=.ok xG w:=by kernel_rfl
def Fr (R:Nat→Prop) (w:World) (b:Nat):Prop:=(∃x,w.heap[b]? =some x∧qK x)∧R b
theorem Fr.keep {R:Nat→Prop} {w w':World} {b:Nat} (h:Fr R w b) (hb:w'.heap[b]? =w.heap[b]?):Fr R w' b:=by
 obtain⟨⟨x,h1,h2⟩,h3⟩:=h
 exact⟨⟨x,hb.trans h1,h2⟩,h3⟩
theorem Fr.mono {R R':Nat→Prop} {w:World} {b:Nat} (h:Fr R w b) (hR:R b→R' b):Fr R' w b:=⟨h.1,hR h.2⟩
def dI (w w':World):Prop:=∀(b:Nat) (x:Obj),w.heap[b]? =some x→qK x→w'.heap[b]? =some x
theorem dI.fr {R:Nat→Prop} {w w':World} (h:dI w w') {b:Nat} (hb:Fr R w b):w'.heap[b]? =w.heap[b]? :=by
 obtain⟨⟨x,h1,h2⟩,_⟩:=hb
 rw[h1]
 exact h b x h1 h2
theorem dN.ey {R:Nat→Prop} {w w':World} {v:Value} {u:az} (h:dN (Fr R w) w v u) (hk:dI w w'):dN (Fr R w') w' v u:=(h.agree λ_b hb _=>hk.fr hb).mono λ_b hb=>hb.keep (hk.fr hb)
theorem SS.ey {R:Nat→Prop} {w w':World} {v:Value} {l:List (List UInt8)} (h:SS (Fr R w) w v l) (hk:dI w w'):SS (Fr R w') w' v l:=(h.agree λ_b hb _=>hk.fr hb).mono λ_b hb=>hb.keep (hk.fr hb)
theorem dI.Au {B:Nat} {w w':World} (h:KS B w w'):dI w w':=λb x h1 h2=>h.keep b x h1 (.inl h2)
theorem dI.ai {K:Nat} {w w':World} (h:Below K w w') (hK:w.heap.size≤K):dI w w':=λb x h1 _=>(h.block b (by have:=aj h1;omega)).trans h1
theorem dI.turned {w w':World} {m:Nat} (h:w.mapTurned w' m):dI w w':=by
 obtain⟨es,clock,es',clock',hb,rfl⟩:=h
 intro b x h1 ⟨cs,t,fl,e,_⟩
 subst e
 refine(Go.ChangeMaps.heap_setBlock_other hb _ λe=>?_).trans h1
 subst e
 rw[hb] at h1
 cases h1
structure bh where
 units:List (List UInt8×az)
 last:List (List UInt8×Nat)
def bh.new:bh:=⟨[],[]⟩
def cB (R:Nat→Prop) (w:World) (m:Nat) (us:List (List UInt8×az)):Prop:=
 ∃L:List (List UInt8×(az×Value)),L.map (λx=>(x.1,x.2.1))=us∧aQ w m (L.map λx=>(x.1,x.2.2))∧∀x∈L,dN (Fr R w) w x.2.2 x.2.1
def CP (w:World) (m:Nat) (l:List (List UInt8×Nat)):Prop:=aQ w m (l.map λx=>(x.1,.int .i64 (x.2:Int)))
structure gA (R:Nat→Prop) (w:World) (mu ml:Nat) (L:bh):Prop where
 units:cB R w mu L.units
 last:CP w ml L.last
 ne:mu≠ml
 le:L.units.length≤1000∧L.last.length≤100000
theorem cB.ey {R:Nat→Prop} {w w':World} {m:Nat} {us:List (List UInt8×az)} (h:cB R w m us) (hk:dI w w') (hm:w'.heap[m]? =w.heap[m]?):cB R w' m us:=by
 obtain⟨L,h1,h2,h3⟩:=h
 exact⟨L,h1,h2.of_block hm,λx hx=>(h3 x hx).ey hk⟩
theorem cB.map {R:Nat→Prop} {w:World} {m:Nat} {us:List (List UInt8×az)} (h:cB R w m us):∃es c,w.heap[m]? =some (.map es c):=by
 obtain⟨L,_,⟨_,D,⟨es,c,h,_⟩,_⟩,_⟩:=h
 exact⟨es,c,h⟩
theorem aQ.map {w:World} {m:Nat} {l:List (List UInt8×Value)} (h:aQ w m l):∃es c,w.heap[m]? =some (.map es c):=by
 obtain⟨_,D,⟨es,c,h,_⟩,_⟩:=h
 exact⟨es,c,h⟩
theorem gA.KS {R:Nat→Prop} {B:Nat} {w w':World} {mu ml:Nat} {L:bh} (h:gA R w mu ml L) (hk:KS B w w'):gA R w' mu ml L:=by
 obtain⟨es,c,h1⟩:=h.units.map
 obtain⟨Tv,c2,h2⟩:=aQ.map h.last
 exact⟨h.units.ey (dI.Au hk) ((hk.keep mu _ h1 (.inr ⟨_,_,rfl⟩)).trans h1.symm),h.last.of_block ((hk.keep ml _ h2 (.inr ⟨_,_,rfl⟩)).trans h2.symm),h.ne,h.le⟩
theorem cB.mono {R R':Nat→Prop} {w:World} {m:Nat} {us:List (List UInt8×az)} (h:cB R w m us) (hR:∀b,R b→R' b):cB R' w m us:=by
 obtain⟨L,h1,h2,h3⟩:=h
 exact⟨L,h1,h2,λx hx=>(h3 x hx).mono λb hb=>hb.mono (hR b)⟩
theorem gA.mono {R R':Nat→Prop} {w:World} {mu ml:Nat} {L:bh} (h:gA R w mu ml L) (hR:∀b,R b→R' b):gA R' w mu ml L:=⟨h.units.mono hR,h.last,h.ne,h.le⟩
end Go.Proofs.YtemjidmkolfgnaaGreatDoor
