/-
  Lemmas: two rows that the call makes and appends to in turn, all of new memory. Conditions: bounds of lengths; the variable strings.asciiSpace.
-/
import Derived.Test.YtakgjcfkdemipaaGreatDoorZB32
import Derived.Test.YtakgjcfkdemipaaGreatDoorZBn
import Derived.Test.YtakgjcfkdemipaaGreatDoorZT3
namespace Go.Proofs.YtakgjcfkdemipaaGreatDoor
open Go Go.RowKit
def vgu (T U:TypeId):Prop:=(Tryz.prog.info? T).map (λi=>(i.zero,i.size,i.bytes))=some (some (.agg #[.string ⟨#[]⟩,.bool false,.slice none 0 0,.string ⟨#[]⟩,.slice none 0 0]),5,88)∧Tryz.prog.underlying U=some (.slice T)
theorem vf3:vgu 50 31:=⟨by kernel_rfl,by kernel_rfl⟩
theorem vd9:vgu 79 23:=⟨by kernel_rfl,by kernel_rfl⟩
def vbx (T:TypeId) (D:Nat→Prop) (B:Nat) (w:World) (v:Value) (l:List aL):Prop:=∃cs,w.ownsRow B T 5 v l.length cs∧bl D w cs l
theorem vbx.below {T:TypeId} {D:Nat→Prop} {B K:Nat} {w w':World} {v:Value} {l:List aL} (h:vbx T D B w v l) (hb:Below K w w') (hK:w.heap.size≤K):vbx T D B w' v l:=by
 obtain⟨cs,h1,h2⟩:=h
 exact⟨cs,ay h1 hb hK,h2.below hb hK⟩
theorem vg2 {T:TypeId} {D:Nat→Prop} {B n:Nat} (w:World) (hB:B≤w.heap.size) {l:List aL} {cs:List Value} (hn:l.length=n) (hm:n≤maxLen) (hc:bl D w cs l):vbx T D B (w.alloc (.cells cs.toArray T)) (.slice (some ⟨w.heap.size,0,none⟩) n n) l:=by
 subst hn
 have hb:=(zb w).alloc zr (.cells cs.toArray T)
 exact⟨cs,⟨hc.length,.inr ⟨w.heap.size,l.length,cs.toArray,rfl,hB,heap_alloc_new w _,nl _,hm,by simpa using hc.length,by rw[←hc.length];simp⟩⟩,hc.below hb zr⟩
def vay (W W':World):Prop:=∀(b:Nat) (cs:Array Value) (fl:Nat×Nat),W.heap[b]? =some (.cells cs 9 fl)→W'.heap[b]? =some (.cells cs 9 fl)
theorem vay.refl (W:World):vay W W:=λ_ _ _ h=>h
theorem vay.trans {a b c:World} (h:vay a b) (h':vay b c):vay a c:=λx cs fl e=>h' x cs fl (h x cs fl e)
theorem vay.ey {a b:World} (h:Below a.heap.size a b):vay a b:=λx _ _ e=>(h.block x (Array.getElem?_eq_some_iff.1 e).1).trans e
theorem vay.set {a b:World} (h:vay a b) {p:Addr} {cs:Array Value} {t:TypeId} {fl:Nat×Nat} (hp:b.heap[p.block]? =some (.cells cs t fl)) (ht:t≠9) (u:Value):vay a (b.setCell p u):=λx ds vmc e=>by
 have e2:=h x ds vmc e
 rw[heap_setCell_other b p x u λe3=>?_]
 · exact e2
 · subst e3
   rw[hp] at e2;injection e2 with e2;injection e2 with _ e4 _;exact ht e4
theorem vay.putObj {W:World} {l:Nat} {o:Obj} (h:W.heap[l]? =some o) (ho:o.isCells=false) (o':Obj):vay W (W.putObj l o'):=λb cs fl e=>by
 refine(World.putObj_heap_other λe2=>?_).trans e
 subst e2
 rw[h] at e
 cases e
 cases ho
def vc5 (W W':World):Prop:=∀(b:Nat) (x:Obj),W.heap[b]? =some x→x.isCells=false→W'.heap[b]? =some x
theorem vc5.trans {a b c:World} (h:vc5 a b) (h':vc5 b c):vc5 a c:=λx o e ho=>h' x o (h x o e ho) ho
theorem vc5.ey {a b:World} (h:Below a.heap.size a b):vc5 a b:=λx _ e _=>(h.block x (Array.getElem?_eq_some_iff.1 e).1).trans e
theorem vc5.set {a b:World} (h:vc5 a b) {p:Addr} {cs:Array Value} {t:TypeId} {fl:Nat×Nat} (hp:b.heap[p.block]? =some (.cells cs t fl)) (u:Value):vc5 a (b.setCell p u):=λx o e ho=>by
 have e2:=h x o e ho
 rw[heap_setCell_other b p x u λe3=>?_]
 · exact e2
 · subst e3
   rw[hp] at e2;cases e2;cases ho
structure vbw (W W':World):Prop where
 s:vay W W'
 n:vc5 W W'
 z:W.heap.size≤W'.heap.size
theorem vbw.trans {a b c:World} (h:vbw a b) (h':vbw b c):vbw a c:=⟨h.s.trans h'.s,h.n.trans h'.n,Nat.le_trans h.z h'.z⟩
theorem vbw.ey {a b:World} (h:Below a.heap.size a b):vbw a b:=⟨vay.ey h,vc5.ey h,h.size⟩
theorem vbw.set {a b:World} (h:vbw a b) {p:Addr} {cs:Array Value} {t:TypeId} {fl:Nat×Nat} (hp:b.heap[p.block]? =some (.cells cs t fl)) (ht:t≠9) (u:Value):vbw a (b.setCell p u):=⟨h.s.set hp ht u,h.n.set hp u,by have:=h.z;simp[World.setCell];omega⟩
theorem vbw.from {a b:World} (h:vbw a b) (B:Nat):KeepsFrom B a b:=⟨h.z,λk o _ e ho=>h.n k o e ho⟩
def vke (B:Nat) (v u:Value) (b:Nat):Prop:=B≤b∧v.ownBlock≠some b∧u.ownBlock≠some b
def va5 (T T':TypeId) (B:Nat) (w:World) (v u:Value) (L M:List aL):Prop:=∃cs ds,w.ownsRow B T 5 v L.length cs∧w.ownsRow B T' 5 u M.length ds∧bl (vke B v u) w cs L∧bl (vke B v u) w ds M
theorem va5.swap {T T':TypeId} {B:Nat} {w:World} {v u:Value} {L M:List aL} (h:va5 T T' B w v u L M):va5 T' T B w u v M L:=by
 obtain⟨cs,ds,h1,h2,h3,h4⟩:=h
 exact⟨ds,cs,h2,h1,h4.mono λb hb=>⟨hb.1,hb.2.2,hb.2.1⟩,h3.mono λb hb=>⟨hb.1,hb.2.2,hb.2.1⟩⟩
theorem va5.nil (T T':TypeId) (B:Nat) (w:World):va5 T T' B w (.slice none 0 0) (.slice none 0 0) [] []:=⟨[],[],World.ownsRow_nil _ _ _ _,World.ownsRow_nil _ _ _ _,rfl,rfl⟩
theorem va5.below {T T':TypeId} {B K:Nat} {w w':World} {v u:Value} {L M:List aL} (h:va5 T T' B w v u L M) (hb:Below K w w') (hK:w.heap.size≤K):va5 T T' B w' v u L M:=by
 obtain⟨cs,ds,h1,h2,h3,h4⟩:=h
 exact⟨cs,ds,ay h1 hb hK,ay h2 hb hK,h3.below hb hK,h4.below hb hK⟩
theorem va5.set {T T':TypeId} {B:Nat} {w:World} {v u:Value} {L M:List aL} (h:va5 T T' B w v u L M) {a:Addr} (ha:a.block<B) (x:Value):va5 T T' B (w.setCell a x) v u L M:=by
 obtain⟨cs,ds,h1,h2,h3,h4⟩:=h
 have k:∀b,B≤b→(w.setCell a x).heap[b]? =w.heap[b]? :=λb hb=>heap_setCell_other w a b x λe=>by omega
 exact⟨cs,ds,cB h1 λb hb=>k b (h1.lt b hb).1,cB h2 λb hb=>k b (h2.lt b hb).1,h3.agree λb hb _=>k b hb.1,h4.agree λb hb _=>k b hb.1⟩
theorem va5.shape {T T':TypeId} {B:Nat} {w:World} {v u:Value} {L M:List aL} (h:va5 T T' B w v u L M):∃p c q d,v=.slice p L.length c∧u=.slice q M.length d:=by
 obtain⟨cs,ds,h1,h2,_⟩:=h
 obtain⟨p,c,e⟩:=bu h1
 obtain⟨q,d,e'⟩:=bu h2
 exact⟨p,c,q,d,e,e'⟩
theorem va5.x9 {T T':TypeId} {B:Nat} {w:World} {v u:Value} {L M:List aL} (h:va5 T T' B w v u L M):aY (λb=>B≤b) w v L∧aY (λb=>B≤b) w u M:=by
 obtain⟨cs,ds,h1,h2,h3,h4⟩:=h
 exact⟨aY.bH h1 (λb hb=>(h1.lt b hb).1) (h3.mono λb hb=>hb.1),aY.bH h2 (λb hb=>(h2.lt b hb).1) (h4.mono λb hb=>hb.1)⟩
theorem va5.apart {T T':TypeId} {B:Nat} {w:World} {v u:Value} {L M:List aL} (h:va5 T T' B w v u L M) (hB:B≤w.heap.size) {b:Nat} (hb:w.heap.size≤b):vke B v u b:=by
 obtain⟨cs,ds,h1,h2,_⟩:=h
 exact⟨Nat.le_trans hB hb,λe=>by have:=(h1.lt b e).2;omega,λe=>by have:=(h2.lt b e).2;omega⟩
theorem vag {T T' U:TypeId} (hT:vgu T U) (hne:T≠T') {o:Oper} {a:Act} {w:World} {K:Act→World→Prop} {Q:Exit→Act→World→Prop} (s x:Operand)
 (ho:o.op=.call {callee:=.builtin .append,args:= #[s,x],argTypes:= #[U,U] }) {B B':Nat} {D:Nat→Prop} {v u y:Value} {L M k:List aL}
 (hs:a.eval s=v) (hx:a.eval x=y) (hv:va5 T T' B w v u L M) (hy:vbx T D B' w y k) (hk:0<k.length) (hD:∀b,D b→vke B v u b) (hm:L.length+k.length≤1000) (hB:B≤w.heap.size) (Pp:T≠9)
 (h:∀v' w',va5 T T' B w' v' u (L++k) M→Below B w w'→vay w w'→vc5 w w'→K (a.put o.dst v') w'):Oper.wp Tryz.prog o a w K Q:=by
 obtain⟨i0,gw,hz0,hz1,hz2⟩:=bY hT.1
 obtain⟨cs,es,hcs,Px,hC,hE⟩:=hv
 obtain⟨ds,hy1,hy2⟩:=hy
 rcases hy1.2 with⟨_,h0⟩|⟨g,cap,cur,rfl,_⟩
 · omega
 · have hmx:L.length+k.length≤maxLen:=by unfold maxLen;omega
   obtain⟨v',w',hr,h2,h3,h4⟩:=fR (P:=Tryz.prog) w B U o.type T i0 _ 5 88 hT.2 gw hz0 hz1 hz2 rfl (by decide) v L.length cs hcs ⟨g,0,none⟩ k.length cap ds hy1.1 (λj u hj=>hy1.cells (g:=g) rfl j u hj) hy2.one_cell hk hmx (by omega) hB;unfold Oper.wp execOp;simp only[ho,resolve,invoke,builtin,Sem.run_bind,Sem.run_pure,Result.andThen_ok,List.map_toArray,List.map_cons,List.map_nil,hs,hx,hr];have hS:vay w w':=λb ds fl e=>by
    refine(h3.block b (Array.getElem?_eq_some_iff.1 e).1 λe2=>?_).trans e;rcases hcs.2 with⟨rfl,_⟩|⟨g,cap,cur,rfl,_,hg,_⟩
    · cases e2
    · simp only[Value.ownBlock,Option.some.injEq] at e2
      subst e2;rw[hg] at e;injection e with e;injection e with _ e4 _;exact Pp e4
   have hN:vc5 w w':=λb x e hx=>by
    refine(h3.block b (Array.getElem?_eq_some_iff.1 e).1 λe2=>?_).trans e;rcases hcs.2 with⟨rfl,_⟩|⟨g,cap,cur,rfl,_,hg,_⟩
    · cases e2
    · simp only[Value.ownBlock,Option.some.injEq] at e2
      subst e2;rw[hg] at e;cases e;cases hx
   refine h v' w' ?_ (af ((zb w).grown h3 hB (λb e=>(hcs.lt b e).1)) zr) hS hN;have key:∀{l:List aL} {cs:List Value},bl (vke B v u) w cs l→bl (vke B v' u) w' cs l:=by
    intro l cs hc;refine(hc.fresh.agree (w':=w') λb hb hlt=>h3.block b hlt λe=>hb.1.2.1 e.symm).mono λb hb=>⟨hb.1.1,λe=>?_,hb.1.2.2⟩
    rcases h4 with ho|ho
    · exact hb.1.2.1 (by rw[←ho];exact e)
    · have h2:=hb.2
      rw[ho] at e;injection e with e;omega
   exact⟨cs++ds,es,by rw[List.length_append];exact h2,cB Px λb hb=>h3.block b (aK Px hb) λe=>vG hcs Px hne b e.symm hb,bl.append (key (hy2.mono hD)) (key hC),key hE⟩
theorem SS.vbl {D:Nat→Prop} {w:World} {v:Value} {ss:List (List UInt8)} (h:SS D w v ss):SS (λb=>D b∧∃x:Obj,w.heap[b]? =some x∧x.isCells=true) w v ss:=by
 obtain⟨p,c,h1,h2,h3,hl,h4⟩:=h
 refine⟨p,c,h1,h2,h3,hl,?_⟩
 by_cases he:ss=[]
 · exact .inl he
 · rcases h4 with h4|⟨b,o,e1,h5,h6,h7⟩
   · exact .inl h4
   · exact .inr ⟨b,o,e1,⟨h5,cells_of_cell (h7 0 (List.length_pos_iff.2 he))⟩,h6,h7⟩
theorem bl.vbl {D:Nat→Prop} {w:World}:∀{l:List aL} {cs:List Value},bl D w cs l→bl (λb=>D b∧∃x:Obj,w.heap[b]? =some x∧x.isCells=true) w cs l
 | [],_,h=>h
 | _::_,_,⟨a,s,r,h1,h0,h2,h3,h4⟩=>⟨a,s,r,h1,h0,h2.vbl,h3.vbl,bl.vbl h4⟩
theorem va5.grown {T T':TypeId} {B:Nat} {w w':World} {v u:Value} {L M:List aL} {row:Option Nat} (h:va5 T T' B w v u L M) (hg:w.grownBy w' row) (hr:∀r,row=some r→∃o:Obj,w.heap[r]? =some o∧o.isCells=false):va5 T T' B w' v u L M:=by
 obtain⟨cs,ds,h1,h2,h3,h4⟩:=h
 have hne:∀{b:Nat},(∃x:Obj,w.heap[b]? =some x∧x.isCells=true)→some b≠row:=λ⟨x,hx,hc⟩ e=>by
  obtain⟨o,ho,hn⟩:=hr _ e.symm;rw[hx] at ho;cases ho;rw[hc] at hn;cases hn
 have hrow:∀{T:TypeId} {v:Value} {n:Nat} {cs:List Value},w.ownsRow B T 5 v n cs→v.ownBlock=none∨v.ownBlock≠row:=λh=>by
  rcases h.2 with⟨rfl,_⟩|⟨g,cap,cur,rfl,_,FZ,_⟩
  · exact .inl rfl
  · exact .inr (hne ⟨_,FZ,rfl⟩)
 exact⟨cs,ds,h1.kept hg (hrow h1),h2.kept hg (hrow h2),(h3.vbl.agree λb hb hlt=>hg.block b hlt (hne hb.2)).mono λb hb=>hb.1,(h4.vbl.agree λb hb hlt=>hg.block b hlt (hne hb.2)).mono λb hb=>hb.1⟩
def va9 (w:World) (b:Nat) (a0 a1 a2 a3 a4:Value):World:=((((w.setCell ⟨b,0,none⟩ a0).setCell ⟨b,1,none⟩ a1).setCell ⟨b,2,none⟩ a2).setCell ⟨b,3,none⟩ a3).setCell ⟨b,4,none⟩ a4
theorem Below.va9 {B:Nat} {a w:World} (h:Below B a w) {b:Nat} (hb:B≤b) (a0 a1 a2 a3 a4:Value):Below B a (va9 w b a0 a1 a2 a3 a4):=
 ((((h.setCell (p:=⟨b,0,none⟩) hb _).setCell (p:=⟨b,1,none⟩) hb _).setCell (p:=⟨b,2,none⟩) hb _).setCell (p:=⟨b,3,none⟩) hb _).setCell (p:=⟨b,4,none⟩) hb _
theorem aY.va9 {D:Nat→Prop} {w:World} {v:Value} {l:List aL} (h:aY D w v l) {b:Nat} (hb:∀b',D b'→b'≠b) (a0 a1 a2 a3 a4:Value):aY D (va9 w b a0 a1 a2 a3 a4) v l:=
 ((((h.set (a:=⟨b,0,none⟩) hb _).set (a:=⟨b,1,none⟩) hb _).set (a:=⟨b,2,none⟩) hb _).set (a:=⟨b,3,none⟩) hb _).set (a:=⟨b,4,none⟩) hb _
theorem vf4 {w:World} {b:Nat} {a0 a1 a2 a3 a4:Value} {t:TypeId} (h:w.heap[b]? =some (.cells #[a0,a1,a2,a3,a4] t (0,0))) (u:Value):(w.setCell ⟨b,3,none⟩ u).heap[b]? =some (.cells #[a0,a1,a2,u,a4] t (0,0)):=heap_setCell_same w b 3 _ t u h
theorem vf5 {w:World} {b:Nat} {a0 a1 a2 a3 a4:Value} {t:TypeId} (h:w.heap[b]? =some (.cells #[a0,a1,a2,a3,a4] t (0,0))) (u:Value):(w.setCell ⟨b,4,none⟩ u).heap[b]? =some (.cells #[a0,a1,a2,a3,u] t (0,0)):=heap_setCell_same w b 4 _ t u h
theorem vf6 {D:Nat→Prop} {P:Program} {ops:Array Oper} {n:Nat} {V:List VS} {E:List (Nat×VS)} {a0:Act} {S:World→Prop} {Q:Exit→Act→World→Prop} {k:Nat} {o:Oper} (hg:o.guard=none) (hs:bM D P S ops n V E k o) (hn:ops.size≤n):
 vcm P .any ops Q (MB D S E a0) (FJ D V) a0 k o:=by
 intro a w hS hd ho next hnx
 obtain⟨s,h1,⟨h2,_⟩|⟨h2,ins,h3,h4⟩⟩:=hs
 · unfold cO at h2
   rw[hg] at h2;cases h2
 · refine h4 a w Q hS.1 (λp hp=>AD (h3 p hp) hS hd λs hs=>ho s λo ho' e=>?_) next λv w' hv hb=>hnx v w' (λs' hs'=>by rw[h1] at hs';cases hs';exact hv) hb
   obtain⟨j,hj,e'⟩:=List.getElem_of_mem ho';exact hs j o (Nat.lt_of_lt_of_le (by simpa using hj) hn) (by rw[←Array.getElem?_toList,List.getElem?_eq_getElem hj,e']) e
def vev (P:Program) (ops:Array Oper) (h n:Nat):Bool:=
 P.follows .mixedOrders&&(sw .any ops&&(decide (ops.size=h+3)&&(vc7 .any ops h&&(vbp .any ops h h&&(vbp .any ops h (h+1)&&wL ops n)))))
structure vfn (P:Program) (ops:Array Oper) (a0:Act) (vmh os:Oper) (da vm8 O f:Nat):Prop where
 mid:∀a w,(∀s,Out ops s→a.eval (.tmp s)=a0.eval (.tmp s))→∀(Q:Exit→Act→World→Prop) (next:Act→World→Prop),next (a.put vmh.dst (.pointer (some ⟨O,f,none⟩))) w→vmh.wp P a w next Q
 vj3:∀a w p n c u,a.eval (.tmp da)=.slice p n c→a.eval (.tmp vm8)=.pointer (some ⟨O,f,none⟩)→w.cell? ⟨O,f,none⟩=some u→u.oneCell'=true→w.frozen? ⟨O,f,none⟩=false→∀(Q:Exit→Act→World→Prop) (next:Act→World→Prop),next (a.put os.dst undef) (w.setCell ⟨O,f,none⟩ (.slice p n c))→os.wp P a w next Q
theorem vbg {D : Nat → Prop} {P : Program} {ops : Array Oper} {a0 : Act} {Q : Exit → Act → World → Prop} {id : Nat} {w : World} {oa vmh os : Oper} {da vm8 O f : Nat} (h : Nat) (E : List (Nat × VS)) (V : List VS) (S : World → Prop) (vkd : Value → World → Prop) (vlv vlw : World → Prop)
 (hok:vev P ops h a0.tmps.size=true) (ha:ops[h]? =some oa) (hb:ops[h+1]? =some vmh) (hc:ops[h+2]? =some os) (hda:oa.dst=some da) (vgc:vmh.dst=some vm8) (hds:os.dst=none) (ht:vfn P ops a0 vmh os da vm8 O f)
 (eE:∀w w',S w→Below w.heap.size w w'→S w') (vg8:∀v w w',vkd v w→Below w.heap.size w w'→vkd v w') (nG:∀w w',vlv w→Below w.heap.size w w'→vlv w') (hS:S w.drew) (hE:ql D w.drew a0 E)
 (hst:lI D P S ops (h+3) V E 0 (ops.toList.take h))
 (vdf:∀a w,S w→(∀(j:Nat) (s:VS) (d:Nat),j<h→V[j]? =some s→(ops[j]?).bind (·.dst)=some d→s.holds D w (a.eval (.tmp d)))→∀next:Act→World→Prop,(∀v w',vkd v w'→vlv w'→next (a.put oa.dst v) w')→oa.wp P a w next Q)
 (hsh:∀v w,vkd v w→∃p n c,v=.slice p n c) (iu:∀w,vlv w→∃u,w.cell? ⟨O,f,none⟩=some u∧u.oneCell'=true∧w.frozen? ⟨O,f,none⟩=false)
 (vdg:∀v w,vkd v w→vlv w→vlw (w.setCell ⟨O,f,none⟩ v))
 (hend:∀a w,vlw w→Q .normal (dA a (ops.toList.take (h+2)) a0) w):
 (Code.region id ops true).wp P Q a0 w:=by
 unfold vev at hok
 simp only[Bool.and_eq_true,decide_eq_true_eq] at hok
 obtain⟨k1,k2,k3,k4,k5,k6,k7⟩:=hok
 have hgd:∀o∈ops.toList,o.guard=none:=by
  unfold wL at k7;simp only[Bool.and_eq_true,List.all_eq_true,decide_eq_true_eq] at k7;exact λo ho=>(k7.2 o ho).1
 have steps:∀(l:List Oper) (k:Nat),(∀o∈l,o.guard=none)→lI D P S ops (h+3) V E k l→vak P .any ops Q (MB D S E a0) (FJ D V) a0 k l:=by
  intro l
  induction l with
  | nil=>exact λ_ _ _=>trivial
  | cons o l ih=>exact λk hg hs=>⟨vf6 (hg o (by simp)) hs.1 (Nat.le_of_eq k3),ih (k+1) (λx hx=>hg x (by simp[hx])) hs.2⟩
 refine vd3 (S:=MB D S E a0) (A:=FJ D V) (vlv:=vlv) (vlw:=vlw) (vkd:=vkd) h k1 k2 k3 k4 k5 k6 k7 ha hb hc hda vgc (λj v w1 w2 h hb s hs=>(h s hs).below hb) (λw1 w2 h hb=>⟨eE _ _ h.1 hb,λp hp=>(h.2 p hp).below hb⟩) vg8 nG ⟨hS,hE.all⟩
  (steps _ 0 (λo ho=>hgd o (List.mem_of_mem_take ho)) hst) ?_ (λa w hout next hn=>ht.mid a w hout Q next hn) ?_ ?_
 · intro a w hS hA hout next hn
   refine vdf a w hS.1 (λj s d hj hs hd=>?_) next hn
   rw[Option.bind_eq_some_iff] at hd;obtain⟨oj,Sn,Sm⟩:=hd;exact hA j oj d hj Sn Sm s hs
 · intro a w hS hv hm hout next hn
   obtain⟨p,n,c,e⟩:=hsh _ _ hv;obtain⟨u,vgd,Oe,Of⟩:=iu w hS;have:=vdg _ _ hv hS;rw[e] at this;exact ht.vj3 a w p n c u e hm vgd Oe Of Q next (hn _ _ this)
 · intro a w hdf hsz hout hS
   have hp := wg hdf hsz hout;have hl : ops.toList = ops.toList.take (h + 2) ++ [os] := by
    have:ops.toList.length=h+3:=by simpa using k3
    apply List.ext_getElem?;intro j
    by_cases hj:j<h+2
    · rw[List.getElem?_append_left (by simp;omega),List.getElem?_take_of_lt hj]
    · rw[List.getElem?_append_right (by simp;omega),List.length_take,this]
      by_cases hj2:j=h+2
      · subst hj2
        rw[Array.getElem?_toList,hc];simp
      · rw[List.getElem?_eq_none (by omega),List.getElem?_eq_none (by simp;omega)]
   have e:∀(l:List Oper) (b:Act),dA a (l++[os]) b=dA a l b:=by
    intro l
    induction l with
    | nil=>intro b;show(b.put os.dst _)=b;rw[hds];rfl
    | cons o l ih=>intro b;exact ih _
   rw[hp,hl,e];exact hend a w hS
section
variable {D:Nat→Prop} {ops:Array Oper} {h:Nat} {V:List VS} {E:List (Nat×VS)} {S:World→Prop} {k:Nat} {o:Oper}
theorem vdl {T:TypeId} {x y:Operand} {n:List UInt8} {g:bP} (ho:o.op=.build T #[(0,x),(1,y)]) (hT:T=50∨T=79) (hw:cO ops h V o=some true) (hk:V[k]? =some (.op ⟨n,g⟩)) (hx:aJ ops h V E o x=some (.eq (str n))) (hy:aJ ops h V E o y=some (.sig g)) (hn:n.length≤maxLen):bM D Tryz.prog S ops h V E k o:=
 oI [(x,.eq (str n)),(y,.sig g)] hw hk (by simp[hx,hy]) λa w Q hS hi next hnx=>by
  have h1:a.eval x=str n:=hi (x,.eq (str n)) (by simp);obtain⟨u1,u2,vm9,vjn,vgd,Oe⟩:=hi (y,.sig g) (by simp);dsimp only at vm9;have hrun:∀ev:Operand→Value,ev x=str n→ev y=.agg #[.bool g.iter,u1,str g.res,u2]→(execOp ev o).run Tryz.prog w=.ok (.value (.agg #[str n,.bool g.iter,u1,str g.res,u2])) w:=λev h1 h2=>by
   unfold execOp;obtain⟨p,c,rfl,_⟩:=vgd.shape;obtain⟨q,d,rfl,_⟩:=Oe.shape;rcases hT with rfl|rfl<;>simp[ho,h1,h2,go_sem]
  unfold Oper.wp;rw[hrun _ h1 vm9];exact hnx _ _ ⟨u1,u2,rfl,⟨hn,vjn⟩,vgd,Oe⟩ (zb _)
theorem vdm {T U:TypeId} {x:Operand} {y:aL} {B:Nat} (ho:o.op=.buildSlice U 1 #[(0,x)]) (hT:(T=50∧U=31)∨(T=79∧U=23)) (hw:cO ops h V o=some true) (hk:V[k]? =some (.prop λw v=>vbx T D B w v [y])) (hx:aJ ops h V E o x=some (.op y)) (hB:∀w,S w→B≤w.heap.size):bM D Tryz.prog S ops h V E k o:=
 oI [(x,.op y)] hw hk (by simp[hx]) λa w Q hS hi next hnx=>by
  obtain⟨u1,u2,vm9,Cd,vgd,Oe⟩:=hi (x,.op y) (by simp);dsimp only at vm9;have hrun:∀ev:Operand→Value,ev x=.agg #[str y.name,.bool y.sig.iter,u1,str y.sig.res,u2]→(execOp ev o).run Tryz.prog w=.ok (.value (.slice (some ⟨w.heap.size,0,none⟩) 1 1)) (w.alloc (.cells #[str y.name,.bool y.sig.iter,u1,str y.sig.res,u2] T)):=λev h1=>by
   unfold execOp;obtain⟨p,c,rfl,_⟩:=vgd.shape;obtain⟨q,d,rfl,_⟩:=Oe.shape;rcases hT with⟨rfl,rfl⟩|⟨rfl,rfl⟩<;>simp[ho,h1,go_sem]
  unfold Oper.wp;rw[hrun _ vm9];exact hnx _ _ (λw' hb=>(vg2 (D:=D) (l:=[y]) (cs:=[str y.name,.bool y.sig.iter,u1,str y.sig.res,u2]) w (hB w hS) (n:=1) rfl (by unfold maxLen;omega) ⟨_,_,_,rfl,Cd,vgd,Oe,rfl⟩).below hb zr) ((zb w).alloc zr _)
end
def vhn (ops:Array Oper):Bool:=ops.toList.all λo=>match o.op with|.defer _=>false|_=>true
theorem vho {ops:Array Oper} (h:vhn ops=true) {i:Nat} {o:Oper} (ho:ops[i]? =some o) (c:Call):o.op≠ .defer c:=by
 unfold vhn at h
 rw[List.all_eq_true] at h
 have:=h o (List.mem_of_getElem? (by rw[Array.getElem?_toList];exact ho))
 intro e
 rw[e] at this
 cases this
theorem veq {P:Program} {Q:Exit→Act→World→Prop} {l n:Nat} {o:Oper} (hnd:∀c,o.op≠ .defer c) {a:Act} {w:World} {K:Act→World→Prop} (h:o.wp P a w K Q):o.wpIn (Fence.wide.inRound l) n P a w K Q:=by
 refine⟨λ_ _=>trivial,?_⟩
 rw[show(Fence.wide.inRound l).round=some l from rfl,Oper.semAt_some l a.eval o hnd]
 unfold Oper.wp at h
 generalize (execOp a.eval o).run P w=r at *
 cases r with
 | ok x w'=>
  cases x<;>simp only[Oper.upon,Oper.uponIn] at h ⊢ <;>
   first
    | exact h
    | exact⟨(λe=>by cases e),CallsIn.inRound l (callsIn_wide.2 h)⟩
    | exact⟨(λe=>by cases e),λc cs _=>let ⟨v,w',r,s⟩:=h c cs;⟨v,w',r,stepsIn_wide.2 s⟩⟩
    | exact h.elim
 | halt x w'=>cases x<;>simp only[Oper.upon,Oper.uponIn] at h ⊢ <;>exact h
theorem veb {P:Program} {md:Region.Mode} {ops:Array Oper} {Q:Exit→Act→World→Prop} {l n:Nat} (hnd:vhn ops=true) (hno:¬LetsOut Q):∀(fuel:Nat) (listed:Array Bool) (a:Act) (w:World),wpAny P md ops Q fuel listed a w→wpAnyIn (Fence.wide.inRound l) n P md ops Q fuel listed a w:=by
 intro fuel
 induction fuel with
 | zero=>exact λlisted a w h=>h
 | succ fuel ih=>
  intro listed a w h;refine⟨h.1,λi hi=>?_⟩;have h2:=h.2 i hi;unfold wpOp at h2;unfold wpOpIn;rcases ho:ops[i]? with _|o
  · simp only[ho] at h2 ⊢
    exact ih _ _ _ h2
  · simp only[ho] at h2 ⊢
    split
    · rename_i hw
      rw[if_pos hw] at h2;rcases h2 with h2|h2
      · exact veq (vho hnd ho) (Oper.wp_mono (λa w=>ih _ _ _) h2)
      · exact(hno h2.2).elim
    · rename_i hw
      rw[if_neg hw] at h2;exact⟨λ_ _=>trivial,ih _ _ _ h2⟩
section
variable {P:Program} {md:Region.Mode} {ops:Array Oper} {Q:Exit→Act→World→Prop} {S vlv vlw:World→Prop} {A:Nat→Value→World→Prop} {a0:Act} {vkd:Value→World→Prop} {v1:Value}
theorem vd2 {l n id:Nat} {w:World} {oa vmh os:Oper} {da vm8:Nat} (h:Nat) (hnd:vhn ops=true) (hno:¬LetsOut Q) (hm:P.follows .mixedOrders=true) (hf:sw .any ops=true) (hsz:ops.size=h+3) (he:vc7 .any ops h=true) (hl0:vbp .any ops h h=true) (hl1:vbp .any ops h (h+1)=true) (hd:wL ops a0.tmps.size=true) (ha:ops[h]? =some oa) (hb:ops[h+1]? =some vmh) (hc:ops[h+2]? =some os) (hda:oa.dst=some da) (vgc:vmh.dst=some vm8)
 (hA:∀j v w w',A j v w→Below w.heap.size w w'→A j v w') (eE:∀w w',S w→Below w.heap.size w w'→S w') (vg8:∀v w w',vkd v w→Below w.heap.size w w'→vkd v w') (nG:∀w w',vlv w→Below w.heap.size w w'→vlv w') (hS:S w.drew)
 (hstep:vak P .any ops Q S A a0 0 (ops.toList.take h))
 (vdf:∀a w,S w→(∀j oj d,j<h→ops[j]? =some oj→oj.dst=some d→A j (a.eval (.tmp d)) w)→(∀s,Out ops s→a.eval (.tmp s)=a0.eval (.tmp s))→∀next:Act→World→Prop,(∀v w',vkd v w'→vlv w'→next (a.put oa.dst v) w')→oa.wp P a w next Q)
 (hmid:∀a w,(∀s,Out ops s→a.eval (.tmp s)=a0.eval (.tmp s))→∀next:Act→World→Prop,next (a.put vmh.dst v1) w→vmh.wp P a w next Q)
 (vdg:∀a w,vlv w→vkd (a.eval (.tmp da)) w→a.eval (.tmp vm8)=v1→(∀s,Out ops s→a.eval (.tmp s)=a0.eval (.tmp s))→∀next:Act→World→Prop,(∀v w',vlw w'→next (a.put os.dst v) w')→os.wp P a w next Q)
 (hend:∀a w,a.defers=a0.defers→a.tmps.size=a0.tmps.size→(∀s,Out ops s→a.tmps.getD s undef=a0.tmps.getD s undef)→vlw w→Q .normal a w):
 (Code.region id ops true).wpIn (Fence.wide.inRound l) n P Q a0 w:=by
 have hF:∀i,i<ops.size→(Array.replicate ops.size false).getD i true=false:=λi hi=>by simp[Array.getD_eq_getD_getElem?,hi]
 refine wpIn_region_any hm (veb hnd hno _ _ _ _ (vde (v1:=v1) hf hsz he hl0 hl1 hd hA eE vg8 nG (vd0 hstep) (λo ho=>?_) (λo ho=>?_) (λo vmg d o1 d1 ho vhk hdd jW vfu=>?_) ⟨oa,da,vmh,vm8,ha,hda,hb,vgc⟩ hend ops.size _ a0 _ ?_ (λj o e hj hl=>?_) (.head ⟨by simp,rfl,rfl,λ_ _=>rfl,hS,λj o d hj sD hl=>?_⟩ (hF h (by omega)) (hF (h+2) (by omega)))))
 · rw[ha] at ho;cases ho;exact vdf
 · rw[hb] at ho;cases ho;exact hmid
 · rw[hc] at ho;cases ho
   rw[ha] at vhk;cases vhk;rw[hb] at jW;cases jW;rw[hda] at hdd;cases hdd;rw[vgc] at vfu;cases vfu;exact vdg
 · simp
 · exfalso
   have hj2:=(Array.getElem?_eq_some_iff.1 hj).1;simp[Array.getD_eq_getD_getElem?,hj2] at hl
 · exfalso
   have hj2:=(Array.getElem?_eq_some_iff.1 hj).1;simp[Array.getD_eq_getD_getElem?,hj2] at hl
end
theorem vbd {D : Nat → Prop} {P : Program} {ops : Array Oper} {a0 : Act} {Q : Exit → Act → World → Prop} {l n id : Nat} {w : World} {oa vmh os : Oper} {da vm8 O f : Nat} (h : Nat) (E : List (Nat × VS)) (V : List VS) (S : World → Prop) (vkd : Value → World → Prop) (vlv vlw : World → Prop)
 (hnd:vhn ops=true) (hno:¬LetsOut Q) (hok:vev P ops h a0.tmps.size=true) (ha:ops[h]? =some oa) (hb:ops[h+1]? =some vmh) (hc:ops[h+2]? =some os) (hda:oa.dst=some da) (vgc:vmh.dst=some vm8) (hds:os.dst=none) (ht:vfn P ops a0 vmh os da vm8 O f)
 (eE:∀w w',S w→Below w.heap.size w w'→S w') (vg8:∀v w w',vkd v w→Below w.heap.size w w'→vkd v w') (nG:∀w w',vlv w→Below w.heap.size w w'→vlv w') (hS:S w.drew) (hE:ql D w.drew a0 E)
 (hst:lI D P S ops (h+3) V E 0 (ops.toList.take h))
 (vdf:∀a w,S w→(∀(j:Nat) (s:VS) (d:Nat),j<h→V[j]? =some s→(ops[j]?).bind (·.dst)=some d→s.holds D w (a.eval (.tmp d)))→∀next:Act→World→Prop,(∀v w',vkd v w'→vlv w'→next (a.put oa.dst v) w')→oa.wp P a w next Q)
 (hsh:∀v w,vkd v w→∃p n c,v=.slice p n c) (iu:∀w,vlv w→∃u,w.cell? ⟨O,f,none⟩=some u∧u.oneCell'=true∧w.frozen? ⟨O,f,none⟩=false)
 (vdg:∀v w,vkd v w→vlv w→vlw (w.setCell ⟨O,f,none⟩ v))
 (hend:∀a w,vlw w→Q .normal (dA a (ops.toList.take (h+2)) a0) w):
 (Code.region id ops true).wpIn (Fence.wide.inRound l) n P Q a0 w:=by
 unfold vev at hok
 simp only[Bool.and_eq_true,decide_eq_true_eq] at hok
 obtain⟨k1,k2,k3,k4,k5,k6,k7⟩:=hok
 have hgd:∀o∈ops.toList,o.guard=none:=by
  unfold wL at k7;simp only[Bool.and_eq_true,List.all_eq_true,decide_eq_true_eq] at k7;exact λo ho=>(k7.2 o ho).1
 have steps:∀(l:List Oper) (k:Nat),(∀o∈l,o.guard=none)→lI D P S ops (h+3) V E k l→vak P .any ops Q (MB D S E a0) (FJ D V) a0 k l:=by
  intro l
  induction l with
  | nil=>exact λ_ _ _=>trivial
  | cons o l ih=>exact λk hg hs=>⟨vf6 (hg o (by simp)) hs.1 (Nat.le_of_eq k3),ih (k+1) (λx hx=>hg x (by simp[hx])) hs.2⟩
 refine vd2 (S:=MB D S E a0) (A:=FJ D V) (vlv:=vlv) (vlw:=vlw) (vkd:=vkd) h hnd hno k1 k2 k3 k4 k5 k6 k7 ha hb hc hda vgc (λj v w1 w2 h hb s hs=>(h s hs).below hb) (λw1 w2 h hb=>⟨eE _ _ h.1 hb,λp hp=>(h.2 p hp).below hb⟩) vg8 nG ⟨hS,hE.all⟩
  (steps _ 0 (λo ho=>hgd o (List.mem_of_mem_take ho)) hst) ?_ (λa w hout next hn=>ht.mid a w hout Q next hn) ?_ ?_
 · intro a w hS hA hout next hn
   refine vdf a w hS.1 (λj s d hj hs hd=>?_) next hn
   rw[Option.bind_eq_some_iff] at hd;obtain⟨oj,Sn,Sm⟩:=hd;exact hA j oj d hj Sn Sm s hs
 · intro a w hS hv hm hout next hn
   obtain⟨p,n,c,e⟩:=hsh _ _ hv;obtain⟨u,vgd,Oe,Of⟩:=iu w hS;have:=vdg _ _ hv hS;rw[e] at this;exact ht.vj3 a w p n c u e hm vgd Oe Of Q next (hn _ _ this)
 · intro a w hdf hsz hout hS
   have hp := wg hdf hsz hout;have hl : ops.toList = ops.toList.take (h + 2) ++ [os] := by
    have:ops.toList.length=h+3:=by simpa using k3
    apply List.ext_getElem?;intro j
    by_cases hj:j<h+2
    · rw[List.getElem?_append_left (by simp;omega),List.getElem?_take_of_lt hj]
    · rw[List.getElem?_append_right (by simp;omega),List.length_take,this]
      by_cases hj2:j=h+2
      · subst hj2
        rw[Array.getElem?_toList,hc];simp
      · rw[List.getElem?_eq_none (by omega),List.getElem?_eq_none (by simp;omega)]
   have e:∀(l:List Oper) (b:Act),dA a (l++[os]) b=dA a l b:=by
    intro l
    induction l with
    | nil=>intro b;show(b.put os.dst _)=b;rw[hds];rfl
    | cons o l ih=>intro b;exact ih _
   rw[hp,hl,e];exact hend a w hS
theorem vf2 {D:Nat→Prop} {w:World} {b:Nat}:∀(l:List aL) (o:Nat),(∀x∈l,qm x)→(∀j (_:j<l.length),∃a s,SS D w a l[j].sig.args∧SS D w s l[j].sig.sigs∧
 w.cell? ⟨b,o+j * 5,none⟩=some (str l[j].name)∧w.cell? ⟨b,o+j * 5+1,none⟩=some (.bool l[j].sig.iter)∧w.cell? ⟨b,o+j * 5+2,none⟩=some a∧w.cell? ⟨b,o+j * 5+3,none⟩=some (str l[j].sig.res)∧w.cell? ⟨b,o+j * 5+4,none⟩=some s)→
 ∃ds,bl D w ds l∧∀j u,ds[j]? =some u→w.cell? ⟨b,o+j,none⟩=some u
 | [],o,_,_=>⟨[],rfl,by simp⟩
 | x::l,o,hle,h=>by
  obtain⟨a,s,h1,h2,c0,c1,c2,c3,c4⟩:=h 0 (by simp);obtain⟨ds,k1,k2⟩:=vf2 l (o+5) (λy hy=>hle y (List.mem_cons_of_mem _ hy)) λj hj=>by
   have:=h (j+1) (by simpa using hj);rw[show o+(j+1) * 5=o+5+j * 5 by omega] at this
   simpa using this
  refine⟨str x.name::.bool x.sig.iter::a::str x.sig.res::s::ds,⟨a,s,ds,rfl,hle x (List.mem_cons_self ..),h1,h2,k1⟩,λj u hu=>?_⟩
  match j with
  | 0=>simp at hu;subst hu;simpa using c0
  | 1=>simp at hu;subst hu;simpa using c1
  | 2=>simp at hu;subst hu;simpa using c2
  | 3=>simp at hu;subst hu;simpa using c3
  | 4=>simp at hu;subst hu;simpa using c4
  | j+5=>
   have:=k2 j u (by simpa using hu)
   rwa [show o+5+j=o+(j+5) by omega] at this
theorem aY.cells {D:Nat→Prop} {w:World} {p:Option Addr} {n c:Nat} {l:List aL} (h:aY D w (.slice p n c) l) (hne:l≠[]):∃b o ds,p=some ⟨b,o,none⟩∧D b∧bl D w ds l∧∀j u,ds[j]? =some u→w.cell? ⟨b,o+j,none⟩=some u:=by
 obtain⟨p',c',e,_,_,h3,h4⟩:=h
 simp only[Value.slice.injEq] at e
 obtain⟨rfl,_,_⟩:=e
 rcases h4 with h4|⟨b,o,e,h5,_,h6⟩
 · exact absurd h4 hne
 · obtain⟨ds,k1,k2⟩:=vf2 l o h3 h6
   exact⟨b,o,ds,e,h5,k1,k2⟩
