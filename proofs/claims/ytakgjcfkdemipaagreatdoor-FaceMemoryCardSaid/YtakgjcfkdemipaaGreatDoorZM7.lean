/-
  Lemmas: contracts of the reference argusref04: types, op, put, at. Conditions: bounds of lengths; the variable strings.asciiSpace.
-/
import Derived.Test.YtakgjcfkdemipaaGreatDoorZB32
import Derived.Test.YtakgjcfkdemipaaGreatDoorZBn
import Derived.Test.YtakgjcfkdemipaaGreatDoorZM4
import Derived.Test.YtakgjcfkdemipaaGreatDoorZM6
set_option maxHeartbeats 25600000
set_option maxRecDepth 8000
namespace Go.Proofs.YtakgjcfkdemipaaGreatDoor
section
open Go Go.RowKit
def vgm (T U:TypeId):Prop:=(Tryz.prog.info? T).map (λi=>(i.zero,i.size,i.bytes))=some (some (.agg #[.string ⟨#[]⟩,.bool false,.slice none 0 0,.string ⟨#[]⟩,.slice none 0 0]),5,88)∧Tryz.prog.underlying U=some (.slice T)
theorem vg0:vgm 50 31:=⟨by kernel_rfl,by kernel_rfl⟩
theorem ved:vgm 79 23:=⟨by kernel_rfl,by kernel_rfl⟩
theorem FC.below {T:TypeId} {B K:Nat} {w w':World} {v:Value} {l:List aL} (h:FC T B w v l) (hb:Below K w w') (hK:w.heap.size≤K):FC T B w' v l:=by
 obtain⟨cs,h1,h2⟩:=h
 exact⟨cs,ay h1 hb hK,h2.below hb hK⟩
theorem FC.shape {T:TypeId} {B:Nat} {w:World} {v:Value} {l:List aL} (h:FC T B w v l):∃p c,v=.slice p l.length c:=by
 obtain⟨cs,h1,_⟩:=h
 exact bu h1
theorem FC.x9 {T:TypeId} {B:Nat} {w:World} {v:Value} {l:List aL} (h:FC T B w v l):aY (λb=>B≤b) w v l:=by
 obtain⟨cs,h1,h2⟩:=h
 exact aY.bH h1 (λb hb=>(h1.lt b hb).1) (h2.mono λb hb=>hb.1)
theorem FC.set {T:TypeId} {B:Nat} {w:World} {v:Value} {l:List aL} (h:FC T B w v l) {a:Addr} (ha:a.block<B) (u:Value):FC T B (w.setCell a u) v l:=by
 obtain⟨cs,h1,h2⟩:=h
 refine⟨cs,cB h1 λb hb=>heap_setCell_other w a b u λe=>?_,h2.agree λb hb _=>heap_setCell_other w a b u λe=>?_⟩
 · have:=(h1.lt b hb).1;omega
 · have:=hb.1;omega
theorem FC.append {T:TypeId} {B:Nat} {W W':World} {v v':Value} {l k:List aL} {ds cs:List Value} (hC:bl (λb=>B≤b∧v.ownBlock≠some b) W cs l) (hk:bl (λb=>B≤b∧v.ownBlock≠some b) W ds k) (h':W'.ownsRow B T 5 v' (l.length+k.length) (cs++ds)) (hg:W.grownBy W' v.ownBlock) (ho:v'.ownBlock=v.ownBlock∨v'.ownBlock=some W.heap.size):FC T B W' v' (l++k):=by
 refine⟨cs++ds,by rw[List.length_append];exact h',?_⟩
 have key:∀{l:List aL} {cs:List Value},bl (λb=>B≤b∧v.ownBlock≠some b) W cs l→bl (λb=>B≤b∧v'.ownBlock≠some b) W' cs l:=by
  intro l cs hc;refine(hc.fresh.agree (w':=W') λb hb hlt=>hg.block b hlt λe=>hb.1.2 e.symm).mono λb hb=>⟨hb.1.1,λe=>?_⟩
  rcases ho with ho|ho
  · exact hb.1.2 (by rw[←ho];exact e)
  · have h2:=hb.2
    rw[ho] at e;injection e with e;omega
 exact bl.append (key hk) (key hC)
def vbr (T:TypeId) (D:Nat→Prop) (B:Nat) (w:World) (v:Value) (l:List aL):Prop:=∃cs,w.ownsRow B T 5 v l.length cs∧bl D w cs l
theorem vbr.below {T:TypeId} {D:Nat→Prop} {B K:Nat} {w w':World} {v:Value} {l:List aL} (h:vbr T D B w v l) (hb:Below K w w') (hK:w.heap.size≤K):vbr T D B w' v l:=by
 obtain⟨cs,h1,h2⟩:=h
 exact⟨cs,ay h1 hb hK,h2.below hb hK⟩
theorem vf9 {T:TypeId} {D:Nat→Prop} {B n:Nat} (w:World) (hB:B≤w.heap.size) {l:List aL} {cs:List Value} (hn:l.length=n) (hm:n≤maxLen) (hc:bl D w cs l):vbr T D B (w.alloc (.cells cs.toArray T)) (.slice (some ⟨w.heap.size,0,none⟩) n n) l:=by
 subst hn
 have hb:=(zb w).alloc zr (.cells cs.toArray T)
 exact⟨cs,⟨hc.length,.inr ⟨w.heap.size,l.length,cs.toArray,rfl,hB,heap_alloc_new w _,nl _,hm,by simpa using hc.length,by rw[←hc.length];simp⟩⟩,hc.below hb zr⟩
theorem vau {T U:TypeId} (hT:vgm T U) {o:Oper} {a:Act} {w:World} {K:Act→World→Prop} {Q:Exit→Act→World→Prop} (s x:Operand)
 (ho:o.op=.call {callee:=.builtin .append,args:= #[s,x],argTypes:= #[U,U] }) {B B':Nat} {D:Nat→Prop} {v y:Value} {L k:List aL}
 (hs:a.eval s=v) (hx:a.eval x=y) (hv:FC T B w v L) (hy:vbr T D B' w y k) (hk:0<k.length) (hD:∀b,D b→B≤b∧v.ownBlock≠some b) (hm:L.length+k.length≤1000) (hB:B≤w.heap.size)
 (h:∀v' w',FC T B w' v' (L++k)→Below B w w'→K (a.put o.dst v') w'):Oper.wp Tryz.prog o a w K Q:=by
 obtain⟨i0,gw,hz0,hz1,hz2⟩:=bY hT.1
 obtain⟨cs,hcs,hC⟩:=hv
 obtain⟨ds,hy1,hy2⟩:=hy
 rcases hy1.2 with⟨_,h0⟩|⟨g,cap,cur,rfl,_⟩
 · omega
 · have hmx:L.length+k.length≤maxLen:=by unfold maxLen;omega
   obtain⟨v',w',hr,h2,h3,h4⟩:=fR (P:=Tryz.prog) w B U o.type T i0 _ 5 88 hT.2 gw hz0 hz1 hz2 rfl (by decide) v L.length cs hcs ⟨g,0,none⟩ k.length cap ds hy1.1 (λj u hj=>hy1.cells (g:=g) rfl j u hj) hy2.one_cell hk hmx (by omega) hB;unfold Oper.wp execOp;simp only[ho,resolve,invoke,builtin,Sem.run_bind,Sem.run_pure,Result.andThen_ok,List.map_toArray,List.map_cons,List.map_nil,hs,hx,hr];refine h v' w' ?_ (af ((zb w).grown h3 hB (λb e=>(hcs.lt b e).1)) zr);exact FC.append hC (hy2.mono hD) h2 h3 h4
theorem vdq {D:Nat→Prop} {w:World} {b:Nat}:∀(l:List aL) (o:Nat),(∀x∈l,qm x)→(∀j (_:j<l.length),∃a s,SS D w a l[j].sig.args∧SS D w s l[j].sig.sigs∧
 w.cell? ⟨b,o+j * 5,none⟩=some (str l[j].name)∧w.cell? ⟨b,o+j * 5+1,none⟩=some (.bool l[j].sig.iter)∧w.cell? ⟨b,o+j * 5+2,none⟩=some a∧w.cell? ⟨b,o+j * 5+3,none⟩=some (str l[j].sig.res)∧w.cell? ⟨b,o+j * 5+4,none⟩=some s)→
 ∃ds,bl D w ds l∧∀j u,ds[j]? =some u→w.cell? ⟨b,o+j,none⟩=some u
 | [],o,_,_=>⟨[],rfl,by simp⟩
 | x::l,o,hle,h=>by
  obtain⟨a,s,h1,h2,c0,c1,c2,c3,c4⟩:=h 0 (by simp);obtain⟨ds,k1,k2⟩:=vdq l (o+5) (λy hy=>hle y (List.mem_cons_of_mem _ hy)) λj hj=>by
   have:=h (j+1) (by simpa using hj);rw[show o+(j+1) * 5=o+5+j * 5 by omega] at this
   simpa using this
  refine⟨str x.name::.bool x.sig.iter::a::str x.sig.res::s::ds,⟨a,s,ds,rfl,hle x (List.mem_cons_self ..),h1,h2,k1⟩,λj u hu=>?_⟩
  match j with
  | 0=>simp at hu;subst hu;simpa using c0
  | 1=>simp at hu;subst hu;simpa using c1
  | 2=>simp at hu;subst hu;simpa using c2
  | 3=>simp at hu;subst hu;simpa using c3
  | 4=>simp at hu;subst hu;simpa using c4
  | j+5=>
   have:=k2 j u (by simpa using hu)
   rwa [show o+5+j=o+(j+5) by omega] at this
theorem aY.cells {D:Nat→Prop} {w:World} {p:Option Addr} {n c:Nat} {l:List aL} (h:aY D w (.slice p n c) l) (hne:l≠[]):∃b o ds,p=some ⟨b,o,none⟩∧D b∧bl D w ds l∧∀j u,ds[j]? =some u→w.cell? ⟨b,o+j,none⟩=some u:=by
 obtain⟨p',c',e,_,_,h3,h4⟩:=h
 simp only[Value.slice.injEq] at e
 obtain⟨rfl,_,_⟩:=e
 rcases h4 with h4|⟨b,o,e,h5,_,h6⟩
 · exact absurd h4 hne
 · obtain⟨ds,k1,k2⟩:=vdq l o h3 h6
   exact⟨b,o,ds,e,h5,k1,k2⟩
theorem jF.x9 {X:Nat→Prop} {B:Nat} {w:World} {v:Value} {l:List aL} (h:jF X B w v l) {D:Nat→Prop} (h1:∀b,B≤b→D b) (h2:∀b,¬X b→D b):aY D w v l:=by
 obtain⟨cs,k1,k2⟩:=h
 exact aY.bH k1 (λb hb=>h1 b (k1.lt b hb).1) (k2.mono λb hb=>h2 b hb.2)
theorem vbi {X D:Nat→Prop} (w:World) (base:Nat) (ty:TypeId) (v:Value) (A:List aL) (hown:jF X base w v A) (y:Value) (L:List aL) (hy:aY D w y L) (hD:∀b,D b→v.ownBlock≠some b∧¬X b) (hm:A.length+L.length≤100000) (hb:base≤w.heap.size):
 ∃v' w',(Builtin.append_ #[31,31] ty #[v,y]).run Tryz.prog w=.ok v' w'∧jF X base w' v' (A++L)∧w.grownBy w' v.ownBlock∧(v'.ownBlock=v.ownBlock∨v'.ownBlock=some w.heap.size):=by
 obtain⟨i0,gw,hz0,hz1,hz2⟩:=bY oy
 obtain⟨cs,hcs,hC⟩:=hown
 obtain⟨p,c,rfl,_⟩:=hy.shape
 by_cases h0:L=[]
 · subst h0
   refine⟨v,w,p7 base _ ty 50 i0 5 ja gw v _ _ hcs p c,?_,World.grownBy.refl _ _,.inl rfl⟩;rw[List.append_nil];exact⟨cs,hcs,hC⟩
 · have hp:0<L.length:=List.length_pos_iff.2 h0
   obtain⟨b,o,ds,rfl,_,hd,hcell⟩:=hy.cells h0;obtain⟨v',w',h1,h2,h3,h5⟩:=fR (P:=Tryz.prog) w base 31 ty 50 i0 _ 5 88 ja gw hz0 hz1 hz2 rfl (by decide) v A.length cs hcs ⟨b,o,none⟩ L.length c ds hd.length (λj u hu=>by
    rw[Go.WideShapes.add_plain];exact hcell j u hu) hd.one_cell hp (by unfold maxLen;omega) (by omega) hb
   exact⟨v',w',h1,jF.append hC (hd.mono hD) h2 h3 h5,h3,h5⟩
theorem va1 {X D:Nat→Prop} {ops:Array Oper} {rest:List Oper} {o:Oper} {a:Act} {Q:Exit→Act→World→Prop} (w:World) (hgd:o.guard=none) (s x:Operand)
 (ho:o.op=.call {callee:=.builtin .append,args:= #[s,x],argTypes:= #[31,31] }) (base:Nat) (v:Value) (A:List aL) (hs:a.eval s=v) (hown:jF X base w v A)
 (y:Value) (L:List aL) (hx:a.eval x=y) (hy:aY D w y L) (hD:∀b,D b→v.ownBlock≠some b∧¬X b) (hm:A.length+L.length≤100000) (hb:base≤w.heap.size)
 (h:∀v' w',jF X base w' v' (A++L)→w.grownBy w' v.ownBlock→(v'.ownBlock=v.ownBlock∨v'.ownBlock=some w.heap.size)→wpList Tryz.prog ops Q rest (a.put o.dst v') w'):
 wpList Tryz.prog ops Q (o::rest) a w:=by
 refine wpList_plain hgd λK hK=>?_
 obtain⟨v',w',hr,h2,h3,h4⟩:=vbi w base o.type v A hown y L hy hD hm hb
 unfold Oper.wp execOp
 simp only[ho,resolve,invoke,builtin,Sem.run_bind,Sem.run_pure,Result.andThen_ok,List.map_toArray,List.map_cons,List.map_nil,hs,hx,hr]
 exact hK _ _ (h v' w' h2 h3 h4)
theorem aY.take {D:Nat→Prop} {w:World} {p:Option Addr} {n c:Nat} {l:List aL} (h:aY D w (.slice p n c) l) {k:Nat} (hk:k≤l.length) (c':Nat) (KF:k≤c'):aY D w (.slice p k c') (l.take k):=by
 have hlen:(l.take k).length=k:=by rw[List.length_take];omega
 obtain⟨p',c2,e,h1,h2,h3,h4⟩:=h
 simp only[Value.slice.injEq] at e
 obtain⟨rfl,_,_⟩:=e
 refine⟨p,c',by rw[hlen],by omega,by omega,λx hx=>h3 x (List.mem_of_mem_take hx),?_⟩
 rcases h4 with rfl|⟨b,o,e,h5,h6,h7⟩
 · exact .inl (by simp)
 · exact .inr ⟨b,o,e,h5,h6,λj hj=>by
    have:=h7 j (by omega)
    simpa using this⟩
theorem aY.drop {D:Nat→Prop} {w:World} {b o n c:Nat} {l:List aL} (h:aY D w (.slice (some ⟨b,o,none⟩) n c) l) {k m:Nat} (hk:k≤l.length) (hm:m=l.length - k) (c':Nat) (KF:m≤c'):aY D w (.slice (some ⟨b,o+k * 5,none⟩) m c') (l.drop k):=by
 obtain⟨p',c2,e,h1,h2,h3,h4⟩:=h
 simp only[Value.slice.injEq] at e
 obtain⟨rfl,_,_⟩:=e
 have hlen:(l.drop k).length=m:=by rw[List.length_drop];omega
 refine⟨_,c',by rw[hlen],by omega,by omega,λx hx=>h3 x (List.mem_of_mem_drop hx),?_⟩
 rcases h4 with rfl|⟨b',o',e,h5,h6,h7⟩
 · exact .inl (by simp)
 · simp only[Option.some.injEq,Addr.mk.injEq,and_true] at e
   obtain⟨rfl,rfl⟩:=e;exact .inr ⟨b,_,rfl,h5,h6,λj hj=>by
    have:=h7 (k+j) (by omega);rw[show o+(k+j) * 5=o+k * 5+j * 5 by omega] at this
    simpa using this⟩
end
section
open Go.RowKit
theorem vch {D D':Nat→Prop} (n r:List UInt8) (L G:List (List UInt8)) (va vqg:Value) (w:World) (ha:SS D w va L) (hg:SS D' w vqg G) (hn:n.length≤maxLen) (hr:r.length≤maxLen):
 Calls Tryz.prog 133 #[str n,va,str r,vqg] w λe w'=>∃u,e=.returned u∧gx (λb=>D b∨D' b) w' u ⟨n,⟨false,L,r,G⟩⟩∧Below w.heap.size w w':=by
 have hE:=λW (hW:Below w.heap.size w W)=>ha.below hW zr
 have hF:=λW (hW:Below w.heap.size w W)=>hg.below hW zr
 obtain⟨p1,c1,rfl,_⟩:=ha.shape
 obtain⟨p2,c2,rfl,_⟩:=hg.shape
 have hB:=(zb w).alloc zr (.cells #[str n,.bool false,.slice p1 L.length c1,str r,.slice p2 G.length c2] 50)
 have hE:=(hE _ hB).mono (D':=λb=>D b∨D' b) λ_ h=>.inl h
 have hF:=(hF _ hB).mono (D':=λb=>D b∨D' b) λ_ h=>.inr h
 clear ha hg
 go_enter Tryz.func133,Tryz.ntmps133
 go_wp2_with fail
 refine bodyPost_ret (v:=.agg #[str n,.bool false,.slice p1 L.length c1,str r,.slice p2 G.length c2]) (by simp[results,Tryz.results133,go_sem]) rfl ?_
 exact⟨_,rfl,⟨_,_,rfl,⟨hn,hr⟩,hE,hF⟩,hB⟩
theorem vee {D D':Nat→Prop} (l:List aL) (x:aL) (b o c:Nat) (u:Value) (w:World) (hv:aY D w (.slice (some ⟨b,o,none⟩) l.length c) l) (hu:gx D' w u x) (hl:l.length≤1000) (hc:l.length≤c):
 Calls Tryz.prog 132 #[.slice (some ⟨b,o,none⟩) l.length c,u] w λe w'=>∃v',e=.returned v'∧aY (λb=>D b∨D' b∨w.heap.size≤b) w' v' (qX x l)∧Below w.heap.size w w':=by
 have vks:=hv.fresh
 obtain⟨av,sv,rfl,⟨F8,mI⟩,fe,eE⟩:=hu
 have fe:=fe.fresh
 have eE:=eE.fresh
 obtain⟨pa,ca,rfl,_⟩:=fe.shape
 obtain⟨ps,cs,rfl,_⟩:=eE.shape
 obtain⟨bT,hA⟩:=(λo=>And.intro (heap_alloc_new w o) ((zb w).alloc zr o)) (.cells #[str x.name,.bool x.sig.iter,.slice pa x.sig.args.length ca,str x.sig.res,.slice ps x.sig.sigs.length cs] 50)
 have HX:=zh (λW (hW:Below w.heap.size w W)=>bl.below (D:=λb=>D' b∧b<w.heap.size) hW zr (l:=[x]) ⟨_,_,[],rfl,⟨F8,mI⟩,fe,eE,rfl⟩)
 have hle:=vco x l
 have vh8:=λy i (h:l[i]? =some y) hi=>vbo (x:=x) h hi
 have vl4:=vdn x l
 generalize vao x l=N at *
 obtain⟨T1,e1⟩:∃T1,T1=l.take N:=⟨_,rfl⟩
 obtain⟨T2,e2⟩:∃T2,T2=l.drop N:=⟨_,rfl⟩
 obtain⟨vpm,e3⟩:∃vpm,vpm=T1++[x]:=⟨_,rfl⟩
 have hl1:T1.length≤1000:=by rw[e1,List.length_take];omega
 have hl2:T2.length≤1000:=by rw[e2,List.length_drop];omega
 have PC:vpm.length≤1001:=by rw[e3,List.length_append];simpa using hl1
 have LI:=zh (show qX x l=vpm++T2 by rw[vl4,e3,e1,e2];simp)
 have E3:=zh e3
 have vos:=zh e2
 have vkz:=zh (λW (hW:Below w.heap.size w W)=>e1▸(vks.below hW zr).take hle c (by omega))
 have vlx:=zh (λW (hW:Below w.heap.size w W)=>e2▸(vks.below hW zr).drop hle rfl (c - N) (by omega))
 clear e1 e2 e3 vl4
 generalize qX x l=R at *
 clear fe eE vks
 go_enter Tryz.func132,Tryz.ntmps132
 go_wp2_with fail
 go_loopw [5] (λa wr=>∃i:Nat,i≤N∧a=.int .i64 i∧Below w.heap.size w wr∧wr.heap[w.heap.size]? =some (.cells #[str x.name,.bool x.sig.iter,.slice pa x.sig.args.length ca,str x.sig.res,.slice ps x.sig.sigs.length cs] 50 (0,0))) (λa _=>l.length - (intOf a).toNat)
 case atStart=>exact⟨0,Nat.zero_le _,rfl,hA,bT⟩
 case round =>
  clear hA bT;obtain⟨i,hi,rfl,hb,iu⟩:=hrel;have bx:=(bz iu).1;have SC:=bA iu;have fin:∀v6 w6,jF (λb=>¬(D b∨D' b∨w.heap.size≤b)) (w.heap.size+1) w6 v6 (vpm++T2)→aY (λb=>D b∨D' b∨w.heap.size≤b) w6 v6 R:=λv6 w6 h=>by
   rw[LI.out];exact h.x9 (λb hb=>.inr (.inr (by omega))) (λb hb=>Classical.not_not.1 hb)
  by_cases hlt:i<l.length
  case neg=>
   obtain rfl:i=l.length:=by omega
   obtain rfl:N=l.length:=by omega
   have ve1:=vkz.out _ hb.drew;obtain rfl:T2=[]:=by rw[vos.out];simp
   clear vh8;go_upto_region 2 with fail
   go_region
   go_wp2_with (first
    | (at_builtin;refine va1 _ rfl _ _ rfl (w.heap.size+1) (.slice none 0 0) [] rfl (jF.nil (λb=>¬(D b∨D' b∨w.heap.size≤b)) _ _) (.slice (some ⟨b,o,none⟩) l.length c) T1 rfl ve1 (λb hb=>⟨λe=>(by cases e),λh=>h (.inl hb.1)⟩) (by simp;omega) (by show w.heap.size+1≤wr.heap.size;omega) ?_;intro v4 w4 h4 hg4 vlf;rw[List.nil_append] at h4;have hb4:=(hb.drew).grown hg4 hb.size (λk e=>by cases e);have j7:=eO hg4 iu (by simp[Value.ownBlock]);have O0:=bz j7;have vhq:=h4.below ((zb w4).alloc zr (.cells #[str x.name,.bool x.sig.iter,.slice pa x.sig.args.length ca,str x.sig.res,.slice ps x.sig.sigs.length cs] 50)) zr;have hs4:=bA j7;have vjb:=aY.new (D:=λb=>(D' b∧b<w.heap.size)∨b=w4.heap.size) w4 (.inr rfl) (l:=[x]) 50 (0,0) (by unfold maxLen;simp) ((HX.out _ hb4).mono λ_ h=>.inl h);have eT:=hb4.alloc hb4.size (.cells #[str x.name,.bool x.sig.iter,.slice pa x.sig.args.length ca,str x.sig.res,.slice ps x.sig.sigs.length cs] 50);obtain⟨p4,c4,rfl⟩:=h4.shape)
    | (at_builtin;refine va1 _ rfl _ _ rfl (w.heap.size+1) (.slice p4 T1.length c4) T1 rfl vhq (.slice (some ⟨w4.heap.size,0,none⟩) 1 1) [x] rfl vjb (λb hb=>⟨λe=>by have:=h4.own.lt e;rcases hb with hb|hb<;>omega,λh=>h (hb.elim (λh=>.inr (.inl h.1)) (λh=>.inr (.inr (by omega))))⟩) (by simp;omega) (by simp;omega) ?_;intro v6 w6 h6 pT vlg;rw[←E3.out] at h6;have jJ:=eT.grown pT eT.size (λk e=>Nat.le_of_succ_le (h4.own.lt e).1);obtain⟨p6,c6,rfl⟩:=h6.shape;have G7:=pT.size;simp only[World.size_alloc] at G7)
    | (at_builtin;refine va1 _ rfl _ _ rfl (w.heap.size+1) (.slice p6 vpm.length c6) vpm rfl h6 _ [] rfl (aY.nil (λb=>D b∧b<w.heap.size) w6 _ _) (λb hb=>⟨λe=>by have:=h6.own.lt e;have:=hb.2;omega,λh=>h (.inl hb.1)⟩) (by omega) (by omega) ?_;intro vqe w7 h7 KL vlh;have sB:=jJ.grown KL jJ.size (λk e=>Nat.le_of_succ_le (h6.own.lt e).1)))
   all_goals
    go_ret;exact⟨_,rfl,fin _ _ h7,sB⟩
  case pos=>
   obtain⟨y,j8⟩:∃y,l[i]? =some y:=⟨_,List.getElem?_eq_getElem hlt⟩
   obtain⟨b1,o1,av,sv,e1,_,_,_,_,c0,_⟩:=(hv.below hb zr).at j8;simp only[Option.some.injEq,Addr.mk.injEq,and_true] at e1;obtain⟨rfl,rfl⟩:=e1;obtain⟨n1,n2⟩:=vh8 y i j8 hi;rcases hless:Op.bytesLess y.name x.name with _|_
   · obtain rfl:=n2 hless
     have ve1:=vkz.out _ hb.drew;have OT:=zh (λW (_:Below w.heap.size w W)=>show aY (λb=>D b∧b<w.heap.size) W (.slice (some ⟨b,o+N * 5,none⟩) (l.length - N) (c - N)) T2 from vlx.out W ‹_›);clear j8 n1 n2 vh8;go_upto_region 2 with fail
     go_region
     go_wp2_with (first
      | (at_builtin;refine va1 _ rfl _ _ rfl (w.heap.size+1) (.slice none 0 0) [] rfl (jF.nil (λb=>¬(D b∨D' b∨w.heap.size≤b)) _ _) (.slice (some ⟨b,o,none⟩) N c) T1 rfl ve1 (λb hb=>⟨λe=>(by cases e),λh=>h (.inl hb.1)⟩) (by simp;omega) (by show w.heap.size+1≤wr.heap.size;omega) ?_;intro v4 w4 h4 hg4 vlf;rw[List.nil_append] at h4;have hb4:=(hb.drew).grown hg4 hb.size (λk e=>by cases e);have j7:=eO hg4 iu (by simp[Value.ownBlock]);have O0:=bz j7;have vhq:=h4.below ((zb w4).alloc zr (.cells #[str x.name,.bool x.sig.iter,.slice pa x.sig.args.length ca,str x.sig.res,.slice ps x.sig.sigs.length cs] 50)) zr;have hs4:=bA j7;have vjb:=aY.new (D:=λb=>(D' b∧b<w.heap.size)∨b=w4.heap.size) w4 (.inr rfl) (l:=[x]) 50 (0,0) (by unfold maxLen;simp) ((HX.out _ hb4).mono λ_ h=>.inl h);have eT:=hb4.alloc hb4.size (.cells #[str x.name,.bool x.sig.iter,.slice pa x.sig.args.length ca,str x.sig.res,.slice ps x.sig.sigs.length cs] 50);obtain⟨p4,c4,rfl⟩:=h4.shape)
      | (at_builtin;refine va1 _ rfl _ _ rfl (w.heap.size+1) (.slice p4 T1.length c4) T1 rfl vhq (.slice (some ⟨w4.heap.size,0,none⟩) 1 1) [x] rfl vjb (λb hb=>⟨λe=>by have:=h4.own.lt e;rcases hb with hb|hb<;>omega,λh=>h (hb.elim (λh=>.inr (.inl h.1)) (λh=>.inr (.inr (by omega))))⟩) (by simp;omega) (by simp;omega) ?_;intro v6 w6 h6 pT vlg;rw[←E3.out] at h6;have jJ:=eT.grown pT eT.size (λk e=>Nat.le_of_succ_le (h4.own.lt e).1);obtain⟨p6,c6,rfl⟩:=h6.shape;have G7:=pT.size;simp only[World.size_alloc] at G7;have vgf:=OT.out w6 jJ)
      | (at_builtin;refine va1 _ rfl _ _ rfl (w.heap.size+1) (.slice p6 vpm.length c6) vpm rfl h6 _ T2 rfl vgf (λb hb=>⟨λe=>by have:=h6.own.lt e;have:=hb.2;omega,λh=>h (.inl hb.1)⟩) (by omega) (by omega) ?_;intro vqe w7 h7 KL vlh;have sB:=jJ.grown KL jJ.size (λk e=>Nat.le_of_succ_le (h6.own.lt e).1)))
     go_ret;exact⟨_,rfl,fin _ _ h7,sB⟩
   · have hi':=n1 hless
     clear j8 n1 n2 vh8;go_upto_region 2 with fail
     go_region
     go_wp2_with fail;exact⟨⟨i+1,hi',by go_num,hb.drew,iu⟩,by simp only[intOf];omega⟩
theorem vfa {D D':Nat→Prop} (x:aL) (p:Option Addr) (c:Nat) (u:Value) (w:World) (hu:gx D' w u x):
 Calls Tryz.prog 132 #[.slice p 0 c,u] w λe w'=>∃v',e=.returned v'∧aY (λb=>D b∨D' b∨w.heap.size≤b) w' v' [x]∧Below w.heap.size w w':=by
 obtain⟨av,sv,rfl,⟨F8,mI⟩,fe,eE⟩:=hu
 have fe:=fe.fresh
 have eE:=eE.fresh
 obtain⟨pa,ca,rfl,_⟩:=fe.shape
 obtain⟨ps,cs,rfl,_⟩:=eE.shape
 obtain⟨bT,hA⟩:=(λo=>And.intro (heap_alloc_new w o) ((zb w).alloc zr o)) (.cells #[str x.name,.bool x.sig.iter,.slice pa x.sig.args.length ca,str x.sig.res,.slice ps x.sig.sigs.length cs] 50)
 have HX:=zh (λW (hW:Below w.heap.size w W)=>bl.below (D:=λb=>D' b∧b<w.heap.size) hW zr (l:=[x]) ⟨_,_,[],rfl,⟨F8,mI⟩,fe,eE,rfl⟩)
 clear fe eE
 cases p
 all_goals
  go_enter Tryz.func132,Tryz.ntmps132;go_wp2_with fail;go_loopw [5] (λa wr=>a=.int .i64 0∧Below w.heap.size w wr∧wr.heap[w.heap.size]? =some (.cells #[str x.name,.bool x.sig.iter,.slice pa x.sig.args.length ca,str x.sig.res,.slice ps x.sig.sigs.length cs] 50 (0,0))) (λa _=>0)
  case atStart=>exact⟨rfl,hA,bT⟩
  case round=>
   clear hA bT;obtain⟨rfl,hb,iu⟩:=hrel;have bx:=(bz iu).1;have SC:=bA iu;go_upto_region 2 with fail
   go_region
   go_wp2_with (first
    | (at_builtin;refine va1 _ rfl _ _ rfl (w.heap.size+1) (.slice none 0 0) [] rfl (jF.nil (λb=>¬(D b∨D' b∨w.heap.size≤b)) _ _) _ [] rfl (aY.nil (λ_=>False) _ _ _) (λb hb=>hb.elim) (by simp) (by show w.heap.size+1≤wr.heap.size;omega) ?_;intro v4 w4 h4 hg4 vlf;have hb4:=(hb.drew).grown hg4 hb.size (λk e=>by cases e);have j7:=eO hg4 iu (by simp[Value.ownBlock]);have O0:=bz j7;have vhq:=h4.below ((zb w4).alloc zr (.cells #[str x.name,.bool x.sig.iter,.slice pa x.sig.args.length ca,str x.sig.res,.slice ps x.sig.sigs.length cs] 50)) zr;have hs4:=bA j7;have vjb:=aY.new (D:=λb=>(D' b∧b<w.heap.size)∨b=w4.heap.size) w4 (.inr rfl) (l:=[x]) 50 (0,0) (by unfold maxLen;simp) ((HX.out _ hb4).mono λ_ h=>.inl h);have eT:=hb4.alloc hb4.size (.cells #[str x.name,.bool x.sig.iter,.slice pa x.sig.args.length ca,str x.sig.res,.slice ps x.sig.sigs.length cs] 50);obtain⟨p4,c4,rfl⟩:=h4.shape)
    | (at_builtin;refine va1 _ rfl _ _ rfl (w.heap.size+1) (.slice p4 0 c4) [] rfl vhq (.slice (some ⟨w4.heap.size,0,none⟩) 1 1) [x] rfl vjb (λb hb=>⟨λe=>by have:=h4.own.lt e;rcases hb with hb|hb<;>omega,λh=>h (hb.elim (λh=>.inr (.inl h.1)) (λh=>.inr (.inr (by omega))))⟩) (by simp) (by simp;omega) ?_;intro v6 w6 h6 pT vlg;have jJ:=eT.grown pT eT.size (λk e=>Nat.le_of_succ_le (h4.own.lt e).1);obtain⟨p6,c6,rfl⟩:=h6.shape;have G7:=pT.size;simp only[World.size_alloc] at G7)
    | (at_builtin;refine va1 _ rfl _ _ rfl (w.heap.size+1) (.slice p6 1 c6) [x] rfl h6 _ [] rfl (aY.nil (λ_=>False) _ _ _) (λb hb=>hb.elim) (by simp) (by omega) ?_;intro vqe w7 h7 KL vlh;have sB:=jJ.grown KL jJ.size (λk e=>Nat.le_of_succ_le (h6.own.lt e).1)))
   all_goals
    go_ret;exact⟨_,rfl,h7.x9 (λb hb=>.inr (.inr (by omega))) (λb hb=>Classical.not_not.1 hb),sB⟩
theorem vat {D D':Nat→Prop} (l:List aL) (x:aL) (v u:Value) (w:World) (hv:aY D w v l) (hu:gx D' w u x) (hl:l.length≤1000):
 Calls Tryz.prog 132 #[v,u] w λe w'=>∃v',e=.returned v'∧aY (λb=>D b∨D' b∨w.heap.size≤b) w' v' (qX x l)∧Below w.heap.size w w':=by
 obtain⟨p,c,rfl,hc,_⟩:=hv.shape
 by_cases h0:l=[]
 · subst h0
   exact vfa x p c u w hu
 · obtain⟨b,o,_,rfl,_⟩:=hv.cells h0
   exact vee l x b o c u w hv hu hl hc
theorem ve5 {s:bP} {t:List UInt8} (h0:t≠[]) {i:Nat} {x:List UInt8} (hx:s.args[i]? =some x) (hp:∀y∈s.args.take i,(aV y t).2=0) (hn:(aV x t).2≠0):eF s t=(.zero,(aV x t).2):=by
 have h:=uG t s.args i x hx hp hn
 unfold eF
 rw[if_neg h0,h,if_pos hn]
theorem ve6 {s:bP} {t:List UInt8} (h0:t≠[]) (hp:∀y∈s.args,(aV y t).2=0) (hr:s.res=[]):eF s t=(⟨s.iter,s.args.map (λy=>(aV y t).1),[],s.sigs⟩,0):=by
 unfold eF
 rw[if_neg h0,yM t s.args hp,if_neg (by simp),if_pos hr]
theorem vf5 {s:bP} {t:List UInt8} (h0:t≠[]) (hp:∀y∈s.args,(aV y t).2=0) (hr:s.res≠[]) (hn:(aV s.res t).2≠0):eF s t=(.zero,(aV s.res t).2):=by
 unfold eF
 rw[if_neg h0,yM t s.args hp,if_neg (by simp),if_neg hr,if_pos hn]
theorem vf4 {s:bP} {t:List UInt8} (h0:t≠[]) (hp:∀y∈s.args,(aV y t).2=0) (hr:s.res≠[]) (hn:(aV s.res t).2=0):eF s t=(⟨s.iter,s.args.map (λy=>(aV y t).1),(aV s.res t).1,s.sigs⟩,0):=by
 unfold eF
 rw[if_neg h0,yM t s.args hp,if_neg (by simp),if_neg hr,if_neg (by simp[hn])]
theorem vb5 {D:Nat→Prop} (x:Value) (s:bP) (t:List UInt8) (w:World) (hx:aT D w x s) (h0:t≠[]) (ht:t.length≤maxLen) (hl:s.args.length≤100000):
 Calls Tryz.prog 135 #[x,str t] w λe w'=>∃v,e=.returned (.tuple #[v,.bool (decide ((eF s t).2=0))])∧aT (λb=>w.heap.size≤b∨D b∧b<w.heap.size) w' v (eF s t).1∧Below w.heap.size w w':=by
 obtain⟨i0,gw,hz0,hz1,hz2⟩:=bY iM
 have P1:=λi x hx hp hn=>ve5 (s:=s) h0 (i:=i) (x:=x) hx hp hn
 have P2:=λhp hr=>ve6 (s:=s) h0 hp hr
 have vpa:=λhp hr hn=>vf5 (s:=s) h0 hp hr hn
 have vpb:=λhp hr hn=>vf4 (s:=s) h0 hp hr hn
 obtain⟨av,sv,rfl,hr,ha,hs⟩:=hx
 have vmx:=ha.fresh
 have hal:=zh ha.le
 have HS:=zh (λW (hW:Below w.heap.size w W)=>hs.fresh.below hW zr)
 obtain⟨p1,c1,rfl,_⟩:=ha.shape
 obtain⟨p2,c2,rfl,_⟩:=hs.shape
 obtain⟨it,ar,re,sg⟩:=s
 dsimp only at *
 generalize eF ⟨it,ar,re,sg⟩ t=PK at *
 have vg3:=zh (And.intro P1 (And.intro P2 (And.intro vpa vpb)))
 clear P1 P2 vpa vpb ha hs h0
 have HW:=λ(y:List UInt8) (hy:y.length≤maxLen) W=>vek y t hy ht W
 have hA:=((zb w).alloc zr (.cells #[.bool it,.slice p1 ar.length c1,str re,.slice p2 sg.length c2] 36))
 have Kg:=hA.alloc (by simp) (.cells #[.bool false,.slice none 0 0,.string ⟨#[]⟩,.slice none 0 0] 36)
 have L3:=Kg.alloc (by simp;omega) (.cells #[.bool it,.slice none 0 0,.string ⟨#[]⟩,.slice p2 sg.length c2] 36)
 have hg1:=aD (.cells #[.bool it,.slice none 0 0,.string ⟨#[]⟩,.slice p2 sg.length c2] 36) (aD (.cells #[.bool false,.slice none 0 0,.string ⟨#[]⟩,.slice none 0 0] 36) (heap_alloc_new w (.cells #[.bool it,.slice p1 ar.length c1,str re,.slice p2 sg.length c2] 36)))
 have hg2:=aD (.cells #[.bool it,.slice none 0 0,.string ⟨#[]⟩,.slice p2 sg.length c2] 36) (cI (w:=w.alloc (.cells #[.bool it,.slice p1 ar.length c1,str re,.slice p2 sg.length c2] 36)) (n:=w.heap.size+1) (by simp) #[.bool false,.slice none 0 0,.string ⟨#[]⟩,.slice none 0 0] 36)
 have hg3:=cI (w:=(w.alloc (.cells #[.bool it,.slice p1 ar.length c1,str re,.slice p2 sg.length c2] 36)).alloc (.cells #[.bool false,.slice none 0 0,.string ⟨#[]⟩,.slice none 0 0] 36)) (n:=w.heap.size+1+1) (by simp) #[.bool it,.slice none 0 0,.string ⟨#[]⟩,.slice p2 sg.length c2] 36
 go_enter Tryz.func135,Tryz.ntmps135
 go_wp2_with fail
 go_loopw [7] (λa wx=>∃i:Nat,i≤ar.length∧a=.int .i64 i∧Below w.heap.size w wx∧Hid (∀y∈ar.take i,(aV y t).2=0)∧wx.heap[w.heap.size]? =some (.cells #[.bool it,.slice p1 ar.length c1,str re,.slice p2 sg.length c2] 36 (0,0))∧wx.heap[w.heap.size+1]? =some (.cells #[.bool false,.slice none 0 0,.string ⟨#[]⟩,.slice none 0 0] 36 (0,0))∧
  ∃q,wx.heap[w.heap.size+1+1]? =some (.cells #[.bool it,q,.string ⟨#[]⟩,.slice p2 sg.length c2] 36 (0,0))∧wx.ownsRow (w.heap.size+3) 9 1 q i (aB ((ar.take i).map λy=>(aV y t).1))) (λa _=>ar.length - (intOf a).toNat)
 case atStart=>exact⟨0,Nat.zero_le _,by go_num,L3,(λy hy=>by simp at hy),hg1,hg2,.slice none 0 0,hg3,World.ownsRow_nil _ _ _ _⟩
 case round =>
  clear hA Kg L3 hg1 hg2 hg3;obtain⟨i,hi,rfl,hb,hp,hg1,hg2,q,hg3,hown⟩:=hrel;obtain⟨pq,cq,rfl⟩:=bu hown;have b1:=(aN hg1).1;have b2:=(aN hg2);have b3:=(aN hg3)
  by_cases hlt:i<ar.length
  case pos=>
   obtain⟨y,j8⟩:∃y,ar[i]? =some y:=⟨_,List.getElem?_eq_getElem hlt⟩
   obtain⟨bb,vq4,rfl,_,pc⟩:=(vmx.below hb zr).at j8;have vhg:=HW y (hal.out y (List.mem_of_getElem? j8)) wr
   by_cases hz:(aV y t).2=0
   · have hT:=zh (show aB ((ar.take i).map λy=>(aV y t).1)++[str (aV y t).1]=aB ((ar.take (i+1)).map λy=>(aV y t).1) by rw[List.take_add_one,j8];simp[aB])
     have hp':Hid (∀y∈ar.take (i+1),(aV y t).2=0):=by
      intro z vln;rw[List.take_add_one,j8] at vln;rcases List.mem_append.1 vln with h|h
      · exact hp.out z h
      · simp at h;rw[h];exact hz
     rw[hz] at vhg;clear j8 hz hp;go_wp2_with (first
      | (go_at_call 35;refine vhg.mono ?_;clear vhg;rintro e w1 ⟨rfl,au⟩;have bL:=hb.trans (af au hb.size);have hg1:=ah hg1 au;have hg2:=ah hg2 au;have hg3:=ah hg3 au;have b3:=aN hg3;have vas:=ay hown au zr;have vj7:=aD (.cells #[str (aV y t).1] 9) hg3;have vnn:=aN vj7;have vkh:=aD (.cells #[str (aV y t).1] 9) hg1;have vki:=aD (.cells #[str (aV y t).1] 9) hg2;have hs1:=bA hg3)
      | (at_builtin;refine bq _ rfl _ _ 34 rfl (w.heap.size+3) 9 i0 _ 1 16 eV gw hz0 hz1 hz2 rfl (by decide) (.slice pq i cq) i _ rfl (vas.alloc _) ⟨w1.heap.size,0,none⟩ 1 1 [str (aV y t).1] rfl rfl (cell_one_new _ _ _) (by intro u hu;rw[List.mem_singleton.1 hu];rfl) (by decide) (by unfold maxLen;omega) (by omega) (by simp;omega) ?_;intro v4 w4 bB DR vn5;obtain⟨p4,c4,rfl⟩:=bu bB;have vkn:(Value.slice pq i cq).ownBlock≠some (w.heap.size+1+1):=(λe=>by have:=(vas.lt _ e).1;omega);have vkm:(Value.slice pq i cq).ownBlock≠some (w.heap.size+1):=(λe=>by have:=(vas.lt _ e).1;omega);have vkl:(Value.slice pq i cq).ownBlock≠some (w.heap.size):=(λe=>by have:=(vas.lt _ e).1;omega);have vj6:=eO DR vj7 vkn;have vnm:=aN vj6;have vkf:=eO DR vki vkm;have vke:=eO DR vkh vkl;have eD:=(bL.alloc bL.size (.cells #[str (aV y t).1] 9)).grown DR (by simp;omega) (λk e=>by have:=(vas.lt k e).1;omega)))
     rw[hT.out] at bB;refine⟨⟨i+1,hlt,by go_num,eD.setCell (p:=⟨w.heap.size+1+1,1,none⟩) (by simp only;omega) _,hp',(heap_setCell_other w4 ⟨w.heap.size+1+1,1,none⟩ w.heap.size _ (by simp only;omega)).trans vke,(heap_setCell_other w4 ⟨w.heap.size+1+1,1,none⟩ (w.heap.size+1) _ (by simp only;omega)).trans vkf,_,heap_setCell_same w4 _ 1 _ _ _ vj6,ownsRow_setCell_below bB (a:=⟨w.heap.size+1+1,1,none⟩) (by simp only;omega) _⟩,by simp only[intOf];omega⟩
   · obtain⟨g1,g2⟩:=bK hz
     have HP:=zh (vg3.out.1 i y j8 hp.out hz);clear j8 hp vg3;go_wp2_with (go_at_call 35;refine vhg.mono ?_;clear vhg;rintro e w1 ⟨rfl,au⟩;have bL:=hb.trans (af au hb.size);have hg2:=ah hg2 au;have b2:=aN hg2);refine bodyPost_ret (v:=.tuple #[.agg #[.bool false,.slice none 0 0,str [],.slice none 0 0],.bool false]) (by simp[results,Tryz.results135,go_sem,b2]) rfl ?_;rw[HP.out];exact⟨_,by simp[hz],aT.zero _ _,Below.ep bL (b:=w.heap.size+1) (by omega) _ _ _ _⟩
  case neg =>
   obtain rfl:i=ar.length:=by omega
   rw[List.take_length] at hown hp;obtain⟨voj,vg5⟩:∃voj,voj=ar.map λy=>(aV y t).1:=⟨_,rfl⟩
   have vfm:voj.length=ar.length:=by rw[vg5];simp
   have hss:SS (λb=>w.heap.size+3≤b) wr (.slice pq ar.length cq) voj:=SS.row (vg5▸hown) vfm (by intro z hz;rw[vg5] at hz;obtain⟨y,_,rfl⟩:=List.mem_map.1 hz;exact yL _ _)
   by_cases Uo:re=[]
   · have HP:=zh (vg3.out.2.1 hp.out Uo)
     rw[←vg5] at HP;have e1:re.isEmpty=true:=by rw[Uo];rfl
     have e2:(re==[])=true:=by rw[Uo];rfl
     clear vg3 hp vg5 vfm Uo;go_wp2_with fail;refine bodyPost_ret (v:=.tuple #[.agg #[.bool it,.slice pq ar.length cq,str [],.slice p2 sg.length c2],.bool true]) (by simp[results,Tryz.results135,go_sem,b2]) rfl ?_;have hB:=Below.ep hb (b:=w.heap.size+1) (by omega) (.bool it) (.slice pq ar.length cq) (str []) (.slice p2 sg.length c2);rw[HP.out];exact⟨_,rfl,⟨_,_,rfl,Nat.zero_le _,(SS.ep hss (b:=w.heap.size+1) (by intro b hb;omega) _ _ _ _).mono λb hb=>.inl (by omega),(HS.out _ hB).mono λb hb=>.inr hb⟩,hB⟩
   · have e1:re.isEmpty=false:=by simpa using Uo
     have e2:(re==[])=false:=by simpa using Uo
     have vhf:=HW re hr wr
     by_cases hz:(aV re t).2=0
     · have HP:=zh (vg3.out.2.2.2 hp.out Uo hz)
       rw[←vg5] at HP;rw[hz] at vhf;clear vg3 hp vg5 vfm Uo hz;go_wp2_with (go_at_call 35;refine vhf.mono ?_;clear vhf;rintro e w1 ⟨rfl,au⟩;have bL:=hb.trans (af au hb.size);have hg2:=ah hg2 au;have hg3:=ah hg3 au;have b2:=aN hg2;have b3:=aN hg3;have vkr:=hss.below au zr);refine bodyPost_ret (v:=.tuple #[.agg #[.bool it,.slice pq ar.length cq,str (aV re t).1,.slice p2 sg.length c2],.bool true]) (by simp[results,Tryz.results135,go_sem,b2]) rfl ?_;have cD:=bL.setCell (p:=⟨w.heap.size+1+1,2,none⟩) (by simp only;omega) (str (aV re t).1);have IP:=vkr.set (a:=⟨w.heap.size+1+1,2,none⟩) (by intro b hb;simp only;omega) (str (aV re t).1);have hB:=Below.ep cD (b:=w.heap.size+1) (by omega) (.bool it) (.slice pq ar.length cq) (str (aV re t).1) (.slice p2 sg.length c2);rw[HP.out];exact⟨_,rfl,⟨_,_,rfl,yL _ _,(SS.ep IP (b:=w.heap.size+1) (by intro b hb;omega) _ _ _ _).mono λb hb=>.inl (by omega),(HS.out _ hB).mono λb hb=>.inr hb⟩,hB⟩
     · obtain⟨g1,g2⟩:=bK hz
       have HP:=zh (vg3.out.2.2.1 hp.out Uo hz);clear vg3 hp vg5 vfm Uo;go_wp2_with (go_at_call 35;refine vhf.mono ?_;clear vhf;rintro e w1 ⟨rfl,au⟩;have bL:=hb.trans (af au hb.size);have hg2:=ah hg2 au;have b2:=aN hg2);refine bodyPost_ret (v:=.tuple #[.agg #[.bool false,.slice none 0 0,str [],.slice none 0 0],.bool false]) (by simp[results,Tryz.results135,go_sem,b2]) rfl ?_;rw[HP.out];exact⟨_,by simp[hz],aT.zero _ _,Below.ep bL (b:=w.heap.size+1) (by omega) _ _ _ _⟩
def vhn (D:Nat→Prop) (w:World) (v:Value) (x:aL) (a:List UInt8):Prop:=
 ∃p q,v=.agg #[str x.name,.bool x.sig.iter,p,str x.sig.res,q,str a]∧qm x∧SS D w p x.sig.args∧SS D w q x.sig.sigs
theorem vjp {w:World} {b:Nat} {a0 a1 a2 a3 a4 a5:Value} {t:TypeId} (h:w.heap[b]? =some (.cells #[a0,a1,a2,a3,a4,a5] t (0,0))):
 w.cell? ⟨b,0,none⟩=some a0∧w.cell? ⟨b,1,none⟩=some a1∧w.cell? ⟨b,2,none⟩=some a2∧w.cell? ⟨b,3,none⟩=some a3∧w.cell? ⟨b,4,none⟩=some a4∧w.cell? ⟨b,5,none⟩=some a5:=
 ⟨(ak h 0).trans rfl,(ak h 1).trans rfl,(ak h 2).trans rfl,(ak h 3).trans rfl,(ak h 4).trans rfl,(ak h 5).trans rfl⟩
theorem vbg {D:Nat→Prop} (v:Value) (x:aL) (a:List UInt8) (w:World) (hv:vhn D w v x a) (ha:a.length≤maxLen) (hl:x.sig.args.length≤100000):
 Calls Tryz.prog 71 #[v] w λe w'=>∃u,e=.returned (.tuple #[u,.bool (decide ((eF x.sig a).2=0))])∧aT (λb=>w.heap.size≤b∨D b∧b<w.heap.size) w' u (eF x.sig a).1∧Below w.heap.size w w':=by
 obtain⟨p,q,rfl,⟨_,hr⟩,hp,hq⟩:=hv
 have vkx:=zh (λW (hW:Below w.heap.size w W)=>hp.fresh.below hW zr)
 have vky:=zh (λW (hW:Below w.heap.size w W)=>hq.fresh.below hW zr)
 obtain⟨p1,c1,rfl,_⟩:=hp.shape
 obtain⟨p2,c2,rfl,_⟩:=hq.shape
 have hA:=((zb w).alloc zr (.cells #[str x.name,.bool x.sig.iter,.slice p1 x.sig.args.length c1,str x.sig.res,.slice p2 x.sig.sigs.length c2,str a] 102))
 have Kg:=hA.alloc (by simp) (.cells #[.bool false,.slice none 0 0,.string ⟨#[]⟩,.slice none 0 0] 36)
 have hg1:=aD (.cells #[.bool false,.slice none 0 0,.string ⟨#[]⟩,.slice none 0 0] 36) (heap_alloc_new w (.cells #[str x.name,.bool x.sig.iter,.slice p1 x.sig.args.length c1,str x.sig.res,.slice p2 x.sig.sigs.length c2,str a] 102))
 have hg2:=cI (w:=w.alloc (.cells #[str x.name,.bool x.sig.iter,.slice p1 x.sig.args.length c1,str x.sig.res,.slice p2 x.sig.sigs.length c2,str a] 102)) (n:=w.heap.size+1) (by simp) #[.bool false,.slice none 0 0,.string ⟨#[]⟩,.slice none 0 0] 36
 have b1:=vjp hg1
 have b2:=aN hg2
 clear hp hq
 by_cases h0:a=[]
 · subst h0
   have HP:=zh (show eF x.sig []=(x.sig,0) by unfold eF;rw[if_pos rfl]);go_enter Tryz.func71,Tryz.ntmps71;go_wp2_with fail;refine bodyPost_ret (v:=.tuple #[.agg #[.bool x.sig.iter,.slice p1 x.sig.args.length c1,str x.sig.res,.slice p2 x.sig.sigs.length c2],.bool true]) (by simp[results,Tryz.results71,go_sem]) rfl ?_;have hB:=hA.alloc (by simp) (.cells #[.bool x.sig.iter,.slice p1 x.sig.args.length c1,str x.sig.res,.slice p2 x.sig.sigs.length c2] 36);rw[HP.out];exact⟨_,rfl,⟨_,_,rfl,hr,(vkx.out _ hB).mono λ_ hb=>.inr hb,(vky.out _ hB).mono λ_ hb=>.inr hb⟩,hB⟩
 · have e1:a.isEmpty=false:=by simpa using h0
   have e2:(a==[])=false:=by simpa using h0
   have HC:=vb5 (.agg #[.bool x.sig.iter,.slice p1 x.sig.args.length c1,str x.sig.res,.slice p2 x.sig.sigs.length c2]) x.sig a _ ⟨_,_,rfl,hr,vkx.out _ Kg,vky.out _ Kg⟩ h0 ha hl;generalize eF x.sig a=PK at *;clear h0;go_enter Tryz.func71,Tryz.ntmps71;go_wp2_with (go_at_call 135;refine HC.mono ?_;clear HC;rintro e w3 ⟨u,rfl,⟨vpr,vqd,rfl,vq0,vqc,vqb⟩,aH⟩;obtain⟨pu,cu,rfl,_⟩:=vqc.shape;obtain⟨pv,cv,rfl,_⟩:=vqb.shape;have hg2:=ah hg2 aH;have b2:=aN hg2);refine bodyPost_ret (v:=.tuple #[.agg #[.bool PK.1.iter,.slice pu PK.1.args.length cu,str PK.1.res,.slice pv PK.1.sigs.length cv],.bool (decide (PK.2=0))]) (by simp[results,Tryz.results71,go_sem,b2]) rfl ?_;have hB:=Kg.trans (af aH (by simp;omega));have hne:∀b,((w.heap.size+1+1≤b)∨(D b∧b<w.heap.size)∧b<w.heap.size+1+1)→b≠w.heap.size+1:=by
    intro b hb;rcases hb with hb|hb
    · omega
    · have:=hb.1.2;omega
   simp only[World.size_alloc] at vqc vqb;have hmo:∀b,((w.heap.size+1+1≤b)∨(D b∧b<w.heap.size)∧b<w.heap.size+1+1)→(w.heap.size≤b∨D b∧b<w.heap.size):=λb hb=>hb.elim (λh=>.inl (by omega)) λh=>.inr h.1
   exact⟨_,rfl,⟨_,_,rfl,vq0,(SS.ep vqc (b:=w.heap.size+1) hne _ _ _ _).mono hmo,(SS.ep vqb (b:=w.heap.size+1) hne _ _ _ _).mono hmo⟩,Below.ep hB (b:=w.heap.size+1) (by omega) _ _ _ _⟩
theorem vdf {D:Nat→Prop} (v:Value) (x:aL) (a:List UInt8) (w:World) (hv:vhn D w v x a) (ha:a.length≤maxLen) (hl:x.sig.args.length≤100000):
 Calls Tryz.prog 71 #[v] w λe w'=>∃u,e=.returned (.tuple #[u,.bool (decide ((eF x.sig a).2=0))])∧aT Any w' u (eF x.sig a).1∧Below w.heap.size w w':=
 (vbg v x a w hv ha hl).mono λ_ _ ⟨u,h1,h2,h3⟩=>⟨u,h1,h2.mono λ_ _=>trivial,h3⟩
def vag (n:List UInt8) (f:aA):Bool:=f.name==n
theorem vai (l:List aA) (n:List UInt8):l.find? (vag n)=ew l n:=by
 unfold ew
 congr 1
 funext f
 unfold vag
 by_cases h:f.name=n<;>simp[h]
theorem vdr {D:Nat→Prop} (l:List aA) (n:List UInt8) (v:Value) (w:World) (hv:bG D w v l):
 Calls Tryz.prog 95 #[v,str n] w λe w'=>e=.returned (.int .i64 (pU (vag n) l 0))∧Below w.heap.size w w':=by
 obtain⟨p,c,rfl,_,hm,_⟩:=hv.shape
 unfold maxLen at hm
 go_enter Tryz.func95,Tryz.ntmps95
 go_wp2_with fail
 go_loopw [5] (λa wr=>∃i:Nat,i≤l.length∧a=.int .i64 i∧Below w.heap.size w wr∧Hid (pU (vag n) l 0=pU (vag n) (l.drop i) i)) (λa _=>l.length - (intOf a).toNat)
 case atStart=>exact⟨0,Nat.zero_le _,rfl,zb _,rfl⟩
 case round=>
  obtain⟨i,hi,rfl,hb,hA⟩:=hrel
  by_cases hlt:i<l.length
  case neg=>
   have HX:=zh (show pU (vag n) l 0= -1 by rw[hA.out,List.drop_eq_nil_of_le (by omega)];rfl);clear hA;go_wp2_with fail;go_ret;exact⟨by rw[HX.out];rfl,hb⟩
  case pos=>
   obtain⟨x,hkx⟩:∃x,l[i]? =some x:=⟨_,List.getElem?_eq_getElem hlt⟩
   obtain⟨b1,o1,av,sv,rfl,_,hle,hN,hO,uq,pG,od,pZ,rK⟩:=(hv.below hb zr).at hkx;have hd:=hA.out;rw[bp hkx,pU] at hd;clear hA hkx;rcases hn:(x.name==n) with _|_
   · rw[show vag n x=false from hn] at hd
     have HX:=zh (hd.trans (if_neg (by simp)));clear hd;go_wp2_with fail;exact⟨⟨i+1,by omega,by go_num,hb,HX⟩,by simp only[intOf];omega⟩
   · rw[show vag n x=true from hn] at hd
     have HX:=zh (hd.trans (if_pos rfl));clear hd;go_wp2_with fail;go_ret;exact⟨by rw[HX.out];rfl,hb⟩
theorem vah {D D':Nat→Prop} {n r:List UInt8} {L G:List (List UInt8)} {va vqg:Value} {w:World} (ha:SS D w va L) (hg:SS D' w vqg G) (hn:n.length≤maxLen) (hr:r.length≤maxLen):Calls Tryz.prog 133 #[str n,va,str r,vqg] w λe w'=>∃p c q d,e=.returned (.agg #[str n,.bool false,.slice p L.length c,str r,.slice q G.length d])∧
 gx (λb=>D b∨D' b) w' (.agg #[str n,.bool false,.slice p L.length c,str r,.slice q G.length d]) ⟨n,⟨false,L,r,G⟩⟩∧Below w.heap.size w w':=by
 refine(vch n r L G va vqg w ha hg hn hr).mono ?_
 rintro e w' ⟨v',rfl,⟨a,s,rfl,h0,h1,h2⟩,hb⟩
 obtain⟨p,c,rfl,_⟩:=h1.shape
 obtain⟨q,d,rfl,_⟩:=h2.shape
 exact⟨p,c,q,d,rfl,⟨_,_,rfl,h0,h1,h2⟩,hb⟩
def vb2 (D:Nat→Prop) (w:World) (a:List UInt8):List Value→List aL→Prop
 | cs,[]=>cs=[]
 | cs,x::l=>∃p q r,cs=str x.name::.bool x.sig.iter::p::str x.sig.res::q::str a::r∧qm x∧SS D w p x.sig.args∧SS D w q x.sig.sigs∧vb2 D w a r l
theorem vb2.agree {D:Nat→Prop} {w w':World} {a:List UInt8} (hk:∀b,D b→b<w.heap.size→w'.heap[b]? =w.heap[b]?):∀{l:List aL} {cs:List Value},vb2 D w a cs l→vb2 D w' a cs l
 | [],_,h=>h
 | _::_,_,⟨p,q,r,h1,h0,h2,h3,h4⟩=>⟨p,q,r,h1,h0,h2.agree hk,h3.agree hk,vb2.agree hk h4⟩
theorem vb2.snoc {D:Nat→Prop} {w:World} {a:List UInt8} {x:aL} {p q:Value} (h0:qm x) (h2:SS D w p x.sig.args) (h3:SS D w q x.sig.sigs):∀{l:List aL} {cs:List Value},vb2 D w a cs l→vb2 D w a (cs++[str x.name,.bool x.sig.iter,p,str x.sig.res,q,str a]) (l++[x])
 | [],_,h=>by rw[show _=_ from h];exact⟨p,q,[],rfl,h0,h2,h3,rfl⟩
 | _::_,_,⟨p',q',r,h1,k0,k2,k3,k4⟩=>by subst h1;exact⟨p',q',_,rfl,k0,k2,k3,vb2.snoc h0 h2 h3 k4⟩
theorem vb2.get {D:Nat→Prop} {w:World} {a:List UInt8}:∀{l:List aL} {cs:List Value},vb2 D w a cs l→∀j (h:j<l.length),∃p q,qm l[j]∧SS D w p l[j].sig.args∧SS D w q l[j].sig.sigs∧
 cs[j * 6]? =some (str l[j].name)∧cs[j * 6+1]? =some (.bool l[j].sig.iter)∧cs[j * 6+2]? =some p∧cs[j * 6+3]? =some (str l[j].sig.res)∧cs[j * 6+4]? =some q∧cs[j * 6+5]? =some (str a)
 | [],_,_,j,h=>by simp at h
 | x::l,_,⟨p,q,r,h1,h0,h2,h3,h4⟩,j,h=>by
  subst h1;cases j with
  | zero=>exact⟨p,q,h0,h2,h3,rfl,rfl,rfl,rfl,rfl,rfl⟩
  | succ j=>
   have hj:j<l.length:=by simpa using h
   obtain⟨p',q',k0,k1,k2,k3,k4,k5,k6,k7,k8⟩:=vb2.get h4 j hj;have e:(j+1) * 6=j * 6+1+1+1+1+1+1:=by omega
   refine⟨p',q',k0,k1,k2,?_⟩;rw[e];exact⟨by simpa using k3,by simpa using k4,by simpa using k5,by simpa using k6,by simpa using k7,by simpa using k8⟩
def va5 (w:World) (v:Value) (l:List aL) (a:List UInt8):Prop:=
 ∃p c,v=.slice p l.length c∧l.length≤maxLen∧(l=[]∨∃b o,p=some ⟨b,o,none⟩∧b<w.heap.size∧∀j (h:j<l.length),∃pa vqa,qm l[j]∧SS Any w pa l[j].sig.args∧SS Any w vqa l[j].sig.sigs∧
  w.cell? ⟨b,o+j * 6,none⟩=some (str l[j].name)∧w.cell? ⟨b,o+j * 6+1,none⟩=some (.bool l[j].sig.iter)∧w.cell? ⟨b,o+j * 6+2,none⟩=some pa∧w.cell? ⟨b,o+j * 6+3,none⟩=some (str l[j].sig.res)∧w.cell? ⟨b,o+j * 6+4,none⟩=some vqa∧w.cell? ⟨b,o+j * 6+5,none⟩=some (str a))
theorem va5.shape {w:World} {v:Value} {l:List aL} {a:List UInt8} (h:va5 w v l a):∃p c,v=.slice p l.length c∧l.length≤maxLen:=by
 obtain⟨p,c,h1,h2,_⟩:=h
 exact⟨p,c,h1,h2⟩
theorem va5.nil (w:World) (p:Option Addr) (c:Nat) (a:List UInt8):va5 w (.slice p 0 c) [] a:=⟨p,c,rfl,Nat.zero_le _,.inl rfl⟩
theorem va5.at {w:World} {p:Option Addr} {n c:Nat} {l:List aL} {a:List UInt8} (h:va5 w (.slice p n c) l a) {j:Nat} {x:aL} (hj:l[j]? =some x):∃b o pa vqa,p=some ⟨b,o,none⟩∧qm x∧SS Any w pa x.sig.args∧SS Any w vqa x.sig.sigs∧
 w.cell? ⟨b,o+j * 6,none⟩=some (str x.name)∧w.cell? ⟨b,o+j * 6+1,none⟩=some (.bool x.sig.iter)∧w.cell? ⟨b,o+j * 6+2,none⟩=some pa∧w.cell? ⟨b,o+j * 6+3,none⟩=some (str x.sig.res)∧w.cell? ⟨b,o+j * 6+4,none⟩=some vqa∧w.cell? ⟨b,o+j * 6+5,none⟩=some (str a):=by
 obtain⟨hl,e⟩:=List.getElem?_eq_some_iff.1 hj
 obtain⟨p',c',h1,_,h4⟩:=h
 injection h1 with h1
 subst h1
 rcases h4 with rfl|⟨b,o,e1,_,h6⟩
 · simp at hl
 · obtain⟨pa,vqa,h7⟩:=h6 j hl
   rw[e] at h7;exact⟨b,o,pa,vqa,e1,h7⟩
theorem va5.below {K:Nat} {w w':World} {v:Value} {l:List aL} {a:List UInt8} (h:va5 w v l a) (hb:Below K w w') (hK:w.heap.size≤K):va5 w' v l a:=by
 obtain⟨p,c,h1,h2,h4⟩:=h
 refine⟨p,c,h1,h2,?_⟩
 rcases h4 with h4|⟨b,o,e1,h6,h7⟩
 · exact .inl h4
 · refine .inr ⟨b,o,e1,Nat.lt_of_lt_of_le h6 hb.size,λj hj=>?_⟩
   obtain⟨pa,vqa,k0,k1,k2,k3⟩:=h7 j hj;have hc:∀i,w'.cell? ⟨b,i,none⟩=w.cell? ⟨b,i,none⟩:=λi=>hb.cell (by show b<K;omega)
   exact⟨pa,vqa,k0,k1.below hb hK,k2.below hb hK,by rw[hc,hc,hc,hc,hc,hc];exact k3⟩
theorem va5.bH {w:World} {base:Nat} {e:TypeId} {v:Value} {l:List aL} {cs:List Value} {a:List UInt8} {D:Nat→Prop} (h:w.ownsRow base e 6 v l.length cs) (hc:vb2 D w a cs l):va5 w v l a:=by
 have hlt:=λb e=>aK h (b:=b) e
 rcases h.2 with⟨rfl,h0⟩|⟨g,cap,cur,rfl,hg,hh,h1,h2,h3,h4⟩
 · have e0:l=[]:=List.length_eq_zero_iff.1 (by omega)
   subst e0;exact va5.nil _ _ _ _
 · refine⟨_,_,rfl,by omega,.inr ⟨g,0,rfl,hlt g rfl,λj hj=>?_⟩⟩
   obtain⟨p,q,k0,k1,k2,k3,k4,k5,k6,k7,k8⟩:=hc.get j hj;have hcell:∀i u,cs[i]? =some u→w.cell? ⟨g,0+i,none⟩=some u:=λi u hu=>by
    have:=h.cells (g:=g) rfl i u hu
    rwa [show(⟨g,0,none⟩:Addr).add i=⟨g,0+i,none⟩ from by unfold Addr.add;simp;omega] at this
   exact⟨p,q,k0,k1.mono λ_ _=>trivial,k2.mono λ_ _=>trivial,hcell _ _ k3,hcell _ _ k4,hcell _ _ k5,hcell _ _ k6,hcell _ _ k7,hcell _ _ k8⟩
theorem ven:Tryz.prog.underlying 99=some (.slice 102):=by kernel_rfl
theorem vfv:(Tryz.prog.info? 102).map (λi=>(i.zero,i.size,i.bytes))=some (some (.agg #[.string ⟨#[]⟩,.bool false,.slice none 0 0,.string ⟨#[]⟩,.slice none 0 0,.string ⟨#[]⟩]),6,104):=by kernel_rfl
theorem vac {a:List UInt8} (h:a.length≤maxLen):∀s∈[a],s.length≤maxLen:=by
 intro s hs
 rw[List.mem_singleton.1 hs]
 exact h
theorem vc7 {a b:List UInt8} (h:a.length≤maxLen) (h2:b.length≤maxLen):∀s∈[a,b],s.length≤maxLen:=by
 intro s hs
 rcases List.mem_cons.1 hs with rfl|hs
 · exact h
 · exact vac h2 s hs
theorem vgo {a b c:List UInt8} (h:a.length≤maxLen) (h2:b.length≤maxLen) (h3:c.length≤maxLen):∀s∈[a,b,c],s.length≤maxLen:=by
 intro s hs
 rcases List.mem_cons.1 hs with rfl|hs
 · exact h
 · exact vc7 h2 h3 s hs
theorem va0 {P L:List aL} (h:L=lH P) (hp:P.length≤1000):L.length≤1000:=by rw[h,vba];exact hp
theorem va2 {B:Nat} {D:Nat→Prop} {W0 W W1 w1 w2:World} {P L L':List aL} {X:aL} {v:Value} (hH:L=lH P) (hB:Below B W0 W) (vbs:B≤W.heap.size) (lp:Below W.heap.size W W1) (au:Below W1.heap.size W1 w1) (aC:Below w1.heap.size w1 w2) (hE:L'=qX X L) (Kq:aY D w2 v L'):
 Below B W0 w2∧Below W.heap.size W w2∧aY Any w2 v L'∧Hid (L'=lH (P++[X]))∧B≤w2.heap.size:=by
 have h1:=(lp.trans (af au lp.size)).trans (af aC (Nat.le_trans lp.size au.size))
 exact⟨hB.trans (af h1 vbs),h1,Kq.mono λ_ _=>trivial,by rw[hE,hH,vaa];rfl,Nat.le_trans vbs h1.size⟩
theorem va7 {D D':Nat→Prop} {l:List aL} {x:aL} {v u:Value} {w:World} (hv:aY D w v l) (hu:gx D' w u x) (hl:l.length≤1000):
 Calls Tryz.prog 132 #[v,u] w λe w'=>∃l' p c,e=.returned (.slice p l'.length c)∧Hid (l'=qX x l)∧aY (λb=>D b∨D' b∨w.heap.size≤b) w' (.slice p l'.length c) l'∧Below w.heap.size w w':=by
 refine(vat l x v u w hv hu hl).mono ?_
 rintro e w' ⟨v',rfl,h,hb⟩
 obtain⟨p,c,rfl,_⟩:=h.shape
 exact⟨_,p,c,rfl,zh rfl,h,hb⟩
theorem vab {w W:World} {t:List UInt8} (hB:Below w.heap.size w W) (ht:t.length≤maxLen):∃L:List aL,Below w.heap.size w (W.alloc (.cells #[str t,str t] 9))∧w.heap.size≤(W.alloc (.cells #[str t,str t] 9)).heap.size∧SS Any (W.alloc (.cells #[str t,str t] 9)) (.slice (some ⟨W.heap.size,0,none⟩) 2 2) [t,t]∧
 aY Any (W.alloc (.cells #[str t,str t] 9)) (.slice none 0 0) L∧Hid (L=lH []):=
 ⟨[],hB.alloc hB.size _,Nat.le_trans hB.size (by simp),SS.new Any W trivial [t,t] 9 (0,0) (by unfold maxLen;simp) (vc7 ht ht),aY.nil _ _ _ _,zh rfl⟩
def va4 (W:World) (a:List UInt8) (L:List aL) (k:Nat) (v:Value) (w:World):Prop:=Below W.heap.size W w∧∃cs,w.ownsRow W.heap.size 102 6 v k cs∧vb2 (λb=>b<W.heap.size) w a cs (L.take k)
theorem va4.zero (W:World) (a:List UInt8) (L:List aL):va4 W a L 0 (.slice none 0 0) W:=⟨zb _,[],World.ownsRow_nil _ _ _ _,rfl⟩
theorem va4.shape {W w:World} {a:List UInt8} {L:List aL} {k:Nat} {v:Value} (h:va4 W a L k v w):∃p c,v=.slice p k c:=by
 obtain⟨_,cs,hown,_⟩:=h
 exact bu hown
theorem va4.fin {W w:World} {a:List UInt8} {L:List aL} {v:Value} (h:va4 W a L L.length v w):va5 w v L a:=by
 obtain⟨_,cs,hown,hC⟩:=h
 rw[List.take_length] at hC
 exact va5.bH hown hC
def vho (W:World) (L:List aL) (k:Nat) (x:aL) (p q:Value):Prop:=L[k]? =some x∧qm x∧SS (λb=>b<W.heap.size) W p x.sig.args∧SS (λb=>b<W.heap.size) W q x.sig.sigs
theorem va4.at {D:Nat→Prop} {W w:World} {a:List UInt8} {L:List aL} {k n c:Nat} {v:Value} {p:Option Addr} (h:va4 W a L k v w) (hO:aY D W (.slice p n c) L) (hlt:k<L.length):∃x b o q d r e,p=some ⟨b,o,none⟩∧vho W L k x (.slice q x.sig.args.length d) (.slice r x.sig.sigs.length e)∧
 w.cell? ⟨b,o+k * 5,none⟩=some (str x.name)∧w.cell? ⟨b,o+k * 5+1,none⟩=some (.bool x.sig.iter)∧w.cell? ⟨b,o+k * 5+2,none⟩=some (.slice q x.sig.args.length d)∧w.cell? ⟨b,o+k * 5+3,none⟩=some (str x.sig.res)∧w.cell? ⟨b,o+k * 5+4,none⟩=some (.slice r x.sig.sigs.length e):=by
 obtain⟨x,hkx⟩:∃x,L[k]? =some x:=⟨_,List.getElem?_eq_getElem hlt⟩
 obtain⟨b1,o1,av,sv,e1,_,hle,fe,eE,d0,d1,d2,d3,d4⟩:=hO.fresh.at hkx
 obtain⟨pa,ca,rfl,_⟩:=fe.shape
 obtain⟨ps,vfi,rfl,_⟩:=eE.shape
 have hb:=h.1
 exact⟨x,b1,o1,pa,ca,ps,vfi,e1,⟨hkx,hle,fe.mono λ_ h=>h.2,eE.mono λ_ h=>h.2⟩,Below.keep hb d0,Below.keep hb d1,Below.keep hb d2,Below.keep hb d3,Below.keep hb d4⟩
theorem va3 {ops:Array Oper} {rest:List Oper} {o:Oper} {a:Act} {Q:Exit→Act→World→Prop} {W wr:World} {arg:List UInt8} {L:List aL} {k:Nat} {pv:Option Addr} {cv:Nat} {x:aL} {q r:Option Addr} {d e:Nat} (hR:va4 W arg L k (.slice pv k cv) wr) (hX:vho W L k x (.slice q x.sig.args.length d) (.slice r x.sig.sigs.length e)) (hL:L.length≤1000) (s y:Operand)
 (hgd:o.guard=none) (ho:o.op=.call {callee:=.builtin .append,args:= #[s,y],argTypes:= #[99,99] }) (hs:a.eval s=.slice pv k cv) (hy:a.eval y=.slice (some ⟨wr.heap.size,0,none⟩) 1 1)
 (h:∀v w,va4 W arg L (k+1) v w→wpList Tryz.prog ops Q rest (a.put o.dst v) w):wpList Tryz.prog ops Q (o::rest) a (wr.alloc (.cells #[str x.name,.bool x.sig.iter,.slice q x.sig.args.length d,str x.sig.res,.slice r x.sig.sigs.length e,str arg] 102)):=by
 obtain⟨hb,cs,hown,hC⟩:=hR
 obtain⟨hkx,hle,fe,eE⟩:=hX
 have hlt:=(List.getElem?_eq_some_iff.1 hkx).1
 obtain⟨i0,gw,hz0,hz1,hz2⟩:=bY vfv
 have hsz:=hb.size
 refine bq _ hgd s y 99 ho W.heap.size 102 i0 _ 6 104 ven gw hz0 hz1 hz2 rfl (by decide) (.slice pv k cv) k cs hs (hown.alloc _) ⟨wr.heap.size,0,none⟩ 1 1 [str x.name,.bool x.sig.iter,.slice q x.sig.args.length d,str x.sig.res,.slice r x.sig.sigs.length e,str arg] hy rfl (gF _ _ _) (by intro u hu;simp only[List.mem_cons,List.not_mem_nil,or_false] at hu;rcases hu with rfl|rfl|rfl|rfl|rfl|rfl<;>rfl) (by decide) (by unfold maxLen;omega) (by omega) (by simp;omega) ?_
 intro v5 w5 gX hgr sF
 have eT:=(hb.alloc hsz (.cells #[str x.name,.bool x.sig.iter,.slice q x.sig.args.length d,str x.sig.res,.slice r x.sig.sigs.length e,str arg] 102)).grown hgr (by simp;omega) (λk e=>(hown.lt k e).1)
 have vmk:=vb2.agree (w':=w5) (λb hbb _=>(eT.block b hbb).trans (hb.block b hbb).symm) hC
 have Um:=vmk.snoc hle (fe.below eT zr) (eE.below eT zr)
 rw[show L.take k++[x]=L.take (k+1) by rw[List.take_add_one,hkx];rfl] at Um
 exact h _ _ ⟨eT,_,gX,Um⟩
theorem vde {D D':Nat→Prop} (c:bw) (lv nv:Value) (t:List UInt8) (w:World) (hl:bG D w lv c.dG) (hn:aY D' w nv c.ag) (ht:t.length≤maxLen) (hk:(aq t).2.k=3) (h0:(aq t).1=0):
 Calls Tryz.prog 70 #[lv,nv,str t] w λe w'=>∃v,e=.returned v∧va5 w' v (lH [⟨[101,113,117,97,108],⟨false,[t,t],gC,[]⟩⟩]) []∧Below w.heap.size w w':=by
 have HK:=va8 t ht w
 rw[hk,h0] at HK
 obtain⟨pl,cl,rfl,_⟩:=hl.shape
 obtain⟨pn,cn,rfl,_⟩:=hn.shape
 go_enter Tryz.func70,Tryz.ntmps70
 go_upto_region 4 with(go_at_call 128;refine HK.mono ?_;clear HK;rintro e W ⟨rfl,hB⟩)
 obtain⟨L0,yS,vad,vbd,L9,vbc⟩:=vab hB ht
 go_upto_region 5 with fail
 clear hB
 generalize vd0:W.alloc (.cells #[str t,str t] 9)=W0 at *
 clear vd0
 go_upto_region 21 with fail
 have lp:=(Below.refl W0.heap.size W0)
 go_upto_region 63 with(first
  | (go_at_call 132;refine(va7 ((L9.below lp zr).below au zr) hV (va0 vbc.out (by simp))).mono ?_;rintro e W1 ⟨voz,p2,c2,rfl,hE,va6,aC⟩)
  | (go_at_call 133;refine(vah (vbd.below lp zr) (SS.nil Any _ none 0) (by decide) (by decide)).mono ?_;rintro e w1 ⟨x1,y1,x2,y2,rfl,hV,au⟩))
 obtain⟨bL,Ir,Ko,vfj,vcx⟩:=va2 vbc.out yS vad lp au aC hE.out va6
 have ve1:=vbd.below Ir zr
 clear vbd vbc L9 yS vad au aC va6 Ir lp hV hE
 have hL:=va0 vfj.out (by simp)
 go_wp2_with fail
 clear ve1
 go_loopw [27,28] (λv y wx=>∃k:Nat,k≤voz.length∧y=.int .i64 k∧va4 W1 [] voz k v wx) (λ_ y _=>voz.length - (intOf y).toNat)
 case atStart=>exact⟨0,Nat.zero_le _,by go_num,va4.zero _ _ _⟩
 case round=>
  obtain⟨k,hk,rfl,hR⟩:=hrel;obtain⟨pv,cv,rfl⟩:=hR.shape
  by_cases hlt:k<voz.length
  case neg=>
   obtain rfl:k=voz.length:=by omega
   go_wp2_with fail;go_ret;exact⟨_,rfl,vfj.out▸hR.fin,bL.trans (af hR.1 vcx)⟩
  case pos=>
   obtain⟨x,b1,o1,pa,ca,ps,vfi,rfl,hX,d0,d1,d2,d3,d4⟩:=hR.at Ko hlt;go_wp2_with (at_builtin;refine va3 hR hX hL _ _ rfl rfl rfl rfl ?_;intro v5 w5 vcz);exact⟨⟨k+1,hlt,by go_num,vcz⟩,by simp only[intOf];omega⟩
theorem vdd {D D':Nat→Prop} (c:bw) (lv nv:Value) (t:List UInt8) (w:World) (hl:bG D w lv c.dG) (hn:aY D' w nv c.ag) (ht:t.length≤maxLen) (hk:(aq t).2.k=2) (h0:(aq t).1=0):
 Calls Tryz.prog 70 #[lv,nv,str t] w λe w'=>∃v,e=.returned v∧va5 w' v (lH [⟨[97,110,100],⟨false,[t,t],gC,[]⟩⟩,⟨[111,114],⟨false,[t,t],gC,[]⟩⟩,⟨[101,113,117,97,108],⟨false,[t,t],gC,[]⟩⟩,⟨[110,111,116],⟨false,[t],gC,[]⟩⟩]) []∧Below w.heap.size w w':=by
 have HK:=va8 t ht w
 rw[hk,h0] at HK
 obtain⟨pl,cl,rfl,_⟩:=hl.shape
 obtain⟨pn,cn,rfl,_⟩:=hn.shape
 go_enter Tryz.func70,Tryz.ntmps70
 go_upto_region 4 with(go_at_call 128;refine HK.mono ?_;clear HK;rintro e W ⟨rfl,hB⟩)
 obtain⟨L0,yS,vad,vbd,L9,vbc⟩:=vab hB ht
 go_upto_region 5 with fail
 clear hB
 generalize vd0:W.alloc (.cells #[str t,str t] 9)=W0 at *
 clear vd0
 go_upto_region 16 with fail
 have lp:=(Below.refl W0.heap.size W0)
 go_upto_region 17 with(first
  | (go_at_call 132;refine(va7 ((L9.below lp zr).below au zr) hV (va0 vbc.out (by simp))).mono ?_;rintro e W1 ⟨voz,p2,c2,rfl,hE,va6,aC⟩)
  | (go_at_call 133;refine(vah (vbd.below lp zr) (SS.nil Any _ none 0) (by decide) (by decide)).mono ?_;rintro e w1 ⟨x1,y1,x2,y2,rfl,hV,au⟩))
 obtain⟨bL,Ir,Ko,vfj,vcx⟩:=va2 vbc.out yS vad lp au aC hE.out va6
 have ve1:=vbd.below Ir zr
 clear vbd vbc L9 yS vad au aC va6 Ir lp hV hE
 have lp:=(Below.refl W1.heap.size W1)
 go_upto_region 18 with(first
  | (go_at_call 132;refine(va7 ((Ko.below lp zr).below au zr) hV (va0 vfj.out (by simp))).mono ?_;rintro e W2 ⟨vp0,p2,c2,rfl,hE,va6,aC⟩)
  | (go_at_call 133;refine(vah (ve1.below lp zr) (SS.nil Any _ none 0) (by decide) (by decide)).mono ?_;rintro e w1 ⟨x1,y1,x2,y2,rfl,hV,au⟩))
 obtain⟨cD,vh0,Kq,vcy,vev⟩:=va2 vfj.out bL vcx lp au aC hE.out va6
 have vgy:=ve1.below vh0 zr
 clear ve1 vfj Ko bL vcx au aC va6 vh0 lp hV hE
 have lp:=(Below.refl W2.heap.size W2)
 go_upto_region 19 with(first
  | (go_at_call 132;refine(va7 ((Kq.below lp zr).below au zr) hV (va0 vcy.out (by simp))).mono ?_;rintro e W3 ⟨vp1,p2,c2,rfl,hE,va6,aC⟩)
  | (go_at_call 133;refine(vah (vgy.below lp zr) (SS.nil Any _ none 0) (by decide) (by decide)).mono ?_;rintro e w1 ⟨x1,y1,x2,y2,rfl,hV,au⟩))
 obtain⟨dx,vj0,RF,vgw,vew⟩:=va2 vcy.out cD vev lp au aC hE.out va6
 have vgf:=vgy.below vj0 zr
 clear vgy vcy Kq cD vev au aC va6 vj0 lp hV hE
 have lp:=((Below.refl W3.heap.size W3).alloc zr (.cells #[str t] 9))
 go_upto_region 63 with(first
  | (go_at_call 132;refine(va7 ((RF.below lp zr).below au zr) hV (va0 vgw.out (by simp))).mono ?_;rintro e W4 ⟨vp2,p2,c2,rfl,hE,va6,aC⟩)
  | (go_at_call 133;refine(vah (SS.new Any W3 trivial [t] 9 (0,0) (by unfold maxLen;simp) (vac ht)) (SS.nil Any _ none 0) (by decide) (by decide)).mono ?_;rintro e w1 ⟨x1,y1,x2,y2,rfl,hV,au⟩))
 obtain⟨eD,vh1,Ph,vhb,vfo⟩:=va2 vgw.out dx vew lp au aC hE.out va6
 have viq:=vgf.below vh1 zr
 clear vgf vgw RF dx vew au aC va6 vh1 lp hV hE
 have hL:=va0 vhb.out (by simp)
 go_wp2_with fail
 clear viq
 go_loopw [27,28] (λv y wx=>∃k:Nat,k≤vp2.length∧y=.int .i64 k∧va4 W4 [] vp2 k v wx) (λ_ y _=>vp2.length - (intOf y).toNat)
 case atStart=>exact⟨0,Nat.zero_le _,by go_num,va4.zero _ _ _⟩
 case round=>
  obtain⟨k,hk,rfl,hR⟩:=hrel;obtain⟨pv,cv,rfl⟩:=hR.shape
  by_cases hlt:k<vp2.length
  case neg=>
   obtain rfl:k=vp2.length:=by omega
   go_wp2_with fail;go_ret;exact⟨_,rfl,vhb.out▸hR.fin,eD.trans (af hR.1 vfo)⟩
  case pos=>
   obtain⟨x,b1,o1,pa,ca,ps,vfi,rfl,hX,d0,d1,d2,d3,d4⟩:=hR.at Ph hlt;go_wp2_with (at_builtin;refine va3 hR hX hL _ _ rfl rfl rfl rfl ?_;intro v5 w5 vcz);exact⟨⟨k+1,hlt,by go_num,vcz⟩,by simp only[intOf];omega⟩
theorem vef {D D':Nat→Prop} (c:bw) (lv nv:Value) (t:List UInt8) (w:World) (hl:bG D w lv c.dG) (hn:aY D' w nv c.ag) (ht:t.length≤maxLen) (hk:(aq t).2.k=1) (h0:(aq t).1=0):
 Calls Tryz.prog 70 #[lv,nv,str t] w λe w'=>∃v,e=.returned v∧va5 w' v (lH [⟨[97,100,100],⟨false,[t,t],mA,[[111,118,101,114,102,108,111,119]]⟩⟩,⟨[115,117,98],⟨false,[t,t],mA,[[111,118,101,114,102,108,111,119]]⟩⟩,⟨[109,117,108],⟨false,[t,t],mA,[[111,118,101,114,102,108,111,119]]⟩⟩,⟨[100,105,118],⟨false,[t,t],mA,[[122,101,114,111,100,105,118,105,100,101]]⟩⟩,⟨[109,111,100],⟨false,[t,t],mA,[[122,101,114,111,100,105,118,105,100,101]]⟩⟩,⟨[108,116],⟨false,[t,t],gC,[]⟩⟩,⟨[108,101],⟨false,[t,t],gC,[]⟩⟩,⟨[101,113,117,97,108],⟨false,[t,t],gC,[]⟩⟩]) []∧Below w.heap.size w w':=by
 have HK:=va8 t ht w
 rw[hk,h0] at HK
 obtain⟨pl,cl,rfl,_⟩:=hl.shape
 obtain⟨pn,cn,rfl,_⟩:=hn.shape
 go_enter Tryz.func70,Tryz.ntmps70
 go_upto_region 4 with(go_at_call 128;refine HK.mono ?_;clear HK;rintro e W ⟨rfl,hB⟩)
 obtain⟨L0,yS,vad,vbd,L9,vbc⟩:=vab hB ht
 go_upto_region 5 with fail
 clear hB
 generalize vd0:W.alloc (.cells #[str t,str t] 9)=W0 at *
 clear vd0
 go_upto_region 7 with fail
 have lp:=((Below.refl W0.heap.size W0).alloc zr (.cells #[str [111,118,101,114,102,108,111,119]] 9))
 go_upto_region 8 with(first
  | (go_at_call 132;refine(va7 ((L9.below lp zr).below au zr) hV (va0 vbc.out (by simp))).mono ?_;rintro e W1 ⟨voz,p2,c2,rfl,hE,va6,aC⟩)
  | (go_at_call 133;refine(vah (vbd.below lp zr) (SS.new Any W0 trivial [[111,118,101,114,102,108,111,119]] 9 (0,0) (by unfold maxLen;simp) (vac (by decide))) (by decide) (by decide)).mono ?_;rintro e w1 ⟨x1,y1,x2,y2,rfl,hV,au⟩))
 obtain⟨bL,Ir,Ko,vfj,vcx⟩:=va2 vbc.out yS vad lp au aC hE.out va6
 have ve1:=vbd.below Ir zr
 clear vbd vbc L9 yS vad au aC va6 Ir lp hV hE
 have lp:=((Below.refl W1.heap.size W1).alloc zr (.cells #[str [111,118,101,114,102,108,111,119]] 9))
 go_upto_region 9 with(first
  | (go_at_call 132;refine(va7 ((Ko.below lp zr).below au zr) hV (va0 vfj.out (by simp))).mono ?_;rintro e W2 ⟨vp0,p2,c2,rfl,hE,va6,aC⟩)
  | (go_at_call 133;refine(vah (ve1.below lp zr) (SS.new Any W1 trivial [[111,118,101,114,102,108,111,119]] 9 (0,0) (by unfold maxLen;simp) (vac (by decide))) (by decide) (by decide)).mono ?_;rintro e w1 ⟨x1,y1,x2,y2,rfl,hV,au⟩))
 obtain⟨cD,vh0,Kq,vcy,vev⟩:=va2 vfj.out bL vcx lp au aC hE.out va6
 have vgy:=ve1.below vh0 zr
 clear ve1 vfj Ko bL vcx au aC va6 vh0 lp hV hE
 have lp:=((Below.refl W2.heap.size W2).alloc zr (.cells #[str [111,118,101,114,102,108,111,119]] 9))
 go_upto_region 10 with(first
  | (go_at_call 132;refine(va7 ((Kq.below lp zr).below au zr) hV (va0 vcy.out (by simp))).mono ?_;rintro e W3 ⟨vp1,p2,c2,rfl,hE,va6,aC⟩)
  | (go_at_call 133;refine(vah (vgy.below lp zr) (SS.new Any W2 trivial [[111,118,101,114,102,108,111,119]] 9 (0,0) (by unfold maxLen;simp) (vac (by decide))) (by decide) (by decide)).mono ?_;rintro e w1 ⟨x1,y1,x2,y2,rfl,hV,au⟩))
 obtain⟨dx,vj0,RF,vgw,vew⟩:=va2 vcy.out cD vev lp au aC hE.out va6
 have vgf:=vgy.below vj0 zr
 clear vgy vcy Kq cD vev au aC va6 vj0 lp hV hE
 have lp:=((Below.refl W3.heap.size W3).alloc zr (.cells #[str [122,101,114,111,100,105,118,105,100,101]] 9))
 go_upto_region 11 with(first
  | (go_at_call 132;refine(va7 ((RF.below lp zr).below au zr) hV (va0 vgw.out (by simp))).mono ?_;rintro e W4 ⟨vp2,p2,c2,rfl,hE,va6,aC⟩)
  | (go_at_call 133;refine(vah (vgf.below lp zr) (SS.new Any W3 trivial [[122,101,114,111,100,105,118,105,100,101]] 9 (0,0) (by unfold maxLen;simp) (vac (by decide))) (by decide) (by decide)).mono ?_;rintro e w1 ⟨x1,y1,x2,y2,rfl,hV,au⟩))
 obtain⟨eD,vh1,Ph,vhb,vfo⟩:=va2 vgw.out dx vew lp au aC hE.out va6
 have viq:=vgf.below vh1 zr
 clear vgf vgw RF dx vew au aC va6 vh1 lp hV hE
 have lp:=((Below.refl W4.heap.size W4).alloc zr (.cells #[str [122,101,114,111,100,105,118,105,100,101]] 9))
 go_upto_region 12 with(first
  | (go_at_call 132;refine(va7 ((Ph.below lp zr).below au zr) hV (va0 vhb.out (by simp))).mono ?_;rintro e W5 ⟨vp3,p2,c2,rfl,hE,va6,aC⟩)
  | (go_at_call 133;refine(vah (viq.below lp zr) (SS.new Any W4 trivial [[122,101,114,111,100,105,118,105,100,101]] 9 (0,0) (by unfold maxLen;simp) (vac (by decide))) (by decide) (by decide)).mono ?_;rintro e w1 ⟨x1,y1,x2,y2,rfl,hV,au⟩))
 obtain⟨kH,Ku,vjd,vjw,vi6⟩:=va2 vhb.out eD vfo lp au aC hE.out va6
 have vk7:=viq.below Ku zr
 clear viq vhb Ph eD vfo au aC va6 Ku lp hV hE
 have lp:=(Below.refl W5.heap.size W5)
 go_upto_region 13 with(first
  | (go_at_call 132;refine(va7 ((vjd.below lp zr).below au zr) hV (va0 vjw.out (by simp))).mono ?_;rintro e W6 ⟨vp4,p2,c2,rfl,hE,va6,aC⟩)
  | (go_at_call 133;refine(vah (vk7.below lp zr) (SS.nil Any _ none 0) (by decide) (by decide)).mono ?_;rintro e w1 ⟨x1,y1,x2,y2,rfl,hV,au⟩))
 obtain⟨FM,Kv,Ni,vjx,vi7⟩:=va2 vjw.out kH vi6 lp au aC hE.out va6
 have vk8:=vk7.below Kv zr
 clear vk7 vjw vjd kH vi6 au aC va6 Kv lp hV hE
 have lp:=(Below.refl W6.heap.size W6)
 go_upto_region 14 with(first
  | (go_at_call 132;refine(va7 ((Ni.below lp zr).below au zr) hV (va0 vjx.out (by simp))).mono ?_;rintro e W7 ⟨vp5,p2,c2,rfl,hE,va6,aC⟩)
  | (go_at_call 133;refine(vah (vk8.below lp zr) (SS.nil Any _ none 0) (by decide) (by decide)).mono ?_;rintro e w1 ⟨x1,y1,x2,y2,rfl,hV,au⟩))
 obtain⟨M3,Nx,vdm,vjy,vdz⟩:=va2 vjx.out FM vi7 lp au aC hE.out va6
 have vep:=vk8.below Nx zr
 clear vk8 vjx Ni FM vi7 au aC va6 Nx lp hV hE
 have lp:=(Below.refl W7.heap.size W7)
 go_upto_region 63 with(first
  | (go_at_call 132;refine(va7 ((vdm.below lp zr).below au zr) hV (va0 vjy.out (by simp))).mono ?_;rintro e W8 ⟨vp6,p2,c2,rfl,hE,va6,aC⟩)
  | (go_at_call 133;refine(vah (vep.below lp zr) (SS.nil Any _ none 0) (by decide) (by decide)).mono ?_;rintro e w1 ⟨x1,y1,x2,y2,rfl,hV,au⟩))
 obtain⟨vi0,vl9,vje,vl3,vju⟩:=va2 vjy.out M3 vdz lp au aC hE.out va6
 have vmu:=vep.below vl9 zr
 clear vep vjy vdm M3 vdz au aC va6 vl9 lp hV hE
 have hL:=va0 vl3.out (by simp)
 go_wp2_with fail
 clear vmu
 go_loopw [27,28] (λv y wx=>∃k:Nat,k≤vp6.length∧y=.int .i64 k∧va4 W8 [] vp6 k v wx) (λ_ y _=>vp6.length - (intOf y).toNat)
 case atStart=>exact⟨0,Nat.zero_le _,by go_num,va4.zero _ _ _⟩
 case round=>
  obtain⟨k,hk,rfl,hR⟩:=hrel;obtain⟨pv,cv,rfl⟩:=hR.shape
  by_cases hlt:k<vp6.length
  case neg=>
   obtain rfl:k=vp6.length:=by omega
   go_wp2_with fail;go_ret;exact⟨_,rfl,vl3.out▸hR.fin,vi0.trans (af hR.1 vju)⟩
  case pos=>
   obtain⟨x,b1,o1,pa,ca,ps,vfi,rfl,hX,d0,d1,d2,d3,d4⟩:=hR.at vje hlt;go_wp2_with (at_builtin;refine va3 hR hX hL _ _ rfl rfl rfl rfl ?_;intro v5 w5 vcz);exact⟨⟨k+1,hlt,by go_num,vcz⟩,by simp only[intOf];omega⟩
theorem vct {D D':Nat→Prop} (c:bw) (lv nv:Value) (t:List UInt8) (w:World) (hl:bG D w lv c.dG) (hn:aY D' w nv c.ag) (ht:t.length≤maxLen) (hk:(aq t).2.k=4) (h0:(aq t).1=0) (ta:List UInt8) (Ur:(bQ t).1=ta) (hat:ta.length≤maxLen):
 Calls Tryz.prog 70 #[lv,nv,str t] w λe w'=>∃v,e=.returned v∧va5 w' v (lH [⟨[110,101,119],⟨false,[],t,[]⟩⟩,⟨[115,105,122,101],⟨false,[t],mA,[]⟩⟩,⟨[97,100,100,104],⟨false,[t,ta],[],[[111,118,101,114,102,108,111,119]]⟩⟩,⟨[114,101,109,104],⟨false,[t],ta,[[98,111,117,110,100,115]]⟩⟩,⟨[102,101,116,99,104],⟨false,[t,mA],ta,[[98,111,117,110,100,115]]⟩⟩,⟨[115,116,111,114,101],⟨false,[t,mA,ta],[],[[98,111,117,110,100,115]]⟩⟩,⟨[101,113,117,97,108],⟨false,[t,t],gC,[]⟩⟩]) []∧Below w.heap.size w w':=by
 have HK:=va8 t ht w
 rw[hk,h0] at HK
 obtain⟨pl,cl,rfl,_⟩:=hl.shape
 obtain⟨pn,cn,rfl,_⟩:=hn.shape
 have HA:=λW=>vbp t ht W
 rw[Ur] at HA
 go_enter Tryz.func70,Tryz.ntmps70
 go_upto_region 4 with(go_at_call 128;refine HK.mono ?_;clear HK;rintro e W ⟨rfl,hB⟩)
 obtain⟨L0,yS,vad,vbd,L9,vbc⟩:=vab hB ht
 go_upto_region 5 with fail
 clear hB
 generalize vd0:W.alloc (.cells #[str t,str t] 9)=W0 at *
 clear vd0
 go_upto_region 24 with(go_at_call 130;refine(HA W0).mono ?_;rintro e W20 ⟨rfl,mT⟩)
 have vik:=vbd.below mT zr
 have vib:=L9.below mT zr
 have vht:=yS.trans (af mT vad)
 have vg6:=Nat.le_trans vad mT.size
 have vgp:=vbc
 clear vbd L9 yS vad vbc mT HA
 have lp:=(Below.refl W20.heap.size W20)
 go_upto_region 25 with(first
  | (go_at_call 132;refine(va7 ((vib.below lp zr).below au zr) hV (va0 vgp.out (by simp))).mono ?_;rintro e W21 ⟨vne,p2,c2,rfl,hE,va6,aC⟩)
  | (go_at_call 133;refine(vah (SS.nil Any _ none 0) (SS.nil Any _ none 0) (by decide) ht).mono ?_;rintro e w1 ⟨x1,y1,x2,y2,rfl,hV,au⟩))
 obtain⟨vhu,vit,vic,vgq,vg7⟩:=va2 vgp.out vht vg6 lp au aC hE.out va6
 have vil:=vik.below vit zr
 clear vik vgp vib vht vg6 au aC va6 vit lp hV hE
 have lp:=((Below.refl W21.heap.size W21).alloc zr (.cells #[str t] 9))
 go_upto_region 26 with(first
  | (go_at_call 132;refine(va7 ((vic.below lp zr).below au zr) hV (va0 vgq.out (by simp))).mono ?_;rintro e W22 ⟨vnf,p2,c2,rfl,hE,va6,aC⟩)
  | (go_at_call 133;refine(vah (SS.new Any W21 trivial [t] 9 (0,0) (by unfold maxLen;simp) (vac ht)) (SS.nil Any _ none 0) (by decide) (by decide)).mono ?_;rintro e w1 ⟨x1,y1,x2,y2,rfl,hV,au⟩))
 obtain⟨vhv,viu,vid,vgr,vg8⟩:=va2 vgq.out vhu vg7 lp au aC hE.out va6
 have vim:=vil.below viu zr
 clear vil vgq vic vhu vg7 au aC va6 viu lp hV hE
 have lp:=(((Below.refl W22.heap.size W22).alloc zr (.cells #[str t,str ta] 9)).alloc (by simp) (.cells #[str [111,118,101,114,102,108,111,119]] 9))
 go_upto_region 27 with(first
  | (go_at_call 132;refine(va7 ((vid.below lp zr).below au zr) hV (va0 vgr.out (by simp))).mono ?_;rintro e W23 ⟨vng,p2,c2,rfl,hE,va6,aC⟩)
  | (go_at_call 133;refine(vah ((show SS Any (W22.alloc (.cells #[str t,str ta] 9)) (.slice (some ⟨W22.heap.size,0,none⟩) 2 2) [t,ta] from(SS.new Any W22 trivial [t,ta] 9 (0,0) (by unfold maxLen;simp) (vc7 ht hat))).below ((zb (W22.alloc (.cells #[str t,str ta] 9))).alloc zr (.cells #[str [111,118,101,114,102,108,111,119]] 9)) zr) (SS.newAt (w:=(W22.alloc (.cells #[str t,str ta] 9))) (D:=Any) (n:=W22.heap.size+1) (by simp) trivial [[111,118,101,114,102,108,111,119]] 9 (0,0) (by unfold maxLen;simp) (vac (by decide))) (by decide) (by decide)).mono ?_;rintro e w1 ⟨x1,y1,x2,y2,rfl,hV,au⟩))
 obtain⟨vhw,viv,vie,vgs,vg9⟩:=va2 vgr.out vhv vg8 lp au aC hE.out va6
 have vin:=vim.below viv zr
 clear vim vgr vid vhv vg8 au aC va6 viv lp hV hE
 have lp:=(((Below.refl W23.heap.size W23).alloc zr (.cells #[str t] 9)).alloc (by simp) (.cells #[str [98,111,117,110,100,115]] 9))
 go_upto_region 28 with(first
  | (go_at_call 132;refine(va7 ((vie.below lp zr).below au zr) hV (va0 vgs.out (by simp))).mono ?_;rintro e W24 ⟨vnh,p2,c2,rfl,hE,va6,aC⟩)
  | (go_at_call 133;refine(vah ((show SS Any (W23.alloc (.cells #[str t] 9)) (.slice (some ⟨W23.heap.size,0,none⟩) 1 1) [t] from(SS.new Any W23 trivial [t] 9 (0,0) (by unfold maxLen;simp) (vac ht))).below ((zb (W23.alloc (.cells #[str t] 9))).alloc zr (.cells #[str [98,111,117,110,100,115]] 9)) zr) (SS.newAt (w:=(W23.alloc (.cells #[str t] 9))) (D:=Any) (n:=W23.heap.size+1) (by simp) trivial [[98,111,117,110,100,115]] 9 (0,0) (by unfold maxLen;simp) (vac (by decide))) (by decide) hat).mono ?_;rintro e w1 ⟨x1,y1,x2,y2,rfl,hV,au⟩))
 obtain⟨vhx,viw,vif,vgt,vga⟩:=va2 vgs.out vhw vg9 lp au aC hE.out va6
 have vio:=vin.below viw zr
 clear vin vgs vie vhw vg9 au aC va6 viw lp hV hE
 have lp:=(((Below.refl W24.heap.size W24).alloc zr (.cells #[str t,str mA] 9)).alloc (by simp) (.cells #[str [98,111,117,110,100,115]] 9))
 go_upto_region 29 with(first
  | (go_at_call 132;refine(va7 ((vif.below lp zr).below au zr) hV (va0 vgt.out (by simp))).mono ?_;rintro e W25 ⟨vni,p2,c2,rfl,hE,va6,aC⟩)
  | (go_at_call 133;refine(vah ((show SS Any (W24.alloc (.cells #[str t,str mA] 9)) (.slice (some ⟨W24.heap.size,0,none⟩) 2 2) [t,mA] from(SS.new Any W24 trivial [t,mA] 9 (0,0) (by unfold maxLen;simp) (vc7 ht (by decide)))).below ((zb (W24.alloc (.cells #[str t,str mA] 9))).alloc zr (.cells #[str [98,111,117,110,100,115]] 9)) zr) (SS.newAt (w:=(W24.alloc (.cells #[str t,str mA] 9))) (D:=Any) (n:=W24.heap.size+1) (by simp) trivial [[98,111,117,110,100,115]] 9 (0,0) (by unfold maxLen;simp) (vac (by decide))) (by decide) hat).mono ?_;rintro e w1 ⟨x1,y1,x2,y2,rfl,hV,au⟩))
 obtain⟨vhy,vix,vig,vgu,vgb⟩:=va2 vgt.out vhx vga lp au aC hE.out va6
 have vip:=vio.below vix zr
 clear vio vgt vif vhx vga au aC va6 vix lp hV hE
 have lp:=(((Below.refl W25.heap.size W25).alloc zr (.cells #[str t,str mA,str ta] 9)).alloc (by simp) (.cells #[str [98,111,117,110,100,115]] 9))
 go_upto_region 30 with(first
  | (go_at_call 132;refine(va7 ((vig.below lp zr).below au zr) hV (va0 vgu.out (by simp))).mono ?_;rintro e W26 ⟨vnj,p2,c2,rfl,hE,va6,aC⟩)
  | (go_at_call 133;refine(vah ((show SS Any (W25.alloc (.cells #[str t,str mA,str ta] 9)) (.slice (some ⟨W25.heap.size,0,none⟩) 3 3) [t,mA,ta] from(SS.new Any W25 trivial [t,mA,ta] 9 (0,0) (by unfold maxLen;simp) (vgo ht (by decide) hat))).below ((zb (W25.alloc (.cells #[str t,str mA,str ta] 9))).alloc zr (.cells #[str [98,111,117,110,100,115]] 9)) zr) (SS.newAt (w:=(W25.alloc (.cells #[str t,str mA,str ta] 9))) (D:=Any) (n:=W25.heap.size+1) (by simp) trivial [[98,111,117,110,100,115]] 9 (0,0) (by unfold maxLen;simp) (vac (by decide))) (by decide) (by decide)).mono ?_;rintro e w1 ⟨x1,y1,x2,y2,rfl,hV,au⟩))
 obtain⟨vhz,viy,vih,vgv,vgc⟩:=va2 vgu.out vhy vgb lp au aC hE.out va6
 have vgz:=vip.below viy zr
 clear vip vgu vig vhy vgb au aC va6 viy lp hV hE
 have lp:=(Below.refl W26.heap.size W26)
 go_upto_region 63 with(first
  | (go_at_call 132;refine(va7 ((vih.below lp zr).below au zr) hV (va0 vgv.out (by simp))).mono ?_;rintro e W27 ⟨vhh,p2,c2,rfl,hE,va6,aC⟩)
  | (go_at_call 133;refine(vah (vgz.below lp zr) (SS.nil Any _ none 0) (by decide) (by decide)).mono ?_;rintro e w1 ⟨x1,y1,x2,y2,rfl,hV,au⟩))
 obtain⟨vjr,viz,vjz,vi8,vi4⟩:=va2 vgv.out vhz vgc lp au aC hE.out va6
 have vk5:=vgz.below viz zr
 clear vgz vgv vih vhz vgc au aC va6 viz lp hV hE
 have hL:=va0 vi8.out (by simp)
 go_wp2_with fail
 clear vk5
 go_loopw [27,28] (λv y wx=>∃k:Nat,k≤vhh.length∧y=.int .i64 k∧va4 W27 [] vhh k v wx) (λ_ y _=>vhh.length - (intOf y).toNat)
 case atStart=>exact⟨0,Nat.zero_le _,by go_num,va4.zero _ _ _⟩
 case round=>
  obtain⟨k,hk,rfl,hR⟩:=hrel;obtain⟨pv,cv,rfl⟩:=hR.shape
  by_cases hlt:k<vhh.length
  case neg=>
   obtain rfl:k=vhh.length:=by omega
   go_wp2_with fail;go_ret;exact⟨_,rfl,vi8.out▸hR.fin,vjr.trans (af hR.1 vi4)⟩
  case pos=>
   obtain⟨x,b1,o1,pa,ca,ps,vfi,rfl,hX,d0,d1,d2,d3,d4⟩:=hR.at vjz hlt;go_wp2_with (at_builtin;refine va3 hR hX hL _ _ rfl rfl rfl rfl ?_;intro v5 w5 vcz);exact⟨⟨k+1,hlt,by go_num,vcz⟩,by simp only[intOf];omega⟩
end
open Go Go.RowKit
theorem va5.to {w:World} {v:Value} {l l':List aL} {a:List UInt8} (h:va5 w v l a) (e:l=l'):va5 w v l' a:=e▸h
theorem vc8 (a b:List UInt8) (h:a.length+b.length≤100000) (x y:Operand) (w:World):(do eqGuard .add 9 x y (str a) (str b);Go.binOp .add 9 (str a) (str b):Sem Value).run Tryz.prog w=.ok (str (a++b)) w:=by
 simp[go_sem]
 omega
theorem va9 {α:Type} (f:α→List aL) (hf:∀x,(f x).length=2):∀l:List α,(l.flatMap f).length=l.length * 2
 | []=>rfl
 | x::l=>by rw[List.flatMap_cons,List.length_append,hf,va9 f hf l,List.length_cons];omega
section
variable {D:Nat→Prop} {ops:Array Oper} {h:Nat} {V:List VS} {E:List (Nat×VS)} {S:World→Prop} {k:Nat} {o:Oper}
theorem vfb {t:TypeId} {x y:Operand} {u v r:Value} (ho:o.op=.build t #[(0,x),(1,y)]) (hw:cO ops h V o=some true) (hk:V[k]? =some (.eq r)) (hx:aJ ops h V E o x=some (.eq u)) (hy:aJ ops h V E o y=some (.eq v))
 (hr:∀w,(Instr.build t #[(0,u),(1,v)]).run Tryz.prog w=.ok r w):bM D Tryz.prog S ops h V E k o:=
 AE x y hw hk hx hy λev w hS h1 h2=>by unfold execOp;simp[ho,h1,h2,hr]
theorem stOp {x y z u:Operand} {tys:Array TypeId} {nm rs:List UInt8} {L:List (List UInt8)} (ho:o.op=.call {callee:=.value (.func 133),args:= #[x,y,z,u],argTypes:=tys }) (hw:cO ops h V o=some true) (hk:V[k]? =some (.op ⟨nm,⟨false,L,rs,[]⟩⟩))
 (hx:aJ ops h V E o x=some (.eq (str nm))) (hy:aJ ops h V E o y=some (.ss L)) (hz:aJ ops h V E o z=some (.eq (str rs))) (hu:aJ ops h V E o u=some (.eq (.slice none 0 0))) (hn:nm.length≤maxLen) (hr:rs.length≤maxLen):bM D Tryz.prog S ops h V E k o:=
 vdu ho (enters_of Tryz.func133 (by kernel_rfl) rfl) hw hk hx hy hz hu λv v2 v3 v4 w hS h1 h2 h3 h4=>by
  rw[show v=_ from h1,show v3=_ from h3,show v4=_ from h4];refine(vch nm rs L [] v2 _ w h2 (SS.nil (λ_=>False) w none 0) hn hr).mono ?_;rintro e w' ⟨q,rfl,hq,hb⟩;exact⟨q,rfl,hq.mono λb hb=>hb.elim id False.elim,hb⟩
theorem vfd {x y:Operand} {tys:Array TypeId} {l:List aL} {X:aL} (ho:o.op=.call {callee:=.value (.func 132),args:= #[x,y],argTypes:=tys }) (hw:cO ops h V o=some true) (hk:V[k]? =some (.ops (qX X l)))
 (hx:aJ ops h V E o x=some (.ops l)) (hy:aJ ops h V E o y=some (.op X)) (hl:l.length≤1000) (hD:∀w,S w→∀b,w.heap.size≤b→D b):bM D Tryz.prog S ops h V E k o:=
 gu ho (enters_of Tryz.func132 (by kernel_rfl) rfl) hw hk hx hy λv v2 w hS h1 h2=>by
  refine(vat l X v v2 w h1 h2 hl).mono ?_;rintro e w' ⟨q,rfl,hq,hb⟩;exact⟨q,rfl,hq.mono λb hb=>hb.elim id λhb=>hb.elim id λhb=>hD w hS b hb,hb⟩
theorem vh7 {x y:Operand} {tys:Array TypeId} {l:List aL} {X:aL} {u:Value} (ho:o.op=.call {callee:=.value (.func 132),args:= #[x,y],argTypes:=tys }) (hw:cO ops h V o=some true) (hk:V[k]? =some (.ops (qX X l)))
 (hx:aJ ops h V E o x=some (.ops l)) (hy:aJ ops h V E o y=some (.eq u)) (hl:l.length≤1000) (hD:∀w,S w→∀b,w.heap.size≤b→D b) (hX:∀w,S w→gx D w u X):bM D Tryz.prog S ops h V E k o:=
 gu ho (enters_of Tryz.func132 (by kernel_rfl) rfl) hw hk hx hy λv v2 w hS h1 h2=>by
  rw[show v2=_ from h2];refine(vat l X v u w h1 (hX w hS) hl).mono ?_;rintro e w' ⟨q,rfl,hq,hb⟩;exact⟨q,rfl,hq.mono λb hb=>hb.elim id λhb=>hb.elim id λhb=>hD w hS b hb,hb⟩
end
