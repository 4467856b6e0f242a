/-
  Lemmas for the statement: contracts of the reference argusref04: types, op, put, at. Conditions: bounds of lengths; the variable strings.asciiSpace.
-/
import Derived.Test.YtakgjcfkdemipaaGreatDoorZB32
import Derived.Test.YtakgjcfkdemipaaGreatDoorZBn
import Derived.Test.YtakgjcfkdemipaaGreatDoorZC4
import Derived.Test.YtakgjcfkdemipaaGreatDoorZC6
set_option maxHeartbeats 12800000
namespace Go.Proofs.YtakgjcfkdemipaaGreatDoor
section
open Go Go.RowKit
def vfu (T U:TypeId):Prop:=(Tryz.prog.info? T).map (λi=>(i.zero,i.size,i.bytes))=some (some (.agg #[.string ⟨#[]⟩,.bool false,.slice none 0 0,.string ⟨#[]⟩,.slice none 0 0]),5,88)∧Tryz.prog.underlying U=some (.slice T)
theorem vfe:vfu 50 31:=⟨by kernel_rfl,by kernel_rfl⟩
theorem vdz:vfu 79 23:=⟨by kernel_rfl,by kernel_rfl⟩
theorem FC.below {T:TypeId} {B K:Nat} {w w':World} {v:Value} {l:List aL} (h:FC T B w v l) (hb:Below K w w') (hK:w.heap.size≤K):FC T B w' v l:=by
 obtain⟨cs,h1,h2⟩:=h
 exact⟨cs,ay h1 hb hK,h2.below hb hK⟩
theorem FC.shape {T:TypeId} {B:Nat} {w:World} {v:Value} {l:List aL} (h:FC T B w v l):∃p c,v=.slice p l.length c:=by
 obtain⟨cs,h1,_⟩:=h
 exact bu h1
theorem FC.x9 {T:TypeId} {B:Nat} {w:World} {v:Value} {l:List aL} (h:FC T B w v l):aY (λb=>B≤b) w v l:=by
 obtain⟨cs,h1,h2⟩:=h
 exact aY.bH h1 (λb hb=>(h1.lt b hb).1) (h2.mono λb hb=>hb.1)
theorem FC.set {T:TypeId} {B:Nat} {w:World} {v:Value} {l:List aL} (h:FC T B w v l) {a:Addr} (ha:a.block<B) (u:Value):FC T B (w.setCell a u) v l:=by
 obtain⟨cs,h1,h2⟩:=h
 refine⟨cs,cB h1 λb hb=>heap_setCell_other w a b u λe=>?_,h2.agree λb hb _=>heap_setCell_other w a b u λe=>?_⟩
 · have:=(h1.lt b hb).1;omega
 · have:=hb.1;omega
theorem FC.append {T:TypeId} {B:Nat} {W W':World} {v v':Value} {l k:List aL} {ds cs:List Value} (hC:bl (λb=>B≤b∧v.ownBlock≠some b) W cs l) (hk:bl (λb=>B≤b∧v.ownBlock≠some b) W ds k) (h':W'.ownsRow B T 5 v' (l.length+k.length) (cs++ds)) (hg:W.grownBy W' v.ownBlock) (ho:v'.ownBlock=v.ownBlock∨v'.ownBlock=some W.heap.size):FC T B W' v' (l++k):=by
 refine⟨cs++ds,by rw[List.length_append];exact h',?_⟩
 have key:∀{l:List aL} {cs:List Value},bl (λb=>B≤b∧v.ownBlock≠some b) W cs l→bl (λb=>B≤b∧v'.ownBlock≠some b) W' cs l:=by
  intro l cs hc;refine(hc.fresh.agree (w':=W') λb hb hlt=>hg.block b hlt λe=>hb.1.2 e.symm).mono λb hb=>⟨hb.1.1,λe=>?_⟩
  rcases ho with ho|ho
  · exact hb.1.2 (by rw[←ho];exact e)
  · have h2:=hb.2
    rw[ho] at e;injection e with e;omega
 exact bl.append (key hk) (key hC)
def vb3 (T:TypeId) (D:Nat→Prop) (B:Nat) (w:World) (v:Value) (l:List aL):Prop:=∃cs,w.ownsRow B T 5 v l.length cs∧bl D w cs l
theorem vb3.below {T:TypeId} {D:Nat→Prop} {B K:Nat} {w w':World} {v:Value} {l:List aL} (h:vb3 T D B w v l) (hb:Below K w w') (hK:w.heap.size≤K):vb3 T D B w' v l:=by
 obtain⟨cs,h1,h2⟩:=h
 exact⟨cs,ay h1 hb hK,h2.below hb hK⟩
theorem vch {T:TypeId} {D:Nat→Prop} {B n:Nat} (w:World) (hB:B≤w.heap.size) {l:List aL} {cs:List Value} (hn:l.length=n) (hm:n≤maxLen) (hc:bl D w cs l):vb3 T D B (w.alloc (.cells cs.toArray T)) (.slice (some ⟨w.heap.size,0,none⟩) n n) l:=by
 subst hn
 have hb:=(zb w).alloc zr (.cells cs.toArray T)
 exact⟨cs,⟨hc.length,.inr ⟨w.heap.size,l.length,cs.toArray,rfl,hB,heap_alloc_new w _,nl _,hm,by simpa using hc.length,by rw[←hc.length];simp⟩⟩,hc.below hb zr⟩
theorem vas {T U:TypeId} (hT:vfu T U) {o:Oper} {a:Act} {w:World} {K:Act→World→Prop} {Q:Exit→Act→World→Prop} (s x:Operand)
 (ho:o.op=.call {callee:=.builtin .append,args:= #[s,x],argTypes:= #[U,U] }) {B B':Nat} {D:Nat→Prop} {v y:Value} {L k:List aL}
 (hs:a.eval s=v) (hx:a.eval x=y) (hv:FC T B w v L) (hy:vb3 T D B' w y k) (hk:0<k.length) (hD:∀b,D b→B≤b∧v.ownBlock≠some b) (hm:L.length+k.length≤1000) (hB:B≤w.heap.size)
 (h:∀v' w',FC T B w' v' (L++k)→Below B w w'→K (a.put o.dst v') w'):Oper.wp Tryz.prog o a w K Q:=by
 obtain⟨i0,gw,hz0,hz1,hz2⟩:=bY hT.1
 obtain⟨cs,hcs,hC⟩:=hv
 obtain⟨ds,hy1,hy2⟩:=hy
 rcases hy1.2 with⟨_,h0⟩|⟨g,cap,cur,rfl,_⟩
 · omega
 · have hmx:L.length+k.length≤maxLen:=by unfold maxLen;omega
   obtain⟨v',w',hr,h2,h3,h4⟩:=fR (P:=Tryz.prog) w B U o.type T i0 _ 5 88 hT.2 gw hz0 hz1 hz2 rfl (by decide) v L.length cs hcs ⟨g,0,none⟩ k.length cap ds hy1.1 (λj u hj=>hy1.cells (g:=g) rfl j u hj) hy2.one_cell hk hmx (by omega) hB;unfold Oper.wp execOp;simp only[ho,resolve,invoke,builtin,Sem.run_bind,Sem.run_pure,Result.andThen_ok,List.map_toArray,List.map_cons,List.map_nil,hs,hx,hr];refine h v' w' ?_ (af ((zb w).grown h3 hB (λb e=>(hcs.lt b e).1)) zr);exact FC.append hC (hy2.mono hD) h2 h3 h4
theorem vdc {D:Nat→Prop} {w:World} {b:Nat}:∀(l:List aL) (o:Nat),(∀x∈l,qm x)→(∀j (_:j<l.length),∃a s,SS D w a l[j].sig.args∧SS D w s l[j].sig.sigs∧
 w.cell? ⟨b,o+j * 5,none⟩=some (str l[j].name)∧w.cell? ⟨b,o+j * 5+1,none⟩=some (.bool l[j].sig.iter)∧w.cell? ⟨b,o+j * 5+2,none⟩=some a∧w.cell? ⟨b,o+j * 5+3,none⟩=some (str l[j].sig.res)∧w.cell? ⟨b,o+j * 5+4,none⟩=some s)→
 ∃ds,bl D w ds l∧∀j u,ds[j]? =some u→w.cell? ⟨b,o+j,none⟩=some u
 | [],o,_,_=>⟨[],rfl,by simp⟩
 | x::l,o,hle,h=>by
  obtain⟨a,s,h1,h2,c0,c1,c2,c3,c4⟩:=h 0 (by simp);obtain⟨ds,k1,k2⟩:=vdc l (o+5) (λy hy=>hle y (List.mem_cons_of_mem _ hy)) λj hj=>by
   have:=h (j+1) (by simpa using hj);rw[show o+(j+1) * 5=o+5+j * 5 by omega] at this
   simpa using this
  refine⟨str x.name::.bool x.sig.iter::a::str x.sig.res::s::ds,⟨a,s,ds,rfl,hle x (List.mem_cons_self ..),h1,h2,k1⟩,λj u hu=>?_⟩
  match j with
  | 0=>simp at hu;subst hu;simpa using c0
  | 1=>simp at hu;subst hu;simpa using c1
  | 2=>simp at hu;subst hu;simpa using c2
  | 3=>simp at hu;subst hu;simpa using c3
  | 4=>simp at hu;subst hu;simpa using c4
  | j+5=>
   have:=k2 j u (by simpa using hu)
   rwa [show o+5+j=o+(j+5) by omega] at this
theorem aY.cells {D:Nat→Prop} {w:World} {p:Option Addr} {n c:Nat} {l:List aL} (h:aY D w (.slice p n c) l) (hne:l≠[]):∃b o ds,p=some ⟨b,o,none⟩∧D b∧bl D w ds l∧∀j u,ds[j]? =some u→w.cell? ⟨b,o+j,none⟩=some u:=by
 obtain⟨p',c',e,_,_,h3,h4⟩:=h
 simp only[Value.slice.injEq] at e
 obtain⟨rfl,_,_⟩:=e
 rcases h4 with h4|⟨b,o,e,h5,_,h6⟩
 · exact absurd h4 hne
 · obtain⟨ds,k1,k2⟩:=vdc l o h3 h6
   exact⟨b,o,ds,e,h5,k1,k2⟩
theorem jF.x9 {X:Nat→Prop} {B:Nat} {w:World} {v:Value} {l:List aL} (h:jF X B w v l) {D:Nat→Prop} (h1:∀b,B≤b→D b) (h2:∀b,¬X b→D b):aY D w v l:=by
 obtain⟨cs,k1,k2⟩:=h
 exact aY.bH k1 (λb hb=>h1 b (k1.lt b hb).1) (k2.mono λb hb=>h2 b hb.2)
theorem vbb {X D:Nat→Prop} (w:World) (base:Nat) (ty:TypeId) (v:Value) (A:List aL) (hown:jF X base w v A) (y:Value) (L:List aL) (hy:aY D w y L) (hD:∀b,D b→v.ownBlock≠some b∧¬X b) (hm:A.length+L.length≤100000) (hb:base≤w.heap.size):
 ∃v' w',(Builtin.append_ #[31,31] ty #[v,y]).run Tryz.prog w=.ok v' w'∧jF X base w' v' (A++L)∧w.grownBy w' v.ownBlock∧(v'.ownBlock=v.ownBlock∨v'.ownBlock=some w.heap.size):=by
 obtain⟨i0,gw,hz0,hz1,hz2⟩:=bY oy
 obtain⟨cs,hcs,hC⟩:=hown
 obtain⟨p,c,rfl,_⟩:=hy.shape
 by_cases h0:L=[]
 · subst h0
   refine⟨v,w,p7 base _ ty 50 i0 5 ja gw v _ _ hcs p c,?_,World.grownBy.refl _ _,.inl rfl⟩;rw[List.append_nil];exact⟨cs,hcs,hC⟩
 · have hp:0<L.length:=List.length_pos_iff.2 h0
   obtain⟨b,o,ds,rfl,_,hd,hcell⟩:=hy.cells h0;obtain⟨v',w',h1,h2,h3,h5⟩:=fR (P:=Tryz.prog) w base 31 ty 50 i0 _ 5 88 ja gw hz0 hz1 hz2 rfl (by decide) v A.length cs hcs ⟨b,o,none⟩ L.length c ds hd.length (λj u hu=>by
    rw[Go.WideShapes.add_plain];exact hcell j u hu) hd.one_cell hp (by unfold maxLen;omega) (by omega) hb
   exact⟨v',w',h1,jF.append hC (hd.mono hD) h2 h3 h5,h3,h5⟩
theorem va1 {X D:Nat→Prop} {ops:Array Oper} {rest:List Oper} {o:Oper} {a:Act} {Q:Exit→Act→World→Prop} (w:World) (hgd:o.guard=none) (s x:Operand)
 (ho:o.op=.call {callee:=.builtin .append,args:= #[s,x],argTypes:= #[31,31] }) (base:Nat) (v:Value) (A:List aL) (hs:a.eval s=v) (hown:jF X base w v A)
 (y:Value) (L:List aL) (hx:a.eval x=y) (hy:aY D w y L) (hD:∀b,D b→v.ownBlock≠some b∧¬X b) (hm:A.length+L.length≤100000) (hb:base≤w.heap.size)
 (h:∀v' w',jF X base w' v' (A++L)→w.grownBy w' v.ownBlock→(v'.ownBlock=v.ownBlock∨v'.ownBlock=some w.heap.size)→wpList Tryz.prog ops Q rest (a.put o.dst v') w'):
 wpList Tryz.prog ops Q (o::rest) a w:=by
 refine wpList_plain hgd λK hK=>?_
 obtain⟨v',w',hr,h2,h3,h4⟩:=vbb w base o.type v A hown y L hy hD hm hb
 unfold Oper.wp execOp
 simp only[ho,resolve,invoke,builtin,Sem.run_bind,Sem.run_pure,Result.andThen_ok,List.map_toArray,List.map_cons,List.map_nil,hs,hx,hr]
 exact hK _ _ (h v' w' h2 h3 h4)
theorem aY.take {D:Nat→Prop} {w:World} {p:Option Addr} {n c:Nat} {l:List aL} (h:aY D w (.slice p n c) l) {k:Nat} (hk:k≤l.length) (c':Nat) (KF:k≤c'):aY D w (.slice p k c') (l.take k):=by
 have hlen:(l.take k).length=k:=by rw[List.length_take];omega
 obtain⟨p',c2,e,h1,h2,h3,h4⟩:=h
 simp only[Value.slice.injEq] at e
 obtain⟨rfl,_,_⟩:=e
 refine⟨p,c',by rw[hlen],by omega,by omega,λx hx=>h3 x (List.mem_of_mem_take hx),?_⟩
 rcases h4 with rfl|⟨b,o,e,h5,h6,h7⟩
 · exact .inl (by simp)
 · exact .inr ⟨b,o,e,h5,h6,λj hj=>by
    have:=h7 j (by omega)
    simpa using this⟩
theorem aY.drop {D:Nat→Prop} {w:World} {b o n c:Nat} {l:List aL} (h:aY D w (.slice (some ⟨b,o,none⟩) n c) l) {k m:Nat} (hk:k≤l.length) (hm:m=l.length - k) (c':Nat) (KF:m≤c'):aY D w (.slice (some ⟨b,o+k * 5,none⟩) m c') (l.drop k):=by
 obtain⟨p',c2,e,h1,h2,h3,h4⟩:=h
 simp only[Value.slice.injEq] at e
 obtain⟨rfl,_,_⟩:=e
 have hlen:(l.drop k).length=m:=by rw[List.length_drop];omega
 refine⟨_,c',by rw[hlen],by omega,by omega,λx hx=>h3 x (List.mem_of_mem_drop hx),?_⟩
 rcases h4 with rfl|⟨b',o',e,h5,h6,h7⟩
 · exact .inl (by simp)
 · simp only[Option.some.injEq,Addr.mk.injEq,and_true] at e
   obtain⟨rfl,rfl⟩:=e;exact .inr ⟨b,_,rfl,h5,h6,λj hj=>by
    have:=h7 (k+j) (by omega);rw[show o+(k+j) * 5=o+k * 5+j * 5 by omega] at this
    simpa using this⟩
end
open Go.RowKit
theorem va4 {D D':Nat→Prop} (n r:List UInt8) (L G:List (List UInt8)) (va vor:Value) (w:World) (ha:SS D w va L) (hg:SS D' w vor G) (hn:n.length≤maxLen) (hr:r.length≤maxLen):
 Calls Tryz.prog 133 #[str n,va,str r,vor] w λe w'=>∃u,e=.returned u∧gx (λb=>D b∨D' b) w' u ⟨n,⟨false,L,r,G⟩⟩∧Below w.heap.size w w':=by
 have hE:=λW (hW:Below w.heap.size w W)=>ha.below hW zr
 have hF:=λW (hW:Below w.heap.size w W)=>hg.below hW zr
 obtain⟨p1,c1,rfl,_⟩:=ha.shape
 obtain⟨p2,c2,rfl,_⟩:=hg.shape
 have hB:=(zb w).alloc zr (.cells #[str n,.bool false,.slice p1 L.length c1,str r,.slice p2 G.length c2] 50)
 have hE:=(hE _ hB).mono (D':=λb=>D b∨D' b) λ_ h=>.inl h
 have hF:=(hF _ hB).mono (D':=λb=>D b∨D' b) λ_ h=>.inr h
 clear ha hg
 go_enter Tryz.func133,Tryz.ntmps133
 go_wp2_with fail
 refine bodyPost_ret (v:=.agg #[str n,.bool false,.slice p1 L.length c1,str r,.slice p2 G.length c2]) (by simp[results,Tryz.results133,go_sem]) rfl ?_
 exact⟨_,rfl,⟨_,_,rfl,⟨hn,hr⟩,hE,hF⟩,hB⟩
set_option maxRecDepth 8000 in
theorem ve0 {D D':Nat→Prop} (l:List aL) (x:aL) (b o c:Nat) (u:Value) (w:World) (hv:aY D w (.slice (some ⟨b,o,none⟩) l.length c) l) (hu:gx D' w u x) (hl:l.length≤1000) (hc:l.length≤c):
 Calls Tryz.prog 132 #[.slice (some ⟨b,o,none⟩) l.length c,u] w λe w'=>∃v',e=.returned v'∧aY (λb=>D b∨D' b∨w.heap.size≤b) w' v' (qX x l)∧Below w.heap.size w w':=by
 have vjt:=hv.fresh
 obtain⟨av,sv,rfl,⟨F8,mI⟩,fe,eE⟩:=hu
 have fe:=fe.fresh
 have eE:=eE.fresh
 obtain⟨pa,ca,rfl,_⟩:=fe.shape
 obtain⟨ps,cs,rfl,_⟩:=eE.shape
 have bT:=heap_alloc_new w (.cells #[str x.name,.bool x.sig.iter,.slice pa x.sig.args.length ca,str x.sig.res,.slice ps x.sig.sigs.length cs] 50)
 have hA:=(zb w).alloc zr (.cells #[str x.name,.bool x.sig.iter,.slice pa x.sig.args.length ca,str x.sig.res,.slice ps x.sig.sigs.length cs] 50)
 have HX:=zh (λW (hW:Below w.heap.size w W)=>bl.below (D:=λb=>D' b∧b<w.heap.size) hW zr (l:=[x]) ⟨_,_,[],rfl,⟨F8,mI⟩,fe,eE,rfl⟩)
 have hle:=vce x l
 have vgh:=λy i (h:l[i]? =some y) hi=>vbd (x:=x) h hi
 have vk8:=vd9 x l
 generalize van x l=N at *
 obtain⟨T1,e1⟩:∃T1,T1=l.take N:=⟨_,rfl⟩
 obtain⟨T2,e2⟩:∃T2,T2=l.drop N:=⟨_,rfl⟩
 obtain⟨vo0,e3⟩:∃vo0,vo0=T1++[x]:=⟨_,rfl⟩
 have hl1:T1.length≤1000:=by rw[e1,List.length_take];omega
 have hl2:T2.length≤1000:=by rw[e2,List.length_drop];omega
 have PC:vo0.length≤1001:=by rw[e3,List.length_append];simpa using hl1
 have LI:=zh (show qX x l=vo0++T2 by rw[vk8,e3,e1,e2];simp)
 have E3:=zh e3
 have vna:=zh e2
 have vk3:=zh (λW (hW:Below w.heap.size w W)=>e1▸(vjt.below hW zr).take hle c (by omega))
 have vkw:=zh (λW (hW:Below w.heap.size w W)=>e2▸(vjt.below hW zr).drop hle rfl (c - N) (by omega))
 clear e1 e2 e3 vk8
 generalize qX x l=R at *
 clear fe eE vjt
 go_enter Tryz.func132,Tryz.ntmps132
 go_wp2_with fail
 go_loopw [5] (λa wr=>∃i:Nat,i≤N∧a=.int .i64 i∧Below w.heap.size w wr∧wr.heap[w.heap.size]? =some (.cells #[str x.name,.bool x.sig.iter,.slice pa x.sig.args.length ca,str x.sig.res,.slice ps x.sig.sigs.length cs] 50 (0,0))) (λa _=>l.length - (intOf a).toNat)
 case atStart=>exact⟨0,Nat.zero_le _,rfl,hA,bT⟩
 case round =>
  clear hA bT;obtain⟨i,hi,rfl,hb,iu⟩:=hrel;have bx:=(bz iu).1;have SC:=bA iu;have fin:∀v6 w6,jF (λb=>¬(D b∨D' b∨w.heap.size≤b)) (w.heap.size+1) w6 v6 (vo0++T2)→aY (λb=>D b∨D' b∨w.heap.size≤b) w6 v6 R:=λv6 w6 h=>by
   rw[LI.out];exact h.x9 (λb hb=>.inr (.inr (by omega))) (λb hb=>Classical.not_not.1 hb)
  by_cases hlt:i<l.length
  case neg=>
   obtain rfl:i=l.length:=by omega
   obtain rfl:N=l.length:=by omega
   have vdm:=vk3.out _ hb.drew;obtain rfl:T2=[]:=by rw[vna.out];simp
   clear vgh;go_upto_region 2 with fail
   go_region
   go_wp2_with (first
    | (at_builtin;refine va1 _ rfl _ _ rfl (w.heap.size+1) (.slice none 0 0) [] rfl (jF.nil (λb=>¬(D b∨D' b∨w.heap.size≤b)) _ _) (.slice (some ⟨b,o,none⟩) l.length c) T1 rfl vdm (λb hb=>⟨λe=>(by cases e),λh=>h (.inl hb.1)⟩) (by simp;omega) (by show w.heap.size+1≤wr.heap.size;omega) ?_;intro v4 w4 h4 hg4 vkk;rw[List.nil_append] at h4;have hb4:=(hb.drew).grown hg4 hb.size (λk e=>by cases e);have j7:=eO hg4 iu (by simp[Value.ownBlock]);have O0:=bz j7;have vgu:=h4.below ((zb w4).alloc zr (.cells #[str x.name,.bool x.sig.iter,.slice pa x.sig.args.length ca,str x.sig.res,.slice ps x.sig.sigs.length cs] 50)) zr;have hs4:=bA j7;have vid:=aY.new (D:=λb=>(D' b∧b<w.heap.size)∨b=w4.heap.size) w4 (.inr rfl) (l:=[x]) 50 (0,0) (by unfold maxLen;simp) ((HX.out _ hb4).mono λ_ h=>.inl h);have eT:=hb4.alloc hb4.size (.cells #[str x.name,.bool x.sig.iter,.slice pa x.sig.args.length ca,str x.sig.res,.slice ps x.sig.sigs.length cs] 50);obtain⟨p4,c4,rfl⟩:=h4.shape)
    | (at_builtin;refine va1 _ rfl _ _ rfl (w.heap.size+1) (.slice p4 T1.length c4) T1 rfl vgu (.slice (some ⟨w4.heap.size,0,none⟩) 1 1) [x] rfl vid (λb hb=>⟨λe=>by have:=h4.own.lt e;rcases hb with hb|hb<;>omega,λh=>h (hb.elim (λh=>.inr (.inl h.1)) (λh=>.inr (.inr (by omega))))⟩) (by simp;omega) (by simp;omega) ?_;intro v6 w6 h6 pT vkl;rw[←E3.out] at h6;have jJ:=eT.grown pT eT.size (λk e=>Nat.le_of_succ_le (h4.own.lt e).1);obtain⟨p6,c6,rfl⟩:=h6.shape;have G7:=pT.size;simp only[World.size_alloc] at G7)
    | (at_builtin;refine va1 _ rfl _ _ rfl (w.heap.size+1) (.slice p6 vo0.length c6) vo0 rfl h6 _ [] rfl (aY.nil (λb=>D b∧b<w.heap.size) w6 _ _) (λb hb=>⟨λe=>by have:=h6.own.lt e;have:=hb.2;omega,λh=>h (.inl hb.1)⟩) (by omega) (by omega) ?_;intro vop w7 h7 KL vkm;have sB:=jJ.grown KL jJ.size (λk e=>Nat.le_of_succ_le (h6.own.lt e).1)))
   all_goals
    go_ret;exact⟨_,rfl,fin _ _ h7,sB⟩
  case pos=>
   obtain⟨y,j8⟩:∃y,l[i]? =some y:=⟨_,List.getElem?_eq_getElem hlt⟩
   obtain⟨b1,o1,av,sv,e1,_,_,_,_,c0,_⟩:=(hv.below hb zr).at j8;simp only[Option.some.injEq,Addr.mk.injEq,and_true] at e1;obtain⟨rfl,rfl⟩:=e1;obtain⟨n1,n2⟩:=vgh y i j8 hi;rcases hless:Op.bytesLess y.name x.name with _|_
   · obtain rfl:=n2 hless
     have vdm:=vk3.out _ hb.drew;have OT:=zh (λW (_:Below w.heap.size w W)=>show aY (λb=>D b∧b<w.heap.size) W (.slice (some ⟨b,o+N * 5,none⟩) (l.length - N) (c - N)) T2 from vkw.out W ‹_›);clear j8 n1 n2 vgh;go_upto_region 2 with fail
     go_region
     go_wp2_with (first
      | (at_builtin;refine va1 _ rfl _ _ rfl (w.heap.size+1) (.slice none 0 0) [] rfl (jF.nil (λb=>¬(D b∨D' b∨w.heap.size≤b)) _ _) (.slice (some ⟨b,o,none⟩) N c) T1 rfl vdm (λb hb=>⟨λe=>(by cases e),λh=>h (.inl hb.1)⟩) (by simp;omega) (by show w.heap.size+1≤wr.heap.size;omega) ?_;intro v4 w4 h4 hg4 vkk;rw[List.nil_append] at h4;have hb4:=(hb.drew).grown hg4 hb.size (λk e=>by cases e);have j7:=eO hg4 iu (by simp[Value.ownBlock]);have O0:=bz j7;have vgu:=h4.below ((zb w4).alloc zr (.cells #[str x.name,.bool x.sig.iter,.slice pa x.sig.args.length ca,str x.sig.res,.slice ps x.sig.sigs.length cs] 50)) zr;have hs4:=bA j7;have vid:=aY.new (D:=λb=>(D' b∧b<w.heap.size)∨b=w4.heap.size) w4 (.inr rfl) (l:=[x]) 50 (0,0) (by unfold maxLen;simp) ((HX.out _ hb4).mono λ_ h=>.inl h);have eT:=hb4.alloc hb4.size (.cells #[str x.name,.bool x.sig.iter,.slice pa x.sig.args.length ca,str x.sig.res,.slice ps x.sig.sigs.length cs] 50);obtain⟨p4,c4,rfl⟩:=h4.shape)
      | (at_builtin;refine va1 _ rfl _ _ rfl (w.heap.size+1) (.slice p4 T1.length c4) T1 rfl vgu (.slice (some ⟨w4.heap.size,0,none⟩) 1 1) [x] rfl vid (λb hb=>⟨λe=>by have:=h4.own.lt e;rcases hb with hb|hb<;>omega,λh=>h (hb.elim (λh=>.inr (.inl h.1)) (λh=>.inr (.inr (by omega))))⟩) (by simp;omega) (by simp;omega) ?_;intro v6 w6 h6 pT vkl;rw[←E3.out] at h6;have jJ:=eT.grown pT eT.size (λk e=>Nat.le_of_succ_le (h4.own.lt e).1);obtain⟨p6,c6,rfl⟩:=h6.shape;have G7:=pT.size;simp only[World.size_alloc] at G7;have vfq:=OT.out w6 jJ)
      | (at_builtin;refine va1 _ rfl _ _ rfl (w.heap.size+1) (.slice p6 vo0.length c6) vo0 rfl h6 _ T2 rfl vfq (λb hb=>⟨λe=>by have:=h6.own.lt e;have:=hb.2;omega,λh=>h (.inl hb.1)⟩) (by omega) (by omega) ?_;intro vop w7 h7 KL vkm;have sB:=jJ.grown KL jJ.size (λk e=>Nat.le_of_succ_le (h6.own.lt e).1)))
     go_ret;exact⟨_,rfl,fin _ _ h7,sB⟩
   · have hi':=n1 hless
     clear j8 n1 n2 vgh;go_upto_region 2 with fail
     go_region
     go_wp2_with fail;exact⟨⟨i+1,hi',by go_num,hb.drew,iu⟩,by simp only[intOf];omega⟩
set_option maxRecDepth 8000 in
theorem ves {D D':Nat→Prop} (x:aL) (p:Option Addr) (c:Nat) (u:Value) (w:World) (hu:gx D' w u x):
 Calls Tryz.prog 132 #[.slice p 0 c,u] w λe w'=>∃v',e=.returned v'∧aY (λb=>D b∨D' b∨w.heap.size≤b) w' v' [x]∧Below w.heap.size w w':=by
 obtain⟨av,sv,rfl,⟨F8,mI⟩,fe,eE⟩:=hu
 have fe:=fe.fresh
 have eE:=eE.fresh
 obtain⟨pa,ca,rfl,_⟩:=fe.shape
 obtain⟨ps,cs,rfl,_⟩:=eE.shape
 have bT:=heap_alloc_new w (.cells #[str x.name,.bool x.sig.iter,.slice pa x.sig.args.length ca,str x.sig.res,.slice ps x.sig.sigs.length cs] 50)
 have hA:=(zb w).alloc zr (.cells #[str x.name,.bool x.sig.iter,.slice pa x.sig.args.length ca,str x.sig.res,.slice ps x.sig.sigs.length cs] 50)
 have HX:=zh (λW (hW:Below w.heap.size w W)=>bl.below (D:=λb=>D' b∧b<w.heap.size) hW zr (l:=[x]) ⟨_,_,[],rfl,⟨F8,mI⟩,fe,eE,rfl⟩)
 clear fe eE
 cases p
 all_goals
  go_enter Tryz.func132,Tryz.ntmps132;go_wp2_with fail;go_loopw [5] (λa wr=>a=.int .i64 0∧Below w.heap.size w wr∧wr.heap[w.heap.size]? =some (.cells #[str x.name,.bool x.sig.iter,.slice pa x.sig.args.length ca,str x.sig.res,.slice ps x.sig.sigs.length cs] 50 (0,0))) (λa _=>0)
  case atStart=>exact⟨rfl,hA,bT⟩
  case round=>
   clear hA bT;obtain⟨rfl,hb,iu⟩:=hrel;have bx:=(bz iu).1;have SC:=bA iu;go_upto_region 2 with fail
   go_region
   go_wp2_with (first
    | (at_builtin;refine va1 _ rfl _ _ rfl (w.heap.size+1) (.slice none 0 0) [] rfl (jF.nil (λb=>¬(D b∨D' b∨w.heap.size≤b)) _ _) _ [] rfl (aY.nil (λ_=>False) _ _ _) (λb hb=>hb.elim) (by simp) (by show w.heap.size+1≤wr.heap.size;omega) ?_;intro v4 w4 h4 hg4 vkk;have hb4:=(hb.drew).grown hg4 hb.size (λk e=>by cases e);have j7:=eO hg4 iu (by simp[Value.ownBlock]);have O0:=bz j7;have vgu:=h4.below ((zb w4).alloc zr (.cells #[str x.name,.bool x.sig.iter,.slice pa x.sig.args.length ca,str x.sig.res,.slice ps x.sig.sigs.length cs] 50)) zr;have hs4:=bA j7;have vid:=aY.new (D:=λb=>(D' b∧b<w.heap.size)∨b=w4.heap.size) w4 (.inr rfl) (l:=[x]) 50 (0,0) (by unfold maxLen;simp) ((HX.out _ hb4).mono λ_ h=>.inl h);have eT:=hb4.alloc hb4.size (.cells #[str x.name,.bool x.sig.iter,.slice pa x.sig.args.length ca,str x.sig.res,.slice ps x.sig.sigs.length cs] 50);obtain⟨p4,c4,rfl⟩:=h4.shape)
    | (at_builtin;refine va1 _ rfl _ _ rfl (w.heap.size+1) (.slice p4 0 c4) [] rfl vgu (.slice (some ⟨w4.heap.size,0,none⟩) 1 1) [x] rfl vid (λb hb=>⟨λe=>by have:=h4.own.lt e;rcases hb with hb|hb<;>omega,λh=>h (hb.elim (λh=>.inr (.inl h.1)) (λh=>.inr (.inr (by omega))))⟩) (by simp) (by simp;omega) ?_;intro v6 w6 h6 pT vkl;have jJ:=eT.grown pT eT.size (λk e=>Nat.le_of_succ_le (h4.own.lt e).1);obtain⟨p6,c6,rfl⟩:=h6.shape;have G7:=pT.size;simp only[World.size_alloc] at G7)
    | (at_builtin;refine va1 _ rfl _ _ rfl (w.heap.size+1) (.slice p6 1 c6) [x] rfl h6 _ [] rfl (aY.nil (λ_=>False) _ _ _) (λb hb=>hb.elim) (by simp) (by omega) ?_;intro vop w7 h7 KL vkm;have sB:=jJ.grown KL jJ.size (λk e=>Nat.le_of_succ_le (h6.own.lt e).1)))
   all_goals
    go_ret;exact⟨_,rfl,h7.x9 (λb hb=>.inr (.inr (by omega))) (λb hb=>Classical.not_not.1 hb),sB⟩
theorem vaq {D D':Nat→Prop} (l:List aL) (x:aL) (v u:Value) (w:World) (hv:aY D w v l) (hu:gx D' w u x) (hl:l.length≤1000):
 Calls Tryz.prog 132 #[v,u] w λe w'=>∃v',e=.returned v'∧aY (λb=>D b∨D' b∨w.heap.size≤b) w' v' (qX x l)∧Below w.heap.size w w':=by
 obtain⟨p,c,rfl,hc,_⟩:=hv.shape
 by_cases h0:l=[]
 · subst h0
   exact ves x p c u w hu
 · obtain⟨b,o,_,rfl,_⟩:=hv.cells h0
   exact ve0 l x b o c u w hv hu hl hc
theorem vdp {s:bP} {t:List UInt8} (h0:t≠[]) {i:Nat} {x:List UInt8} (hx:s.args[i]? =some x) (hp:∀y∈s.args.take i,(aV y t).2=0) (hn:(aV x t).2≠0):eF s t=(.zero,(aV x t).2):=by
 have h:=uG t s.args i x hx hp hn
 unfold eF
 rw[if_neg h0,h,if_pos hn]
theorem vdq {s:bP} {t:List UInt8} (h0:t≠[]) (hp:∀y∈s.args,(aV y t).2=0) (hr:s.res=[]):eF s t=(⟨s.iter,s.args.map (λy=>(aV y t).1),[],s.sigs⟩,0):=by
 unfold eF
 rw[if_neg h0,yM t s.args hp,if_neg (by simp),if_pos hr]
theorem ver {s:bP} {t:List UInt8} (h0:t≠[]) (hp:∀y∈s.args,(aV y t).2=0) (hr:s.res≠[]) (hn:(aV s.res t).2≠0):eF s t=(.zero,(aV s.res t).2):=by
 unfold eF
 rw[if_neg h0,yM t s.args hp,if_neg (by simp),if_neg hr,if_pos hn]
theorem veq {s:bP} {t:List UInt8} (h0:t≠[]) (hp:∀y∈s.args,(aV y t).2=0) (hr:s.res≠[]) (hn:(aV s.res t).2=0):eF s t=(⟨s.iter,s.args.map (λy=>(aV y t).1),(aV s.res t).1,s.sigs⟩,0):=by
 unfold eF
 rw[if_neg h0,yM t s.args hp,if_neg (by simp),if_neg hr,if_neg (by simp[hn])]
set_option maxRecDepth 8000 in
theorem vb1 {D:Nat→Prop} (x:Value) (s:bP) (t:List UInt8) (w:World) (hx:aT D w x s) (h0:t≠[]) (ht:t.length≤maxLen) (hl:s.args.length≤100000):
 Calls Tryz.prog 135 #[x,str t] w λe w'=>∃v,e=.returned (.tuple #[v,.bool (decide ((eF s t).2=0))])∧aT (λb=>w.heap.size≤b∨D b∧b<w.heap.size) w' v (eF s t).1∧Below w.heap.size w w':=by
 obtain⟨i0,gw,hz0,hz1,hz2⟩:=bY iM
 have P1:=λi x hx hp hn=>vdp (s:=s) h0 (i:=i) (x:=x) hx hp hn
 have P2:=λhp hr=>vdq (s:=s) h0 hp hr
 have vns:=λhp hr hn=>ver (s:=s) h0 hp hr hn
 have vnt:=λhp hr hn=>veq (s:=s) h0 hp hr hn
 obtain⟨av,sv,rfl,hr,ha,hs⟩:=hx
 have vlu:=ha.fresh
 have hal:=zh ha.le
 have HS:=zh (λW (hW:Below w.heap.size w W)=>hs.fresh.below hW zr)
 obtain⟨p1,c1,rfl,_⟩:=ha.shape
 obtain⟨p2,c2,rfl,_⟩:=hs.shape
 obtain⟨it,ar,re,sg⟩:=s
 dsimp only at *
 generalize eF ⟨it,ar,re,sg⟩ t=PK at *
 have vfg:=zh (And.intro P1 (And.intro P2 (And.intro vns vnt)))
 clear P1 P2 vns vnt ha hs h0
 have HW:=λ(y:List UInt8) (hy:y.length≤maxLen) W=>ve7 y t hy ht W
 have hA:=((zb w).alloc zr (.cells #[.bool it,.slice p1 ar.length c1,str re,.slice p2 sg.length c2] 36))
 have Kg:=hA.alloc (by simp) (.cells #[.bool false,.slice none 0 0,.string ⟨#[]⟩,.slice none 0 0] 36)
 have L3:=Kg.alloc (by simp;omega) (.cells #[.bool it,.slice none 0 0,.string ⟨#[]⟩,.slice p2 sg.length c2] 36)
 have hg1:=aD (.cells #[.bool it,.slice none 0 0,.string ⟨#[]⟩,.slice p2 sg.length c2] 36) (aD (.cells #[.bool false,.slice none 0 0,.string ⟨#[]⟩,.slice none 0 0] 36) (heap_alloc_new w (.cells #[.bool it,.slice p1 ar.length c1,str re,.slice p2 sg.length c2] 36)))
 have hg2:=aD (.cells #[.bool it,.slice none 0 0,.string ⟨#[]⟩,.slice p2 sg.length c2] 36) (cI (w:=w.alloc (.cells #[.bool it,.slice p1 ar.length c1,str re,.slice p2 sg.length c2] 36)) (n:=w.heap.size+1) (by simp) #[.bool false,.slice none 0 0,.string ⟨#[]⟩,.slice none 0 0] 36)
 have hg3:=cI (w:=(w.alloc (.cells #[.bool it,.slice p1 ar.length c1,str re,.slice p2 sg.length c2] 36)).alloc (.cells #[.bool false,.slice none 0 0,.string ⟨#[]⟩,.slice none 0 0] 36)) (n:=w.heap.size+1+1) (by simp) #[.bool it,.slice none 0 0,.string ⟨#[]⟩,.slice p2 sg.length c2] 36
 go_enter Tryz.func135,Tryz.ntmps135
 go_wp2_with fail
 go_loopw [7] (λa wx=>∃i:Nat,i≤ar.length∧a=.int .i64 i∧Below w.heap.size w wx∧Hid (∀y∈ar.take i,(aV y t).2=0)∧wx.heap[w.heap.size]? =some (.cells #[.bool it,.slice p1 ar.length c1,str re,.slice p2 sg.length c2] 36 (0,0))∧wx.heap[w.heap.size+1]? =some (.cells #[.bool false,.slice none 0 0,.string ⟨#[]⟩,.slice none 0 0] 36 (0,0))∧
  ∃q,wx.heap[w.heap.size+1+1]? =some (.cells #[.bool it,q,.string ⟨#[]⟩,.slice p2 sg.length c2] 36 (0,0))∧wx.ownsRow (w.heap.size+3) 9 1 q i (aB ((ar.take i).map λy=>(aV y t).1))) (λa _=>ar.length - (intOf a).toNat)
 case atStart=>exact⟨0,Nat.zero_le _,by go_num,L3,(λy hy=>by simp at hy),hg1,hg2,.slice none 0 0,hg3,World.ownsRow_nil _ _ _ _⟩
 case round =>
  clear hA Kg L3 hg1 hg2 hg3;obtain⟨i,hi,rfl,hb,hp,hg1,hg2,q,hg3,hown⟩:=hrel;obtain⟨pq,cq,rfl⟩:=bu hown;have b1:=(aN hg1).1;have b2:=(aN hg2);have b3:=(aN hg3)
  by_cases hlt:i<ar.length
  case pos=>
   obtain⟨y,j8⟩:∃y,ar[i]? =some y:=⟨_,List.getElem?_eq_getElem hlt⟩
   obtain⟨bb,vof,rfl,_,pc⟩:=(vlu.below hb zr).at j8;have vgo:=HW y (hal.out y (List.mem_of_getElem? j8)) wr
   by_cases hz:(aV y t).2=0
   · have hT:=zh (show aB ((ar.take i).map λy=>(aV y t).1)++[str (aV y t).1]=aB ((ar.take (i+1)).map λy=>(aV y t).1) by rw[List.take_add_one,j8];simp[aB])
     have hp':Hid (∀y∈ar.take (i+1),(aV y t).2=0):=by
      intro z vko;rw[List.take_add_one,j8] at vko;rcases List.mem_append.1 vko with h|h
      · exact hp.out z h
      · simp at h;rw[h];exact hz
     rw[hz] at vgo;clear j8 hz hp;go_wp2_with (first
      | (go_at_call 35;refine vgo.mono ?_;clear vgo;rintro e w1 ⟨rfl,au⟩;have bL:=hb.trans (af au hb.size);have hg1:=ah hg1 au;have hg2:=ah hg2 au;have hg3:=ah hg3 au;have b3:=aN hg3;have vao:=ay hown au zr;have vi8:=aD (.cells #[str (aV y t).1] 9) hg3;have vmk:=aN vi8;have vjk:=aD (.cells #[str (aV y t).1] 9) hg1;have vjl:=aD (.cells #[str (aV y t).1] 9) hg2;have hs1:=bA hg3)
      | (at_builtin;refine bq _ rfl _ _ 34 rfl (w.heap.size+3) 9 i0 _ 1 16 eV gw hz0 hz1 hz2 rfl (by decide) (.slice pq i cq) i _ rfl (vao.alloc _) ⟨w1.heap.size,0,none⟩ 1 1 [str (aV y t).1] rfl rfl (cell_one_new _ _ _) (by intro u hu;rw[List.mem_singleton.1 hu];rfl) (by decide) (by unfold maxLen;omega) (by omega) (by simp;omega) ?_;intro v4 w4 bB DR vm2;obtain⟨p4,c4,rfl⟩:=bu bB;have vjp:(Value.slice pq i cq).ownBlock≠some (w.heap.size+1+1):=(λe=>by have:=(vao.lt _ e).1;omega);have vjo:(Value.slice pq i cq).ownBlock≠some (w.heap.size+1):=(λe=>by have:=(vao.lt _ e).1;omega);have vjn:(Value.slice pq i cq).ownBlock≠some (w.heap.size):=(λe=>by have:=(vao.lt _ e).1;omega);have vi7:=eO DR vi8 vjp;have vmj:=aN vi7;have vji:=eO DR vjl vjo;have vjh:=eO DR vjk vjn;have eD:=(bL.alloc bL.size (.cells #[str (aV y t).1] 9)).grown DR (by simp;omega) (λk e=>by have:=(vao.lt k e).1;omega)))
     rw[hT.out] at bB;refine⟨⟨i+1,hlt,by go_num,eD.setCell (p:=⟨w.heap.size+1+1,1,none⟩) (by simp only;omega) _,hp',(heap_setCell_other w4 ⟨w.heap.size+1+1,1,none⟩ w.heap.size _ (by simp only;omega)).trans vjh,(heap_setCell_other w4 ⟨w.heap.size+1+1,1,none⟩ (w.heap.size+1) _ (by simp only;omega)).trans vji,_,heap_setCell_same w4 _ 1 _ _ _ vi7,ownsRow_setCell_below bB (a:=⟨w.heap.size+1+1,1,none⟩) (by simp only;omega) _⟩,by simp only[intOf];omega⟩
   · obtain⟨g1,g2⟩:=bK hz
     have HP:=zh (vfg.out.1 i y j8 hp.out hz);clear j8 hp vfg;go_wp2_with (go_at_call 35;refine vgo.mono ?_;clear vgo;rintro e w1 ⟨rfl,au⟩;have bL:=hb.trans (af au hb.size);have hg2:=ah hg2 au;have b2:=aN hg2);refine bodyPost_ret (v:=.tuple #[.agg #[.bool false,.slice none 0 0,str [],.slice none 0 0],.bool false]) (by simp[results,Tryz.results135,go_sem,b2]) rfl ?_;rw[HP.out];exact⟨_,by simp[hz],aT.zero _ _,Below.ep bL (b:=w.heap.size+1) (by omega) _ _ _ _⟩
  case neg =>
   obtain rfl:i=ar.length:=by omega
   rw[List.take_length] at hown hp;obtain⟨vn3,vfh⟩:∃vn3,vn3=ar.map λy=>(aV y t).1:=⟨_,rfl⟩
   have vf2:vn3.length=ar.length:=by rw[vfh];simp
   have hss:SS (λb=>w.heap.size+3≤b) wr (.slice pq ar.length cq) vn3:=SS.row (vfh▸hown) vf2 (by intro z hz;rw[vfh] at hz;obtain⟨y,_,rfl⟩:=List.mem_map.1 hz;exact yL _ _)
   by_cases Uo:re=[]
   · have HP:=zh (vfg.out.2.1 hp.out Uo)
     rw[←vfh] at HP;have e1:re.isEmpty=true:=by rw[Uo];rfl
     have e2:(re==[])=true:=by rw[Uo];rfl
     clear vfg hp vfh vf2 Uo;go_wp2_with fail;refine bodyPost_ret (v:=.tuple #[.agg #[.bool it,.slice pq ar.length cq,str [],.slice p2 sg.length c2],.bool true]) (by simp[results,Tryz.results135,go_sem,b2]) rfl ?_;have hB:=Below.ep hb (b:=w.heap.size+1) (by omega) (.bool it) (.slice pq ar.length cq) (str []) (.slice p2 sg.length c2);rw[HP.out];exact⟨_,rfl,⟨_,_,rfl,Nat.zero_le _,(SS.ep hss (b:=w.heap.size+1) (by intro b hb;omega) _ _ _ _).mono λb hb=>.inl (by omega),(HS.out _ hB).mono λb hb=>.inr hb⟩,hB⟩
   · have e1:re.isEmpty=false:=by simpa using Uo
     have e2:(re==[])=false:=by simpa using Uo
     have vgn:=HW re hr wr
     by_cases hz:(aV re t).2=0
     · have HP:=zh (vfg.out.2.2.2 hp.out Uo hz)
       rw[←vfh] at HP;rw[hz] at vgn;clear vfg hp vfh vf2 Uo hz;go_wp2_with (go_at_call 35;refine vgn.mono ?_;clear vgn;rintro e w1 ⟨rfl,au⟩;have bL:=hb.trans (af au hb.size);have hg2:=ah hg2 au;have hg3:=ah hg3 au;have b2:=aN hg2;have b3:=aN hg3;have vjs:=hss.below au zr);refine bodyPost_ret (v:=.tuple #[.agg #[.bool it,.slice pq ar.length cq,str (aV re t).1,.slice p2 sg.length c2],.bool true]) (by simp[results,Tryz.results135,go_sem,b2]) rfl ?_;have cD:=bL.setCell (p:=⟨w.heap.size+1+1,2,none⟩) (by simp only;omega) (str (aV re t).1);have IP:=vjs.set (a:=⟨w.heap.size+1+1,2,none⟩) (by intro b hb;simp only;omega) (str (aV re t).1);have hB:=Below.ep cD (b:=w.heap.size+1) (by omega) (.bool it) (.slice pq ar.length cq) (str (aV re t).1) (.slice p2 sg.length c2);rw[HP.out];exact⟨_,rfl,⟨_,_,rfl,yL _ _,(SS.ep IP (b:=w.heap.size+1) (by intro b hb;omega) _ _ _ _).mono λb hb=>.inl (by omega),(HS.out _ hB).mono λb hb=>.inr hb⟩,hB⟩
     · obtain⟨g1,g2⟩:=bK hz
       have HP:=zh (vfg.out.2.2.1 hp.out Uo hz);clear vfg hp vfh vf2 Uo;go_wp2_with (go_at_call 35;refine vgn.mono ?_;clear vgn;rintro e w1 ⟨rfl,au⟩;have bL:=hb.trans (af au hb.size);have hg2:=ah hg2 au;have b2:=aN hg2);refine bodyPost_ret (v:=.tuple #[.agg #[.bool false,.slice none 0 0,str [],.slice none 0 0],.bool false]) (by simp[results,Tryz.results135,go_sem,b2]) rfl ?_;rw[HP.out];exact⟨_,by simp[hz],aT.zero _ _,Below.ep bL (b:=w.heap.size+1) (by omega) _ _ _ _⟩
def vgs (D:Nat→Prop) (w:World) (v:Value) (x:aL) (a:List UInt8):Prop:=
 ∃p q,v=.agg #[str x.name,.bool x.sig.iter,p,str x.sig.res,q,str a]∧qm x∧SS D w p x.sig.args∧SS D w q x.sig.sigs
theorem vir {w:World} {b:Nat} {a0 a1 a2 a3 a4 a5:Value} {t:TypeId} (h:w.heap[b]? =some (.cells #[a0,a1,a2,a3,a4,a5] t (0,0))):
 w.cell? ⟨b,0,none⟩=some a0∧w.cell? ⟨b,1,none⟩=some a1∧w.cell? ⟨b,2,none⟩=some a2∧w.cell? ⟨b,3,none⟩=some a3∧w.cell? ⟨b,4,none⟩=some a4∧w.cell? ⟨b,5,none⟩=some a5:=
 ⟨(ak h 0).trans rfl,(ak h 1).trans rfl,(ak h 2).trans rfl,(ak h 3).trans rfl,(ak h 4).trans rfl,(ak h 5).trans rfl⟩
set_option maxRecDepth 8000 in
theorem vcj {D:Nat→Prop} (v:Value) (x:aL) (a:List UInt8) (w:World) (hv:vgs D w v x a) (ha:a.length≤maxLen) (hl:x.sig.args.length≤100000):
 Calls Tryz.prog 71 #[v] w λe w'=>∃u,e=.returned (.tuple #[u,.bool (decide ((eF x.sig a).2=0))])∧aT (λb=>w.heap.size≤b∨D b∧b<w.heap.size) w' u (eF x.sig a).1∧Below w.heap.size w w':=by
 obtain⟨p,q,rfl,⟨_,hr⟩,hp,hq⟩:=hv
 have vk1:=zh (λW (hW:Below w.heap.size w W)=>hp.fresh.below hW zr)
 have vk2:=zh (λW (hW:Below w.heap.size w W)=>hq.fresh.below hW zr)
 obtain⟨p1,c1,rfl,_⟩:=hp.shape
 obtain⟨p2,c2,rfl,_⟩:=hq.shape
 have hA:=((zb w).alloc zr (.cells #[str x.name,.bool x.sig.iter,.slice p1 x.sig.args.length c1,str x.sig.res,.slice p2 x.sig.sigs.length c2,str a] 102))
 have Kg:=hA.alloc (by simp) (.cells #[.bool false,.slice none 0 0,.string ⟨#[]⟩,.slice none 0 0] 36)
 have hg1:=aD (.cells #[.bool false,.slice none 0 0,.string ⟨#[]⟩,.slice none 0 0] 36) (heap_alloc_new w (.cells #[str x.name,.bool x.sig.iter,.slice p1 x.sig.args.length c1,str x.sig.res,.slice p2 x.sig.sigs.length c2,str a] 102))
 have hg2:=cI (w:=w.alloc (.cells #[str x.name,.bool x.sig.iter,.slice p1 x.sig.args.length c1,str x.sig.res,.slice p2 x.sig.sigs.length c2,str a] 102)) (n:=w.heap.size+1) (by simp) #[.bool false,.slice none 0 0,.string ⟨#[]⟩,.slice none 0 0] 36
 have b1:=vir hg1
 have b2:=aN hg2
 clear hp hq
 by_cases h0:a=[]
 · subst h0
   have HP:=zh (show eF x.sig []=(x.sig,0) by unfold eF;rw[if_pos rfl]);go_enter Tryz.func71,Tryz.ntmps71;go_wp2_with fail;refine bodyPost_ret (v:=.tuple #[.agg #[.bool x.sig.iter,.slice p1 x.sig.args.length c1,str x.sig.res,.slice p2 x.sig.sigs.length c2],.bool true]) (by simp[results,Tryz.results71,go_sem]) rfl ?_;have hB:=hA.alloc (by simp) (.cells #[.bool x.sig.iter,.slice p1 x.sig.args.length c1,str x.sig.res,.slice p2 x.sig.sigs.length c2] 36);rw[HP.out];exact⟨_,rfl,⟨_,_,rfl,hr,(vk1.out _ hB).mono λ_ hb=>.inr hb,(vk2.out _ hB).mono λ_ hb=>.inr hb⟩,hB⟩
 · have e1:a.isEmpty=false:=by simpa using h0
   have e2:(a==[])=false:=by simpa using h0
   have HC:=vb1 (.agg #[.bool x.sig.iter,.slice p1 x.sig.args.length c1,str x.sig.res,.slice p2 x.sig.sigs.length c2]) x.sig a _ ⟨_,_,rfl,hr,vk1.out _ Kg,vk2.out _ Kg⟩ h0 ha hl;generalize eF x.sig a=PK at *;clear h0;go_enter Tryz.func71,Tryz.ntmps71;go_wp2_with (go_at_call 135;refine HC.mono ?_;clear HC;rintro e w3 ⟨u,rfl,⟨vo3,voo,rfl,voc,von,vol⟩,aH⟩;obtain⟨pu,cu,rfl,_⟩:=von.shape;obtain⟨pv,cv,rfl,_⟩:=vol.shape;have hg2:=ah hg2 aH;have b2:=aN hg2);refine bodyPost_ret (v:=.tuple #[.agg #[.bool PK.1.iter,.slice pu PK.1.args.length cu,str PK.1.res,.slice pv PK.1.sigs.length cv],.bool (decide (PK.2=0))]) (by simp[results,Tryz.results71,go_sem,b2]) rfl ?_;have hB:=Kg.trans (af aH (by simp;omega));have hne:∀b,((w.heap.size+1+1≤b)∨(D b∧b<w.heap.size)∧b<w.heap.size+1+1)→b≠w.heap.size+1:=by
    intro b hb;rcases hb with hb|hb
    · omega
    · have:=hb.1.2;omega
   simp only[World.size_alloc] at von vol;have hmo:∀b,((w.heap.size+1+1≤b)∨(D b∧b<w.heap.size)∧b<w.heap.size+1+1)→(w.heap.size≤b∨D b∧b<w.heap.size):=λb hb=>hb.elim (λh=>.inl (by omega)) λh=>.inr h.1
   exact⟨_,rfl,⟨_,_,rfl,voc,(SS.ep von (b:=w.heap.size+1) hne _ _ _ _).mono hmo,(SS.ep vol (b:=w.heap.size+1) hne _ _ _ _).mono hmo⟩,Below.ep hB (b:=w.heap.size+1) (by omega) _ _ _ _⟩
theorem vd1 {D:Nat→Prop} (v:Value) (x:aL) (a:List UInt8) (w:World) (hv:vgs D w v x a) (ha:a.length≤maxLen) (hl:x.sig.args.length≤100000):
 Calls Tryz.prog 71 #[v] w λe w'=>∃u,e=.returned (.tuple #[u,.bool (decide ((eF x.sig a).2=0))])∧aT Any w' u (eF x.sig a).1∧Below w.heap.size w w':=
 (vcj v x a w hv ha hl).mono λ_ _ ⟨u,h1,h2,h3⟩=>⟨u,h1,h2.mono λ_ _=>trivial,h3⟩
def vag (n:List UInt8) (f:aA):Bool:=f.name==n
theorem vac (l:List aA) (n:List UInt8):l.find? (vag n)=ew l n:=by
 unfold ew
 congr 1
 funext f
 unfold vag
 by_cases h:f.name=n<;>simp[h]
theorem vc5 {D:Nat→Prop} (l:List aA) (n:List UInt8) (v:Value) (w:World) (hv:bG D w v l):
 Calls Tryz.prog 95 #[v,str n] w λe w'=>e=.returned (.int .i64 (pU (vag n) l 0))∧Below w.heap.size w w':=by
 obtain⟨p,c,rfl,_,hm,_⟩:=hv.shape
 unfold maxLen at hm
 go_enter Tryz.func95,Tryz.ntmps95
 go_wp2_with fail
 go_loopw [5] (λa wr=>∃i:Nat,i≤l.length∧a=.int .i64 i∧Below w.heap.size w wr∧Hid (pU (vag n) l 0=pU (vag n) (l.drop i) i)) (λa _=>l.length - (intOf a).toNat)
 case atStart=>exact⟨0,Nat.zero_le _,rfl,zb _,rfl⟩
 case round=>
  obtain⟨i,hi,rfl,hb,hA⟩:=hrel
  by_cases hlt:i<l.length
  case neg=>
   have HX:=zh (show pU (vag n) l 0= -1 by rw[hA.out,List.drop_eq_nil_of_le (by omega)];rfl);clear hA;go_wp2_with fail;go_ret;exact⟨by rw[HX.out];rfl,hb⟩
  case pos=>
   obtain⟨x,hkx⟩:∃x,l[i]? =some x:=⟨_,List.getElem?_eq_getElem hlt⟩
   obtain⟨b1,o1,av,sv,rfl,_,hle,hN,hO,uq,pG,od,pZ,rK⟩:=(hv.below hb zr).at hkx;have hd:=hA.out;rw[bp hkx,pU] at hd;clear hA hkx;rcases hn:(x.name==n) with _|_
   · rw[show vag n x=false from hn] at hd
     have HX:=zh (hd.trans (if_neg (by simp)));clear hd;go_wp2_with fail;exact⟨⟨i+1,by omega,by go_num,hb,HX⟩,by simp only[intOf];omega⟩
   · rw[show vag n x=true from hn] at hd
     have HX:=zh (hd.trans (if_pos rfl));clear hd;go_wp2_with fail;go_ret;exact⟨by rw[HX.out];rfl,hb⟩
theorem gx.vbh {D:Nat→Prop} {w:World} {v:Value} {x:aL} (h:gx D w v x):∃p c q d,v=.agg #[str x.name,.bool x.sig.iter,.slice p x.sig.args.length c,str x.sig.res,.slice q x.sig.sigs.length d]:=by
 obtain⟨a,s,rfl,_,h1,h2⟩:=h
 obtain⟨p,c,rfl,_⟩:=h1.shape
 obtain⟨q,d,rfl,_⟩:=h2.shape
 exact⟨p,c,q,d,rfl⟩
def vay (D:Nat→Prop) (w:World) (a:List UInt8):List Value→List aL→Prop
 | cs,[]=>cs=[]
 | cs,x::l=>∃p q r,cs=str x.name::.bool x.sig.iter::p::str x.sig.res::q::str a::r∧qm x∧SS D w p x.sig.args∧SS D w q x.sig.sigs∧vay D w a r l
theorem vay.agree {D:Nat→Prop} {w w':World} {a:List UInt8} (hk:∀b,D b→b<w.heap.size→w'.heap[b]? =w.heap[b]?):∀{l:List aL} {cs:List Value},vay D w a cs l→vay D w' a cs l
 | [],_,h=>h
 | _::_,_,⟨p,q,r,h1,h0,h2,h3,h4⟩=>⟨p,q,r,h1,h0,h2.agree hk,h3.agree hk,vay.agree hk h4⟩
theorem vay.snoc {D:Nat→Prop} {w:World} {a:List UInt8} {x:aL} {p q:Value} (h0:qm x) (h2:SS D w p x.sig.args) (h3:SS D w q x.sig.sigs):∀{l:List aL} {cs:List Value},vay D w a cs l→vay D w a (cs++[str x.name,.bool x.sig.iter,p,str x.sig.res,q,str a]) (l++[x])
 | [],_,h=>by rw[show _=_ from h];exact⟨p,q,[],rfl,h0,h2,h3,rfl⟩
 | _::_,_,⟨p',q',r,h1,k0,k2,k3,k4⟩=>by subst h1;exact⟨p',q',_,rfl,k0,k2,k3,vay.snoc h0 h2 h3 k4⟩
theorem vay.get {D:Nat→Prop} {w:World} {a:List UInt8}:∀{l:List aL} {cs:List Value},vay D w a cs l→∀j (h:j<l.length),∃p q,qm l[j]∧SS D w p l[j].sig.args∧SS D w q l[j].sig.sigs∧
 cs[j * 6]? =some (str l[j].name)∧cs[j * 6+1]? =some (.bool l[j].sig.iter)∧cs[j * 6+2]? =some p∧cs[j * 6+3]? =some (str l[j].sig.res)∧cs[j * 6+4]? =some q∧cs[j * 6+5]? =some (str a)
 | [],_,_,j,h=>by simp at h
 | x::l,_,⟨p,q,r,h1,h0,h2,h3,h4⟩,j,h=>by
  subst h1;cases j with
  | zero=>exact⟨p,q,h0,h2,h3,rfl,rfl,rfl,rfl,rfl,rfl⟩
  | succ j=>
   have hj:j<l.length:=by simpa using h
   obtain⟨p',q',k0,k1,k2,k3,k4,k5,k6,k7,k8⟩:=vay.get h4 j hj;have e:(j+1) * 6=j * 6+1+1+1+1+1+1:=by omega
   refine⟨p',q',k0,k1,k2,?_⟩;rw[e];exact⟨by simpa using k3,by simpa using k4,by simpa using k5,by simpa using k6,by simpa using k7,by simpa using k8⟩
def va6 (w:World) (v:Value) (l:List aL) (a:List UInt8):Prop:=
 ∃p c,v=.slice p l.length c∧l.length≤maxLen∧(l=[]∨∃b o,p=some ⟨b,o,none⟩∧b<w.heap.size∧∀j (h:j<l.length),∃pa vok,qm l[j]∧SS Any w pa l[j].sig.args∧SS Any w vok l[j].sig.sigs∧
  w.cell? ⟨b,o+j * 6,none⟩=some (str l[j].name)∧w.cell? ⟨b,o+j * 6+1,none⟩=some (.bool l[j].sig.iter)∧w.cell? ⟨b,o+j * 6+2,none⟩=some pa∧w.cell? ⟨b,o+j * 6+3,none⟩=some (str l[j].sig.res)∧w.cell? ⟨b,o+j * 6+4,none⟩=some vok∧w.cell? ⟨b,o+j * 6+5,none⟩=some (str a))
theorem va6.shape {w:World} {v:Value} {l:List aL} {a:List UInt8} (h:va6 w v l a):∃p c,v=.slice p l.length c∧l.length≤maxLen:=by
 obtain⟨p,c,h1,h2,_⟩:=h
 exact⟨p,c,h1,h2⟩
theorem va6.nil (w:World) (p:Option Addr) (c:Nat) (a:List UInt8):va6 w (.slice p 0 c) [] a:=⟨p,c,rfl,Nat.zero_le _,.inl rfl⟩
theorem va6.at {w:World} {p:Option Addr} {n c:Nat} {l:List aL} {a:List UInt8} (h:va6 w (.slice p n c) l a) {j:Nat} {x:aL} (hj:l[j]? =some x):∃b o pa vok,p=some ⟨b,o,none⟩∧qm x∧SS Any w pa x.sig.args∧SS Any w vok x.sig.sigs∧
 w.cell? ⟨b,o+j * 6,none⟩=some (str x.name)∧w.cell? ⟨b,o+j * 6+1,none⟩=some (.bool x.sig.iter)∧w.cell? ⟨b,o+j * 6+2,none⟩=some pa∧w.cell? ⟨b,o+j * 6+3,none⟩=some (str x.sig.res)∧w.cell? ⟨b,o+j * 6+4,none⟩=some vok∧w.cell? ⟨b,o+j * 6+5,none⟩=some (str a):=by
 obtain⟨hl,e⟩:=List.getElem?_eq_some_iff.1 hj
 obtain⟨p',c',h1,_,h4⟩:=h
 injection h1 with h1
 subst h1
 rcases h4 with rfl|⟨b,o,e1,_,h6⟩
 · simp at hl
 · obtain⟨pa,vok,h7⟩:=h6 j hl
   rw[e] at h7;exact⟨b,o,pa,vok,e1,h7⟩
theorem va6.below {K:Nat} {w w':World} {v:Value} {l:List aL} {a:List UInt8} (h:va6 w v l a) (hb:Below K w w') (hK:w.heap.size≤K):va6 w' v l a:=by
 obtain⟨p,c,h1,h2,h4⟩:=h
 refine⟨p,c,h1,h2,?_⟩
 rcases h4 with h4|⟨b,o,e1,h6,h7⟩
 · exact .inl h4
 · refine .inr ⟨b,o,e1,Nat.lt_of_lt_of_le h6 hb.size,λj hj=>?_⟩
   obtain⟨pa,vok,k0,k1,k2,k3⟩:=h7 j hj;have hc:∀i,w'.cell? ⟨b,i,none⟩=w.cell? ⟨b,i,none⟩:=λi=>hb.cell (by show b<K;omega)
   exact⟨pa,vok,k0,k1.below hb hK,k2.below hb hK,by rw[hc,hc,hc,hc,hc,hc];exact k3⟩
theorem va6.bH {w:World} {base:Nat} {e:TypeId} {v:Value} {l:List aL} {cs:List Value} {a:List UInt8} {D:Nat→Prop} (h:w.ownsRow base e 6 v l.length cs) (hc:vay D w a cs l):va6 w v l a:=by
 have hlt:=λb e=>aK h (b:=b) e
 rcases h.2 with⟨rfl,h0⟩|⟨g,cap,cur,rfl,hg,hh,h1,h2,h3,h4⟩
 · have e0:l=[]:=List.length_eq_zero_iff.1 (by omega)
   subst e0;exact va6.nil _ _ _ _
 · refine⟨_,_,rfl,by omega,.inr ⟨g,0,rfl,hlt g rfl,λj hj=>?_⟩⟩
   obtain⟨p,q,k0,k1,k2,k3,k4,k5,k6,k7,k8⟩:=hc.get j hj;have hcell:∀i u,cs[i]? =some u→w.cell? ⟨g,0+i,none⟩=some u:=λi u hu=>by
    have:=h.cells (g:=g) rfl i u hu
    rwa [show(⟨g,0,none⟩:Addr).add i=⟨g,0+i,none⟩ from by unfold Addr.add;simp;omega] at this
   exact⟨p,q,k0,k1.mono λ_ _=>trivial,k2.mono λ_ _=>trivial,hcell _ _ k3,hcell _ _ k4,hcell _ _ k5,hcell _ _ k6,hcell _ _ k7,hcell _ _ k8⟩
theorem vea:Tryz.prog.underlying 99=some (.slice 102):=by kernel_rfl
theorem vfb:(Tryz.prog.info? 102).map (λi=>(i.zero,i.size,i.bytes))=some (some (.agg #[.string ⟨#[]⟩,.bool false,.slice none 0 0,.string ⟨#[]⟩,.slice none 0 0,.string ⟨#[]⟩]),6,104):=by kernel_rfl
theorem vae {a:List UInt8} (h:a.length≤maxLen):∀s∈[a],s.length≤maxLen:=by
 intro s hs
 rw[List.mem_singleton.1 hs]
 exact h
theorem vbv {a b:List UInt8} (h:a.length≤maxLen) (h2:b.length≤maxLen):∀s∈[a,b],s.length≤maxLen:=by
 intro s hs
 rcases List.mem_cons.1 hs with rfl|hs
 · exact h
 · exact vae h2 s hs
theorem vfv {a b c:List UInt8} (h:a.length≤maxLen) (h2:b.length≤maxLen) (h3:c.length≤maxLen):∀s∈[a,b,c],s.length≤maxLen:=by
 intro s hs
 rcases List.mem_cons.1 hs with rfl|hs
 · exact h
 · exact vbv h2 h3 s hs
theorem va0 {P L:List aL} (h:L=lH P) (hp:P.length≤1000):L.length≤1000:=by rw[h,vb6];exact hp
theorem va2 {B:Nat} {D:Nat→Prop} {W0 W W1 w1 w2:World} {P L L':List aL} {X:aL} {v:Value} (hH:L=lH P) (hB:Below B W0 W) (vbi:B≤W.heap.size) (lp:Below W.heap.size W W1) (au:Below W1.heap.size W1 w1) (aC:Below w1.heap.size w1 w2) (hE:L'=qX X L) (Kq:aY D w2 v L'):
 Below B W0 w2∧Below W.heap.size W w2∧aY Any w2 v L'∧Hid (L'=lH (P++[X]))∧B≤w2.heap.size:=by
 have h1:=(lp.trans (af au lp.size)).trans (af aC (Nat.le_trans lp.size au.size))
 exact⟨hB.trans (af h1 vbi),h1,Kq.mono λ_ _=>trivial,by rw[hE,hH,vab];rfl,Nat.le_trans vbi h1.size⟩
theorem va8 {D D':Nat→Prop} {l:List aL} {x:aL} {v u:Value} {w:World} (hv:aY D w v l) (hu:gx D' w u x) (hl:l.length≤1000):
 Calls Tryz.prog 132 #[v,u] w λe w'=>∃l' p c,e=.returned (.slice p l'.length c)∧Hid (l'=qX x l)∧aY (λb=>D b∨D' b∨w.heap.size≤b) w' (.slice p l'.length c) l'∧Below w.heap.size w w':=by
 refine(vaq l x v u w hv hu hl).mono ?_
 rintro e w' ⟨v',rfl,h,hb⟩
 obtain⟨p,c,rfl,_⟩:=h.shape
 exact⟨_,p,c,rfl,zh rfl,h,hb⟩
theorem vad {w W:World} {t:List UInt8} (hB:Below w.heap.size w W) (ht:t.length≤maxLen):∃L:List aL,Below w.heap.size w (W.alloc (.cells #[str t,str t] 9))∧w.heap.size≤(W.alloc (.cells #[str t,str t] 9)).heap.size∧SS Any (W.alloc (.cells #[str t,str t] 9)) (.slice (some ⟨W.heap.size,0,none⟩) 2 2) [t,t]∧
 aY Any (W.alloc (.cells #[str t,str t] 9)) (.slice none 0 0) L∧Hid (L=lH []):=
 ⟨[],hB.alloc hB.size _,Nat.le_trans hB.size (by simp),SS.new Any W trivial [t,t] 9 (0,0) (by unfold maxLen;simp) (vbv ht ht),aY.nil _ _ _ _,zh rfl⟩
def va5 (W:World) (a:List UInt8) (L:List aL) (k:Nat) (v:Value) (w:World):Prop:=Below W.heap.size W w∧∃cs,w.ownsRow W.heap.size 102 6 v k cs∧vay (λb=>b<W.heap.size) w a cs (L.take k)
theorem va5.zero (W:World) (a:List UInt8) (L:List aL):va5 W a L 0 (.slice none 0 0) W:=⟨zb _,[],World.ownsRow_nil _ _ _ _,rfl⟩
theorem va5.shape {W w:World} {a:List UInt8} {L:List aL} {k:Nat} {v:Value} (h:va5 W a L k v w):∃p c,v=.slice p k c:=by
 obtain⟨_,cs,hown,_⟩:=h
 exact bu hown
theorem va5.fin {W w:World} {a:List UInt8} {L:List aL} {v:Value} (h:va5 W a L L.length v w):va6 w v L a:=by
 obtain⟨_,cs,hown,hC⟩:=h
 rw[List.take_length] at hC
 exact va6.bH hown hC
def vgt (W:World) (L:List aL) (k:Nat) (x:aL) (p q:Value):Prop:=L[k]? =some x∧qm x∧SS (λb=>b<W.heap.size) W p x.sig.args∧SS (λb=>b<W.heap.size) W q x.sig.sigs
theorem va5.at {D:Nat→Prop} {W w:World} {a:List UInt8} {L:List aL} {k n c:Nat} {v:Value} {p:Option Addr} (h:va5 W a L k v w) (hO:aY D W (.slice p n c) L) (hlt:k<L.length):∃x b o q d r e,p=some ⟨b,o,none⟩∧vgt W L k x (.slice q x.sig.args.length d) (.slice r x.sig.sigs.length e)∧
 w.cell? ⟨b,o+k * 5,none⟩=some (str x.name)∧w.cell? ⟨b,o+k * 5+1,none⟩=some (.bool x.sig.iter)∧w.cell? ⟨b,o+k * 5+2,none⟩=some (.slice q x.sig.args.length d)∧w.cell? ⟨b,o+k * 5+3,none⟩=some (str x.sig.res)∧w.cell? ⟨b,o+k * 5+4,none⟩=some (.slice r x.sig.sigs.length e):=by
 obtain⟨x,hkx⟩:∃x,L[k]? =some x:=⟨_,List.getElem?_eq_getElem hlt⟩
 obtain⟨b1,o1,av,sv,e1,_,hle,fe,eE,d0,d1,d2,d3,d4⟩:=hO.fresh.at hkx
 obtain⟨pa,ca,rfl,_⟩:=fe.shape
 obtain⟨ps,vex,rfl,_⟩:=eE.shape
 have hb:=h.1
 exact⟨x,b1,o1,pa,ca,ps,vex,e1,⟨hkx,hle,fe.mono λ_ h=>h.2,eE.mono λ_ h=>h.2⟩,Below.keep hb d0,Below.keep hb d1,Below.keep hb d2,Below.keep hb d3,Below.keep hb d4⟩
theorem va3 {ops:Array Oper} {rest:List Oper} {o:Oper} {a:Act} {Q:Exit→Act→World→Prop} {W wr:World} {arg:List UInt8} {L:List aL} {k:Nat} {pv:Option Addr} {cv:Nat} {x:aL} {q r:Option Addr} {d e:Nat} (hR:va5 W arg L k (.slice pv k cv) wr) (hX:vgt W L k x (.slice q x.sig.args.length d) (.slice r x.sig.sigs.length e)) (hL:L.length≤1000) (s y:Operand)
 (hgd:o.guard=none) (ho:o.op=.call {callee:=.builtin .append,args:= #[s,y],argTypes:= #[99,99] }) (hs:a.eval s=.slice pv k cv) (hy:a.eval y=.slice (some ⟨wr.heap.size,0,none⟩) 1 1)
 (h:∀v w,va5 W arg L (k+1) v w→wpList Tryz.prog ops Q rest (a.put o.dst v) w):wpList Tryz.prog ops Q (o::rest) a (wr.alloc (.cells #[str x.name,.bool x.sig.iter,.slice q x.sig.args.length d,str x.sig.res,.slice r x.sig.sigs.length e,str arg] 102)):=by
 obtain⟨hb,cs,hown,hC⟩:=hR
 obtain⟨hkx,hle,fe,eE⟩:=hX
 have hlt:=(List.getElem?_eq_some_iff.1 hkx).1
 obtain⟨i0,gw,hz0,hz1,hz2⟩:=bY vfb
 have hsz:=hb.size
 refine bq _ hgd s y 99 ho W.heap.size 102 i0 _ 6 104 vea gw hz0 hz1 hz2 rfl (by decide) (.slice pv k cv) k cs hs (hown.alloc _) ⟨wr.heap.size,0,none⟩ 1 1 [str x.name,.bool x.sig.iter,.slice q x.sig.args.length d,str x.sig.res,.slice r x.sig.sigs.length e,str arg] hy rfl (gF _ _ _) (by intro u hu;simp only[List.mem_cons,List.not_mem_nil,or_false] at hu;rcases hu with rfl|rfl|rfl|rfl|rfl|rfl<;>rfl) (by decide) (by unfold maxLen;omega) (by omega) (by simp;omega) ?_
 intro v5 w5 gX hgr sF
 have eT:=(hb.alloc hsz (.cells #[str x.name,.bool x.sig.iter,.slice q x.sig.args.length d,str x.sig.res,.slice r x.sig.sigs.length e,str arg] 102)).grown hgr (by simp;omega) (λk e=>(hown.lt k e).1)
 have vlk:=vay.agree (w':=w5) (λb hbb _=>(eT.block b hbb).trans (hb.block b hbb).symm) hC
 have Um:=vlk.snoc hle (fe.below eT zr) (eE.below eT zr)
 rw[show L.take k++[x]=L.take (k+1) by rw[List.take_add_one,hkx];rfl] at Um
 exact h _ _ ⟨eT,_,gX,Um⟩
end Go.Proofs.YtakgjcfkdemipaaGreatDoor
