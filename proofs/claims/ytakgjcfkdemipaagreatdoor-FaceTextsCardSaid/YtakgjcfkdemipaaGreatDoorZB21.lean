/-
  Lemmas for the statement: contract: of the package face: (maker).ints. Conditions: bounds of lengths; the variable strings.asciiSpace.
-/
import Derived.Test.YtakgjcfkdemipaaGreatDoorZBn
import Derived.Test.YtakgjcfkdemipaaGreatDoorZB19
import Derived.Test.YtakgjcfkdemipaaGreatDoorZB20
set_option maxHeartbeats 12800000
namespace Go.Proofs.YtakgjcfkdemipaaGreatDoor
section
open Go Go.RowKit
section
variable {B:Nat} {ops:Array Oper} {h:Nat} {V:List VS} {E:List (Nat×VS)} {S:World→Prop} {k:Nat} {o:Oper}
theorem EV {x:Operand} {tys:Array TypeId} {m n c:Nat} {q:Option Addr} {p:Bool} {t:List UInt8} (ho:o.op=.call {callee:=.value (.func 238),args:= #[x],argTypes:=tys }) (hw:cO ops h V o=some true) (hk:V[k]? =some (.op (cm t)))
 (hx:aJ ops h V E o x=some (.eq (.agg #[.map (some m),.slice q n c,.bool p,str t]))) (ht:t.length≤maxLen) (hD:∀w,S w→B≤w.heap.size):bM (λb=>B≤b) Tryz.prog S ops h V E k o:=
 er ho (enters_of Tryz.func238 (by kernel_rfl) rfl) hw hk hx λv w hS h1=>by
  rw[show v=_ from h1];refine(j5 _ m _ p t w ⟨rfl,_,_,_,rfl⟩ ht).mono ?_;rintro e w' ⟨u,rfl,hu,hb⟩;exact⟨u,rfl,hu.mono λb hb=>Nat.le_trans (hD w hS) hb,hb⟩
theorem EZ {x y:Operand} {tys:Array TypeId} {r:List UInt8} {L:List (List UInt8)} (ho:o.op=.call {callee:=.value (.func 239),args:= #[x,y],argTypes:=tys }) (hw:cO ops h V o=some true) (hk:V[k]? =some (.sig ⟨false,L,r,[]⟩))
 (hx:aJ ops h V E o x=some (.eq (str r))) (hy:aJ ops h V E o y=some (.ss L)) (hr:r.length≤maxLen):bM (λb=>B≤b) Tryz.prog S ops h V E k o:=
 gu ho (enters_of Tryz.func239 (by kernel_rfl) rfl) hw hk hx hy λv v2 w hS h1 h2=>by
  obtain⟨p,c,e,_⟩:=SS.shape h2;rw[show v=_ from h1];refine(qh r v2 w ⟨p,_,c,e⟩).mono ?_;rintro e w' ⟨rfl,hb⟩;exact⟨_,rfl,⟨_,_,rfl,hr,SS.below h2 hb zr,SS.nil _ _ _ _⟩,hb⟩
theorem Jo {x y:Operand} {tys:Array TypeId} {r:List UInt8} (ho:o.op=.call {callee:=.value (.func 239),args:= #[x,y],argTypes:=tys }) (hw:cO ops h V o=some true) (hk:V[k]? =some (.sig ⟨false,[],r,[]⟩))
 (hx:aJ ops h V E o x=some (.eq (str r))) (hy:aJ ops h V E o y=some (.eq (.slice none 0 0))) (hr:r.length≤maxLen):bM (λb=>B≤b) Tryz.prog S ops h V E k o:=
 gu ho (enters_of Tryz.func239 (by kernel_rfl) rfl) hw hk hx hy λv v2 w hS h1 h2=>by
  rw[show v=_ from h1,show v2=_ from h2];refine(qh r _ w ⟨none,0,0,rfl⟩).mono ?_;rintro e w' ⟨rfl,hb⟩;exact⟨_,rfl,⟨_,_,rfl,hr,SS.nil _ _ _ _,SS.nil _ _ _ _⟩,hb⟩
theorem Lz {x y:Operand} {tys:Array TypeId} {s:bP} {g:List UInt8} (ho:o.op=.call {callee:=.value (.func 240),args:= #[x,y],argTypes:=tys }) (hw:cO ops h V o=some true) (hk:V[k]? =some (.sig ⟨s.iter,s.args,s.res,[g]⟩))
 (hx:aJ ops h V E o x=some (.sig s)) (hy:aJ ops h V E o y=some (.eq (str g))) (hg:g.length≤maxLen) (hD:∀w,S w→B≤w.heap.size):bM (λb=>B≤b) Tryz.prog S ops h V E k o:=
 gu ho (enters_of Tryz.func240 (by kernel_rfl) rfl) hw hk hx hy λv v2 w hS h1 h2=>by
  rw[show v2=_ from h2];refine(pI v s g w h1 hg).mono ?_;rintro e w' ⟨u,rfl,⟨a,q,e1,t,e2,ht⟩,hb⟩;obtain⟨a',q',e3,hr,ha,_⟩:=h1;obtain⟨rfl,_⟩:a=a'∧q=q':=by
   rw[e1] at e3
   simpa using e3
  exact⟨u,rfl,⟨a,t,e2,hr,ha.below hb zr,ht.mono λb hb=>Nat.le_trans (hD w hS) hb⟩,hb⟩
theorem EW {t:TypeId} {x y:Operand} {nm:List UInt8} {s:bP} (ho:o.op=.build t #[(0,x),(1,y)]) (ht:t=50) (hw:cO ops h V o=some true) (hk:V[k]? =some (.op ⟨nm,s⟩)) (hx:aJ ops h V E o x=some (.eq (str nm))) (hy:aJ ops h V E o y=some (.sig s)) (hl:nm.length≤maxLen):bM (λb=>B≤b) Tryz.prog S ops h V E k o:=
 oI [(x,.eq (str nm)),(y,.sig s)] hw hk (by simp[hx,hy]) λa w Q hS hi next hn=>by
  have h1:a.eval x=str nm:=hi (x,.eq (str nm)) (by simp);obtain⟨av,sv,h2,hr,ha,hs⟩:aT (λb=>B≤b) w (a.eval y) s:=hi (y,.sig s) (by simp);subst ht;unfold Oper.wp;have hrun:∀ev:Operand→Value,ev x=str nm→ev y=.agg #[.bool s.iter,av,str s.res,sv]→(execOp ev o).run Tryz.prog w=.ok (.value (.agg #[str nm,.bool s.iter,av,str s.res,sv])) w:=λev h1 h2=>by
   unfold execOp;simp[ho,h1,h2,go_sem]
  rw[hrun _ h1 h2];exact hn _ _ ⟨av,sv,rfl,⟨hl,hr⟩,ha,hs⟩ (zb _)
theorem OB {t:TypeId} {x y z:Operand} {s u g:List UInt8} (ho:o.op=.buildSlice t 3 #[(0,x),(1,y),(2,z)]) (ht:t=34) (hw:cO ops h V o=some true) (hk:V[k]? =some (.ss [s,u,g])) (hx:aJ ops h V E o x=some (.eq (str s))) (hy:aJ ops h V E o y=some (.eq (str u))) (hz:aJ ops h V E o z=some (.eq (str g))) (hl:∀q∈[s,u,g],q.length≤maxLen) (hD:∀w,S w→B≤w.heap.size):bM (λb=>B≤b) Tryz.prog S ops h V E k o:=
 oI [(x,.eq (str s)),(y,.eq (str u)),(z,.eq (str g))] hw hk (by simp[hx,hy,hz]) λa w Q hS hi next hn=>by
  have h1:a.eval x=str s:=hi (x,.eq (str s)) (by simp);have h2:a.eval y=str u:=hi (y,.eq (str u)) (by simp);have h3:a.eval z=str g:=hi (z,.eq (str g)) (by simp);subst ht;unfold Oper.wp;have hrun:∀ev:Operand→Value,ev x=str s→ev y=str u→ev z=str g→(execOp ev o).run Tryz.prog w=.ok (.value (.slice (some ⟨w.heap.size,0,none⟩) 3 3)) (w.alloc (.cells #[str s,str u,str g] 9)):=λev h1 h2 h3=>by
   unfold execOp;simp[ho,h1,h2,h3,go_sem]
  rw[hrun _ h1 h2 h3];exact hn _ _ (SS.new _ w (hD w hS) [s,u,g] 9 (0,0) (by unfold maxLen;simp) hl) ((zb w).alloc zr _)
theorem gx.cons {D:Nat→Prop} {w:World} {v:Value} {x:aL} (h:gx D w v x):∃a s,v=.agg #[str x.name,.bool x.sig.iter,a,str x.sig.res,s]∧∀l cs,bl D w cs l→bl D w (str x.name::.bool x.sig.iter::a::str x.sig.res::s::cs) (x::l):=by
 obtain⟨a,s,e,h1,h2,h3⟩:=h
 exact⟨a,s,e,λl cs hc=>⟨a,s,cs,rfl,h1,h2,h3,hc⟩⟩
theorem Jl {t:TypeId} {x1 x2 x3:Operand} {o1 o2 o3:aL} (ho:o.op=.buildSlice t 3 #[(0,x1),(1,x2),(2,x3)]) (ht:t=31) (hw:cO ops h V o=some true) (hk:V[k]? =some (.prop λw v=>cQ B w v [o1,o2,o3])) (h1:aJ ops h V E o x1=some (.op o1)) (h2:aJ ops h V E o x2=some (.op o2)) (h3:aJ ops h V E o x3=some (.op o3)) (hD:∀w,S w→B≤w.heap.size):bM (λb=>B≤b) Tryz.prog S ops h V E k o:=
 oI [(x1,.op o1),(x2,.op o2),(x3,.op o3)] hw hk (by simp[h1,h2,h3]) λa w Q hS hi next hn=>by
  obtain⟨a1,s1,e1,c1⟩:=gx.cons (show gx (λb=>B≤b) w (a.eval x1) o1 from hi (x1,.op o1) (by simp));obtain⟨a2,s2,e2,c2⟩:=gx.cons (show gx (λb=>B≤b) w (a.eval x2) o2 from hi (x2,.op o2) (by simp));obtain⟨a3,s3,e3,c3⟩:=gx.cons (show gx (λb=>B≤b) w (a.eval x3) o3 from hi (x3,.op o3) (by simp));subst ht;unfold Oper.wp;have hrun:∀ev:Operand→Value,ev x1=.agg #[str o1.name,.bool o1.sig.iter,a1,str o1.sig.res,s1]→ev x2=.agg #[str o2.name,.bool o2.sig.iter,a2,str o2.sig.res,s2]→ev x3=.agg #[str o3.name,.bool o3.sig.iter,a3,str o3.sig.res,s3]→(execOp ev o).run Tryz.prog w=.ok (.value (.slice (some ⟨w.heap.size,0,none⟩) 3 3)) (w.alloc (.cells #[str o1.name,.bool o1.sig.iter,a1,str o1.sig.res,s1,str o2.name,.bool o2.sig.iter,a2,str o2.sig.res,s2,str o3.name,.bool o3.sig.iter,a3,str o3.sig.res,s3] 50)):=λev g1 g2 g3=>by
   unfold execOp;simp[ho,g1,g2,g3,go_sem]
  rw[hrun _ e1 e2 e3];have hc:bl (λb=>B≤b) w _ [o1,o2,o3]:=c1 _ _ (c2 _ _ (c3 [] [] rfl));exact hn _ _ (λw' hb=>cQ.below (jQ (n:=3) w (hD w hS) rfl (by unfold maxLen;simp) hc) hb zr) ((zb w).alloc zr _)
theorem Jm {t:TypeId} {x1 x2 x3 x4:Operand} {o1 o2 o3 o4:aL} (ho:o.op=.buildSlice t 4 #[(0,x1),(1,x2),(2,x3),(3,x4)]) (ht:t=31) (hw:cO ops h V o=some true) (hk:V[k]? =some (.prop λw v=>cQ B w v [o1,o2,o3,o4])) (h1:aJ ops h V E o x1=some (.op o1)) (h2:aJ ops h V E o x2=some (.op o2)) (h3:aJ ops h V E o x3=some (.op o3)) (h4:aJ ops h V E o x4=some (.op o4)) (hD:∀w,S w→B≤w.heap.size):bM (λb=>B≤b) Tryz.prog S ops h V E k o:=
 oI [(x1,.op o1),(x2,.op o2),(x3,.op o3),(x4,.op o4)] hw hk (by simp[h1,h2,h3,h4]) λa w Q hS hi next hn=>by
  obtain⟨a1,s1,e1,c1⟩:=gx.cons (show gx (λb=>B≤b) w (a.eval x1) o1 from hi (x1,.op o1) (by simp));obtain⟨a2,s2,e2,c2⟩:=gx.cons (show gx (λb=>B≤b) w (a.eval x2) o2 from hi (x2,.op o2) (by simp));obtain⟨a3,s3,e3,c3⟩:=gx.cons (show gx (λb=>B≤b) w (a.eval x3) o3 from hi (x3,.op o3) (by simp));obtain⟨a4,s4,e4,c4⟩:=gx.cons (show gx (λb=>B≤b) w (a.eval x4) o4 from hi (x4,.op o4) (by simp));subst ht;unfold Oper.wp;have hrun:∀ev:Operand→Value,ev x1=.agg #[str o1.name,.bool o1.sig.iter,a1,str o1.sig.res,s1]→ev x2=.agg #[str o2.name,.bool o2.sig.iter,a2,str o2.sig.res,s2]→ev x3=.agg #[str o3.name,.bool o3.sig.iter,a3,str o3.sig.res,s3]→ev x4=.agg #[str o4.name,.bool o4.sig.iter,a4,str o4.sig.res,s4]→(execOp ev o).run Tryz.prog w=.ok (.value (.slice (some ⟨w.heap.size,0,none⟩) 4 4)) (w.alloc (.cells #[str o1.name,.bool o1.sig.iter,a1,str o1.sig.res,s1,str o2.name,.bool o2.sig.iter,a2,str o2.sig.res,s2,str o3.name,.bool o3.sig.iter,a3,str o3.sig.res,s3,str o4.name,.bool o4.sig.iter,a4,str o4.sig.res,s4] 50)):=λev g1 g2 g3 g4=>by
   unfold execOp;simp[ho,g1,g2,g3,g4,go_sem]
  rw[hrun _ e1 e2 e3 e4];have hc:bl (λb=>B≤b) w _ [o1,o2,o3,o4]:=c1 _ _ (c2 _ _ (c3 _ _ (c4 [] [] rfl)));exact hn _ _ (λw' hb=>cQ.below (jQ (n:=4) w (hD w hS) rfl (by unfold maxLen;simp) hc) hb zr) ((zb w).alloc zr _)
theorem Jn {t:TypeId} {x1 x2 x3 x4 x5 x6 x7:Operand} {o1 o2 o3 o4 o5 o6 o7:aL} (ho:o.op=.buildSlice t 7 #[(0,x1),(1,x2),(2,x3),(3,x4),(4,x5),(5,x6),(6,x7)]) (ht:t=31) (hw:cO ops h V o=some true) (hk:V[k]? =some (.prop λw v=>cQ B w v [o1,o2,o3,o4,o5,o6,o7])) (h1:aJ ops h V E o x1=some (.op o1)) (h2:aJ ops h V E o x2=some (.op o2)) (h3:aJ ops h V E o x3=some (.op o3)) (h4:aJ ops h V E o x4=some (.op o4)) (h5:aJ ops h V E o x5=some (.op o5)) (h6:aJ ops h V E o x6=some (.op o6)) (h7:aJ ops h V E o x7=some (.op o7)) (hD:∀w,S w→B≤w.heap.size):bM (λb=>B≤b) Tryz.prog S ops h V E k o:=
 oI [(x1,.op o1),(x2,.op o2),(x3,.op o3),(x4,.op o4),(x5,.op o5),(x6,.op o6),(x7,.op o7)] hw hk (by simp[h1,h2,h3,h4,h5,h6,h7]) λa w Q hS hi next hn=>by
  obtain⟨a1,s1,e1,c1⟩:=gx.cons (show gx (λb=>B≤b) w (a.eval x1) o1 from hi (x1,.op o1) (by simp));obtain⟨a2,s2,e2,c2⟩:=gx.cons (show gx (λb=>B≤b) w (a.eval x2) o2 from hi (x2,.op o2) (by simp));obtain⟨a3,s3,e3,c3⟩:=gx.cons (show gx (λb=>B≤b) w (a.eval x3) o3 from hi (x3,.op o3) (by simp));obtain⟨a4,s4,e4,c4⟩:=gx.cons (show gx (λb=>B≤b) w (a.eval x4) o4 from hi (x4,.op o4) (by simp));obtain⟨a5,s5,e5,c5⟩:=gx.cons (show gx (λb=>B≤b) w (a.eval x5) o5 from hi (x5,.op o5) (by simp));obtain⟨a6,s6,e6,c6⟩:=gx.cons (show gx (λb=>B≤b) w (a.eval x6) o6 from hi (x6,.op o6) (by simp));obtain⟨a7,s7,e7,c7⟩:=gx.cons (show gx (λb=>B≤b) w (a.eval x7) o7 from hi (x7,.op o7) (by simp));subst ht;unfold Oper.wp;have hrun:∀ev:Operand→Value,ev x1=.agg #[str o1.name,.bool o1.sig.iter,a1,str o1.sig.res,s1]→ev x2=.agg #[str o2.name,.bool o2.sig.iter,a2,str o2.sig.res,s2]→ev x3=.agg #[str o3.name,.bool o3.sig.iter,a3,str o3.sig.res,s3]→ev x4=.agg #[str o4.name,.bool o4.sig.iter,a4,str o4.sig.res,s4]→ev x5=.agg #[str o5.name,.bool o5.sig.iter,a5,str o5.sig.res,s5]→ev x6=.agg #[str o6.name,.bool o6.sig.iter,a6,str o6.sig.res,s6]→ev x7=.agg #[str o7.name,.bool o7.sig.iter,a7,str o7.sig.res,s7]→(execOp ev o).run Tryz.prog w=.ok (.value (.slice (some ⟨w.heap.size,0,none⟩) 7 7)) (w.alloc (.cells #[str o1.name,.bool o1.sig.iter,a1,str o1.sig.res,s1,str o2.name,.bool o2.sig.iter,a2,str o2.sig.res,s2,str o3.name,.bool o3.sig.iter,a3,str o3.sig.res,s3,str o4.name,.bool o4.sig.iter,a4,str o4.sig.res,s4,str o5.name,.bool o5.sig.iter,a5,str o5.sig.res,s5,str o6.name,.bool o6.sig.iter,a6,str o6.sig.res,s6,str o7.name,.bool o7.sig.iter,a7,str o7.sig.res,s7] 50)):=λev g1 g2 g3 g4 g5 g6 g7=>by
   unfold execOp;simp[ho,g1,g2,g3,g4,g5,g6,g7,go_sem]
  rw[hrun _ e1 e2 e3 e4 e5 e6 e7];have hc:bl (λb=>B≤b) w _ [o1,o2,o3,o4,o5,o6,o7]:=c1 _ _ (c2 _ _ (c3 _ _ (c4 _ _ (c5 _ _ (c6 _ _ (c7 [] [] rfl))))));exact hn _ _ (λw' hb=>cQ.below (jQ (n:=7) w (hD w hS) rfl (by unfold maxLen;simp) hc) hb zr) ((zb w).alloc zr _)
end
end
section
open Go.RowKit
theorem oy:(Tryz.prog.info? 50).map (λi=>(i.zero,i.size,i.bytes))=some (some (.agg #[.string ⟨#[]⟩,.bool false,.slice none 0 0,.string ⟨#[]⟩,.slice none 0 0]),5,88):=by kernel_rfl
theorem ja:Tryz.prog.underlying 31=some (.slice 50):=by kernel_rfl
theorem gF (w:World) (cs:List Value) (t:TypeId):∀j u,cs[j]? =some u→(w.alloc (.cells cs.toArray t)).cell? ((⟨w.heap.size,0,none⟩:Addr).add j)=some u:=by
 intro j u hu
 rw[Go.WideShapes.add_plain,Nat.zero_add]
 refine(ak (heap_alloc_new w _) j).trans ?_
 simpa using hu
set_option maxRecDepth 8000 in
theorem Ed (v : Value) (m : Nat) (nv : Value) (p : Bool) (t : List UInt8) (w : World) (hv : uM v m nv p t) (ht : t.length ≤ maxLen) :
 Calls Tryz.prog 177 #[v] w λe w'=>∃u,e=.returned u∧cQ w.heap.size w' u (([⟨[101,113,117,97,108],⟨false,[t,t],[98,111,111,108],[]⟩⟩,⟨[108,101],⟨false,[t,t],[98,111,111,108],[]⟩⟩,⟨[108,116],⟨false,[t,t],[98,111,111,108],[]⟩⟩]:List aL)++([[97,100,100],[115,117,98],[109,117,108]]:List (List UInt8)).map (λn=>(⟨n,⟨false,[t,t],t,[[111,118,101,114,102,108,111,119]]⟩⟩:aL))++([[100,105,118],[109,111,100]]:List (List UInt8)).map (λn=>(⟨n,⟨false,[t,t],t,[[122,101,114,111,100,105,118,105,100,101]]⟩⟩:aL)))∧Below w.heap.size w w':=by
 obtain⟨rfl,q,n,c,rfl⟩:=hv
 obtain⟨i0,gw,hz0,hz1,hz2⟩:=bY oy
 have bT:=heap_alloc_new w (.cells #[.map (some m),.slice q n c,.bool p,str t] 145)
 have hA:=(zb w).alloc zr (.cells #[.map (some m),.slice q n c,.bool p,str t] 145)
 go_enter Tryz.func177,Tryz.ntmps177
 go_upto_region 1 with fail
 have oN:=(aN bT).1
 refine vW (D:=λb=>w.heap.size≤b) (d:=some 3) 17 [(1,vP w.heap.size 0)] [.eq (.agg #[.map (some m),.slice q n c,.bool p,str t]),.op (cm t),vP w.heap.size 3,vT t,vP w.heap.size 3,vT t,.ss [t,t],.sig ⟨false,[t,t],[98,111,111,108],[]⟩,.op ⟨[108,101],⟨false,[t,t],[98,111,111,108],[]⟩⟩,vP w.heap.size 3,vT t,vP w.heap.size 3,vT t,.ss [t,t],.sig ⟨false,[t,t],[98,111,111,108],[]⟩,.op ⟨[108,116],⟨false,[t,t],[98,111,111,108],[]⟩⟩,.prop λw' v=>cQ w.heap.size w' v [⟨[101,113,117,97,108],⟨false,[t,t],[98,111,111,108],[]⟩⟩,⟨[108,101],⟨false,[t,t],[98,111,111,108],[]⟩⟩,⟨[108,116],⟨false,[t,t],[98,111,111,108],[]⟩⟩],.prop λw' v=>cQ w.heap.size w' v [⟨[101,113,117,97,108],⟨false,[t,t],[98,111,111,108],[]⟩⟩,⟨[108,101],⟨false,[t,t],[98,111,111,108],[]⟩⟩,⟨[108,116],⟨false,[t,t],[98,111,111,108],[]⟩⟩]] (λw'=>aZ [(⟨w.heap.size,0,none⟩,.map (some m)),(⟨w.heap.size,1,none⟩,.slice q n c),(⟨w.heap.size,2,none⟩,.bool p),(⟨w.heap.size,3,none⟩,str t)] w'∧Below w.heap.size w w'∧w'.heap[w.heap.size]? =some (.cells #[.map (some m),.slice q n c,.bool p,str t] 145 (0,0))) (by kernel_rfl) rfl rfl (λ_ _ h hb=>⟨h.1.below hb,h.2.1.trans (af hb h.2.1.size),ah h.2.2 hb⟩) ⟨b9 oN.1 (b9 oN.2.1 (b9 oN.2.2.1 (b9 oN.2.2.2 gy))),hA.drew,bT⟩ ⟨rfl,trivial⟩ ?_ ?_
 · iterate 18
    refine And.intro ?_ ?_
    · first
      | exact oe rfl rfl (by kernel_rfl)
      | exact gN rfl (by kernel_rfl) rfl rfl (λw=>by simp[go_sem])
      | exact gv rfl (by kernel_rfl) rfl rfl (λw h=>by simp[go_sem,h.1.get 0 rfl,h.1.get 1 rfl,h.1.get 2 rfl,h.1.get 3 rfl])
      | exact EV rfl (by kernel_rfl) rfl rfl ht λ_ h=>h.2.1.size
      | exact Bz rfl rfl (by kernel_rfl) rfl rfl rfl (by first|exact ht|simp[maxLen]) (by first|exact ht|simp[maxLen]) λ_ h=>h.2.1.size
      | exact EZ rfl (by kernel_rfl) rfl rfl rfl (by first|exact ht|simp[maxLen])
      | exact EW rfl rfl (by kernel_rfl) rfl rfl rfl (by simp[maxLen])
      | exact Jl rfl rfl (by kernel_rfl) rfl rfl rfl rfl λ_ h=>h.2.1.size
   exact trivial
 · intro x u wx hS fM hown
   have hown:=hown wx (zb _);obtain⟨p2,c2,rfl⟩:=hown.shape;simp only[pq,pz,pw];generalize x.tmps.getD 8 undef=y8;generalize x.tmps.getD 9 undef=y9;generalize x.tmps.getD 10 undef=y10;generalize x.tmps.getD 11 undef=y11;generalize x.tmps.getD 12 undef=y12;generalize x.tmps.getD 13 undef=y13;generalize x.tmps.getD 14 undef=y14;generalize x.tmps.getD 15 undef=y15;generalize x.tmps.getD 16 undef=y16;generalize x.tmps.getD 17 undef=y17;generalize x.tmps.getD 18 undef=y18;generalize x.tmps.getD 19 undef=y19;generalize x.tmps.getD 20 undef=y20;generalize x.tmps.getD 21 undef=y21;generalize x.tmps.getD 22 undef=y22;generalize x.tmps.getD 23 undef=y23;generalize x.tmps.getD 24 undef=y24;have iu:=hS.2.2;have hB:=hS.2.1;clear fM oN;have hss:=trivial;have hne:=trivial;clear hS;have hle2:=hB.size;have mH:=hown.below ((zb wx).alloc zr (.cells #[str [97,100,100],str [115,117,98],str [109,117,108]] 9)) zr;have DO:=aD (.cells #[str [97,100,100],str [115,117,98],str [109,117,108]] 9) iu;have D3:SS (λb=>b=wx.heap.size) (wx.alloc (.cells #[str [97,100,100],str [115,117,98],str [109,117,108]] 9)) (.slice (some ⟨wx.heap.size,0,none⟩) 3 3) ([[97,100,100],[115,117,98],[109,117,108]]:List (List UInt8)):=SS.new (λb=>b=wx.heap.size) wx rfl ([[97,100,100],[115,117,98],[109,117,108]]:List (List UInt8)) 9 (0,0) (by unfold maxLen;simp) (by intro s hs;simp only[List.mem_cons,List.not_mem_nil,or_false] at hs;rcases hs with rfl|rfl|rfl<;>simp[maxLen]);have FO:=hB.alloc hle2 (.cells #[str [97,100,100],str [115,117,98],str [109,117,108]] 9);have DT:∀b,(Value.slice p2 _ c2).ownBlock=some b→b≠wx.heap.size:=λb hb=>by obtain⟨cs,hcs,_⟩:=hown;have:=aK hcs hb;omega
   clear hown iu hss hB hne;go_wp2_with fail;generalize RD:wx.heap.size=NB27 at *;generalize wx.alloc (.cells #[str [97,100,100],str [115,117,98],str [109,117,108]] 9)=WA at *;have hown:=mH;have iu:=DO;have hss:=D3;have hB:=FO;have hne:=DT;clear mH DO D3 FO DT;go_loopw [3,27] (λv y wx=>∃i:Nat,i≤3∧y=.int .i64 i∧cQ w.heap.size wx v (([⟨[101,113,117,97,108],⟨false,[t,t],[98,111,111,108],[]⟩⟩,⟨[108,101],⟨false,[t,t],[98,111,111,108],[]⟩⟩,⟨[108,116],⟨false,[t,t],[98,111,111,108],[]⟩⟩]:List aL)++(([[97,100,100],[115,117,98],[109,117,108]]:List (List UInt8)).take i).map (λn=>(⟨n,⟨false,[t,t],t,[[111,118,101,114,102,108,111,119]]⟩⟩:aL)))∧wx.heap[w.heap.size]? =some (.cells #[.map (some m),.slice q n c,.bool p,str t] 145 (0,0))∧SS (λb=>b=NB27) wx (.slice (some ⟨NB27,0,none⟩) 3 3) ([[97,100,100],[115,117,98],[109,117,108]]:List (List UInt8))∧Below w.heap.size w wx∧∀b,v.ownBlock=some b→b≠NB27) (λ_ y _=>3 - (intOf y).toNat)
   case atStart=>exact⟨0,by omega,by go_num,by simpa using hown,iu,hss,hB,hne⟩
   case round =>
    clear hown iu hss hB hne;obtain⟨i,hi,rfl,hown,iu,hss,hB,hne⟩:=hrel;obtain⟨pv,cv,rfl⟩:=hown.shape
    by_cases hlt:i<3
    case neg=>
     have hie:i=3:=by omega
     subst hie;rw[show List.take 3 ([[97,100,100],[115,117,98],[109,117,108]]:List (List UInt8))=([[97,100,100],[115,117,98],[109,117,108]]:List (List UInt8)) from rfl] at hown;simp only[show((3:Nat):Int)=3 from rfl];have hle2:=hB.size;have mH:=hown.below ((zb wr).alloc zr (.cells #[str [100,105,118],str [109,111,100]] 9)) zr;have DO:=aD (.cells #[str [100,105,118],str [109,111,100]] 9) iu;have D3:SS (λb=>b=wr.heap.size) (wr.alloc (.cells #[str [100,105,118],str [109,111,100]] 9)) (.slice (some ⟨wr.heap.size,0,none⟩) 2 2) ([[100,105,118],[109,111,100]]:List (List UInt8)):=SS.new (λb=>b=wr.heap.size) wr rfl ([[100,105,118],[109,111,100]]:List (List UInt8)) 9 (0,0) (by unfold maxLen;simp) (by intro s hs;simp only[List.mem_cons,List.not_mem_nil,or_false] at hs;rcases hs with rfl|rfl<;>simp[maxLen]);have FO:=hB.alloc hle2 (.cells #[str [100,105,118],str [109,111,100]] 9);have DT:∀b,(Value.slice pv _ cv).ownBlock=some b→b≠wr.heap.size:=λb hb=>by obtain⟨cs,hcs,_⟩:=hown;have:=aK hcs hb;omega
     clear hown iu hss hB hne;go_wp2_with fail;generalize RD:wr.heap.size=NB48 at *;generalize wr.alloc (.cells #[str [100,105,118],str [109,111,100]] 9)=WB at *;have hown:=mH;have iu:=DO;have hss:=D3;have hB:=FO;have hne:=DT;clear mH DO D3 FO DT;go_loopw [3,48] (λv y wx=>∃i:Nat,i≤2∧y=.int .i64 i∧cQ w.heap.size wx v ((([⟨[101,113,117,97,108],⟨false,[t,t],[98,111,111,108],[]⟩⟩,⟨[108,101],⟨false,[t,t],[98,111,111,108],[]⟩⟩,⟨[108,116],⟨false,[t,t],[98,111,111,108],[]⟩⟩]:List aL)++([[97,100,100],[115,117,98],[109,117,108]]:List (List UInt8)).map (λn=>(⟨n,⟨false,[t,t],t,[[111,118,101,114,102,108,111,119]]⟩⟩:aL)))++(([[100,105,118],[109,111,100]]:List (List UInt8)).take i).map (λn=>(⟨n,⟨false,[t,t],t,[[122,101,114,111,100,105,118,105,100,101]]⟩⟩:aL)))∧wx.heap[w.heap.size]? =some (.cells #[.map (some m),.slice q n c,.bool p,str t] 145 (0,0))∧SS (λb=>b=NB48) wx (.slice (some ⟨NB48,0,none⟩) 2 2) ([[100,105,118],[109,111,100]]:List (List UInt8))∧Below w.heap.size w wx∧∀b,v.ownBlock=some b→b≠NB48) (λ_ y _=>2 - (intOf y).toNat)
     case atStart=>exact⟨0,by omega,by go_num,by simpa using hown,iu,hss,hB,hne⟩
     case round=>
      clear hown iu hss hB hne;obtain⟨i,hi,rfl,hown,iu,hss,hB,hne⟩:=hrel;obtain⟨pv,cv,rfl⟩:=hown.shape
      by_cases hlt:i<2
      case neg=>
       have hie:i=2:=by omega
       subst hie;rw[show List.take 2 ([[100,105,118],[109,111,100]]:List (List UInt8))=([[100,105,118],[109,111,100]]:List (List UInt8)) from rfl] at hown;simp only[show((2:Nat):Int)=2 from rfl];go_wp2_with fail;go_ret;exact⟨_,rfl,hown,hB⟩
      case pos=>
       obtain⟨nm,hnm⟩:∃nm,([[100,105,118],[109,111,100]]:List (List UInt8))[i]? =some nm:=⟨_,List.getElem?_eq_getElem hlt⟩
       have hnl:nm.length≤maxLen:=hss.le nm (List.mem_of_getElem? hnm);obtain⟨b1,o1,mq,_,GY⟩:=hss.at hnm;have hle:=hB.size;have RY:=(aN iu).1;have hT:=zh (show((([⟨[101,113,117,97,108],⟨false,[t,t],[98,111,111,108],[]⟩⟩,⟨[108,101],⟨false,[t,t],[98,111,111,108],[]⟩⟩,⟨[108,116],⟨false,[t,t],[98,111,111,108],[]⟩⟩]:List aL)++([[97,100,100],[115,117,98],[109,117,108]]:List (List UInt8)).map (λn=>(⟨n,⟨false,[t,t],t,[[111,118,101,114,102,108,111,119]]⟩⟩:aL)))++(([[100,105,118],[109,111,100]]:List (List UInt8)).take i).map (λn=>(⟨n,⟨false,[t,t],t,[[122,101,114,111,100,105,118,105,100,101]]⟩⟩:aL)))++[(λn=>(⟨n,⟨false,[t,t],t,[[122,101,114,111,100,105,118,105,100,101]]⟩⟩:aL)) nm]=(([⟨[101,113,117,97,108],⟨false,[t,t],[98,111,111,108],[]⟩⟩,⟨[108,101],⟨false,[t,t],[98,111,111,108],[]⟩⟩,⟨[108,116],⟨false,[t,t],[98,111,111,108],[]⟩⟩]:List aL)++([[97,100,100],[115,117,98],[109,117,108]]:List (List UInt8)).map (λn=>(⟨n,⟨false,[t,t],t,[[111,118,101,114,102,108,111,119]]⟩⟩:aL)))++(([[100,105,118],[109,111,100]]:List (List UInt8)).take (i+1)).map (λn=>(⟨n,⟨false,[t,t],t,[[122,101,114,111,100,105,118,105,100,101]]⟩⟩:aL)) by rw[List.append_assoc,List.take_add_one,hnm];simp);have hlen:((([⟨[101,113,117,97,108],⟨false,[t,t],[98,111,111,108],[]⟩⟩,⟨[108,101],⟨false,[t,t],[98,111,111,108],[]⟩⟩,⟨[108,116],⟨false,[t,t],[98,111,111,108],[]⟩⟩]:List aL)++([[97,100,100],[115,117,98],[109,117,108]]:List (List UInt8)).map (λn=>(⟨n,⟨false,[t,t],t,[[111,118,101,114,102,108,111,119]]⟩⟩:aL)))++(([[100,105,118],[109,111,100]]:List (List UInt8)).take i).map (λn=>(⟨n,⟨false,[t,t],t,[[122,101,114,111,100,105,118,105,100,101]]⟩⟩:aL))).length≤20:=by simp;omega
       generalize ((([⟨[101,113,117,97,108],⟨false,[t,t],[98,111,111,108],[]⟩⟩,⟨[108,101],⟨false,[t,t],[98,111,111,108],[]⟩⟩,⟨[108,116],⟨false,[t,t],[98,111,111,108],[]⟩⟩]:List aL)++([[97,100,100],[115,117,98],[109,117,108]]:List (List UInt8)).map (λn=>(⟨n,⟨false,[t,t],t,[[111,118,101,114,102,108,111,119]]⟩⟩:aL)))++(([[100,105,118],[109,111,100]]:List (List UInt8)).take i).map (λn=>(⟨n,⟨false,[t,t],t,[[122,101,114,111,100,105,118,105,100,101]]⟩⟩:aL)))=L at *;obtain⟨cs,hcs,hC⟩:=hown;injection mq with mq;injection mq with au aC;subst au aC;have aI:SS (λb=>wr.heap.size≤b) (wr.alloc (.cells #[str t,str t] 9)) (.slice (some ⟨wr.heap.size,0,none⟩) 2 2) [t,t]:=SS.new _ wr zr [t,t] 9 (0,0) (by unfold maxLen;simp) (AH ht ht);have cD:=hB.alloc hle (.cells #[str t,str t] 9);have Iz:=hcs.alloc (.cells #[str t,str t] 9);have DB:=hC.below ((zb wr).alloc zr (.cells #[str t,str t] 9)) zr;have fS:=aD (.cells #[str t,str t] 9) iu;have IP:=hss.below ((zb wr).alloc zr (.cells #[str t,str t] 9)) zr;rw[Nat.zero_add] at GY;clear hnm;go_wp2_with (first
        | (at_builtin;refine bq (w4.alloc (.cells #[str nm,.bool false,.slice px 2 ca,str t,.slice py 1 cb] 50)) rfl _ _ 31 rfl w.heap.size 50 i0 _ 5 88 ja gw hz0 hz1 hz2 rfl (by decide) _ _ cs rfl (sC.alloc _) ⟨w4.heap.size,0,none⟩ 1 1 [str nm,.bool false,.slice px 2 ca,str t,.slice py 1 cb] rfl rfl (gF _ _ _) (by intro u hu;simp only[List.mem_cons,List.not_mem_nil,or_false] at hu;rcases hu with rfl|rfl|rfl|rfl|rfl<;>rfl) (by decide) (by unfold maxLen;omega) (by omega) (Nat.le_trans eD.size (by simp)) ?_;intro v' w5 gX hgr sF)
        | (go_at_call 240;refine(pJ _ ⟨false,[t,t],t,[]⟩ [122,101,114,111,100,105,118,105,100,101] _ Of (by simp[maxLen]) (λb hb=>show wr.heap.size≤b by have:=aH.size;simp at this;omega)).mono ?_;rintro e w4 ⟨u4,rfl,⟨a4,q4,rfl,l4,r4,s4⟩,hb4⟩;obtain⟨px,ca,hpx,_⟩:=r4.shape;obtain⟨py,cb,JR,_⟩:=s4.shape;subst hpx JR;have sC:=ay BU hb4 zr;have Ki:=Kh.below hb4 zr;have j7:=ah fW hb4;have IU:=IQ.below hb4 zr;have eD:=dx.trans (af hb4 dx.size))
        | (go_at_call 239;refine(kD _ [t,t] _ _ aI ht).mono ?_;rintro e w3 ⟨u3,rfl,Of,aH⟩;have BU:=ay Iz aH zr;have Kh:=DB.below aH zr;have fW:=ah fS aH;have IQ:=IP.below aH zr;have dx:=cD.trans (af aH cD.size)))
       obtain⟨MX,MY,Kf,MZ⟩:=yb (x:=⟨nm,⟨false,[t,t],t,[[122,101,114,111,100,105,118,105,100,101]]⟩⟩) _ eD sC Ki ⟨_,_,[],rfl,⟨hnl,l4⟩,r4.mono (λb hb e=>absurd (aK hcs e) (by omega)),s4.mono (λb hb e=>absurd (aK hcs e) (by omega)),rfl⟩ gX hgr sF;have Pg:NB48<w4.heap.size:=Nat.lt_of_lt_of_le (AV GY) (by have:=aH.size;have:=hb4.size;simp at *;omega);refine⟨⟨i+1,hlt,by go_num,hT.out▸MX,(Kf _ (bA j7) (uz sC j7 (by decide))).trans j7,IU.agree (λb hb hlt=>by subst hb;exact Kf _ hlt (λe=>hne _ e rfl)),MY,λb hb e=>?_⟩,by simp only[intOf];omega⟩;subst e;rcases MZ _ hb with h|h
       · exact hne _ h rfl
       · omega
    case pos=>
     obtain⟨nm,hnm⟩:∃nm,([[97,100,100],[115,117,98],[109,117,108]]:List (List UInt8))[i]? =some nm:=⟨_,List.getElem?_eq_getElem hlt⟩
     have hnl:nm.length≤maxLen:=hss.le nm (List.mem_of_getElem? hnm);obtain⟨b1,o1,mq,_,GY⟩:=hss.at hnm;have hle:=hB.size;have RY:=(aN iu).1;have hT:=zh (show(([⟨[101,113,117,97,108],⟨false,[t,t],[98,111,111,108],[]⟩⟩,⟨[108,101],⟨false,[t,t],[98,111,111,108],[]⟩⟩,⟨[108,116],⟨false,[t,t],[98,111,111,108],[]⟩⟩]:List aL)++(([[97,100,100],[115,117,98],[109,117,108]]:List (List UInt8)).take i).map (λn=>(⟨n,⟨false,[t,t],t,[[111,118,101,114,102,108,111,119]]⟩⟩:aL)))++[(λn=>(⟨n,⟨false,[t,t],t,[[111,118,101,114,102,108,111,119]]⟩⟩:aL)) nm]=([⟨[101,113,117,97,108],⟨false,[t,t],[98,111,111,108],[]⟩⟩,⟨[108,101],⟨false,[t,t],[98,111,111,108],[]⟩⟩,⟨[108,116],⟨false,[t,t],[98,111,111,108],[]⟩⟩]:List aL)++(([[97,100,100],[115,117,98],[109,117,108]]:List (List UInt8)).take (i+1)).map (λn=>(⟨n,⟨false,[t,t],t,[[111,118,101,114,102,108,111,119]]⟩⟩:aL)) by rw[List.append_assoc,List.take_add_one,hnm];simp);have hlen:(([⟨[101,113,117,97,108],⟨false,[t,t],[98,111,111,108],[]⟩⟩,⟨[108,101],⟨false,[t,t],[98,111,111,108],[]⟩⟩,⟨[108,116],⟨false,[t,t],[98,111,111,108],[]⟩⟩]:List aL)++(([[97,100,100],[115,117,98],[109,117,108]]:List (List UInt8)).take i).map (λn=>(⟨n,⟨false,[t,t],t,[[111,118,101,114,102,108,111,119]]⟩⟩:aL))).length≤20:=by simp;omega
     generalize (([⟨[101,113,117,97,108],⟨false,[t,t],[98,111,111,108],[]⟩⟩,⟨[108,101],⟨false,[t,t],[98,111,111,108],[]⟩⟩,⟨[108,116],⟨false,[t,t],[98,111,111,108],[]⟩⟩]:List aL)++(([[97,100,100],[115,117,98],[109,117,108]]:List (List UInt8)).take i).map (λn=>(⟨n,⟨false,[t,t],t,[[111,118,101,114,102,108,111,119]]⟩⟩:aL)))=L at *;obtain⟨cs,hcs,hC⟩:=hown;injection mq with mq;injection mq with au aC;subst au aC;have aI:SS (λb=>wr.heap.size≤b) (wr.alloc (.cells #[str t,str t] 9)) (.slice (some ⟨wr.heap.size,0,none⟩) 2 2) [t,t]:=SS.new _ wr zr [t,t] 9 (0,0) (by unfold maxLen;simp) (AH ht ht);have cD:=hB.alloc hle (.cells #[str t,str t] 9);have Iz:=hcs.alloc (.cells #[str t,str t] 9);have DB:=hC.below ((zb wr).alloc zr (.cells #[str t,str t] 9)) zr;have fS:=aD (.cells #[str t,str t] 9) iu;have IP:=hss.below ((zb wr).alloc zr (.cells #[str t,str t] 9)) zr;rw[Nat.zero_add] at GY;clear hnm;go_wp2_with (first
      | (at_builtin;refine bq (w4.alloc (.cells #[str nm,.bool false,.slice px 2 ca,str t,.slice py 1 cb] 50)) rfl _ _ 31 rfl w.heap.size 50 i0 _ 5 88 ja gw hz0 hz1 hz2 rfl (by decide) _ _ cs rfl (sC.alloc _) ⟨w4.heap.size,0,none⟩ 1 1 [str nm,.bool false,.slice px 2 ca,str t,.slice py 1 cb] rfl rfl (gF _ _ _) (by intro u hu;simp only[List.mem_cons,List.not_mem_nil,or_false] at hu;rcases hu with rfl|rfl|rfl|rfl|rfl<;>rfl) (by decide) (by unfold maxLen;omega) (by omega) (Nat.le_trans eD.size (by simp)) ?_;intro v' w5 gX hgr sF)
      | (go_at_call 240;refine(pJ _ ⟨false,[t,t],t,[]⟩ [111,118,101,114,102,108,111,119] _ Of (by simp[maxLen]) (λb hb=>show wr.heap.size≤b by have:=aH.size;simp at this;omega)).mono ?_;rintro e w4 ⟨u4,rfl,⟨a4,q4,rfl,l4,r4,s4⟩,hb4⟩;obtain⟨px,ca,hpx,_⟩:=r4.shape;obtain⟨py,cb,JR,_⟩:=s4.shape;subst hpx JR;have sC:=ay BU hb4 zr;have Ki:=Kh.below hb4 zr;have j7:=ah fW hb4;have IU:=IQ.below hb4 zr;have eD:=dx.trans (af hb4 dx.size))
      | (go_at_call 239;refine(kD _ [t,t] _ _ aI ht).mono ?_;rintro e w3 ⟨u3,rfl,Of,aH⟩;have BU:=ay Iz aH zr;have Kh:=DB.below aH zr;have fW:=ah fS aH;have IQ:=IP.below aH zr;have dx:=cD.trans (af aH cD.size)))
     obtain⟨MX,MY,Kf,MZ⟩:=yb (x:=⟨nm,⟨false,[t,t],t,[[111,118,101,114,102,108,111,119]]⟩⟩) _ eD sC Ki ⟨_,_,[],rfl,⟨hnl,l4⟩,r4.mono (λb hb e=>absurd (aK hcs e) (by omega)),s4.mono (λb hb e=>absurd (aK hcs e) (by omega)),rfl⟩ gX hgr sF;have Pg:NB27<w4.heap.size:=Nat.lt_of_lt_of_le (AV GY) (by have:=aH.size;have:=hb4.size;simp at *;omega);refine⟨⟨i+1,hlt,by go_num,hT.out▸MX,(Kf _ (bA j7) (uz sC j7 (by decide))).trans j7,IU.agree (λb hb hlt=>by subst hb;exact Kf _ hlt (λe=>hne _ e rfl)),MY,λb hb e=>?_⟩,by simp only[intOf];omega⟩;subst e;rcases MZ _ hb with h|h
     · exact hne _ h rfl
     · omega
def mj (D:Nat→Prop) (B:Nat) (w:World) (v:Value) (l:List aL):Prop:=∃cs,w.ownsRow B 50 5 v l.length cs∧bl D w cs l
theorem mj.below {D:Nat→Prop} {B K:Nat} {w w':World} {v:Value} {l:List aL} (h:mj D B w v l) (hb:Below K w w') (hK:w.heap.size≤K):mj D B w' v l:=by
 obtain⟨cs,h1,h2⟩:=h
 exact⟨cs,ay h1 hb hK,h2.below hb hK⟩
theorem mj.shape {D:Nat→Prop} {B:Nat} {w:World} {v:Value} {l:List aL} (h:mj D B w v l):∃p c,v=.slice p l.length c:=by
 obtain⟨cs,h1,_⟩:=h
 exact bu h1
theorem yz {D:Nat→Prop} {B n:Nat} (w:World) (hB:B≤w.heap.size) {l:List aL} {cs:List Value} (hn:l.length=n) (hm:n≤maxLen) (hc:bl D w cs l):mj D B (w.alloc (.cells cs.toArray 50)) (.slice (some ⟨w.heap.size,0,none⟩) n n) l:=by
 subst hn
 have hb:=(zb w).alloc zr (.cells cs.toArray 50)
 exact⟨cs,⟨hc.length,.inr ⟨w.heap.size,l.length,cs.toArray,rfl,hB,heap_alloc_new w _,nl _,hm,by simpa using hc.length,by rw[←hc.length];simp⟩⟩,hc.below hb zr⟩
theorem cQ.lt {B:Nat} {w:World} {v:Value} {l:List aL} (h:cQ B w v l) {b:Nat} (hb:v.ownBlock=some b):B≤b∧b<w.heap.size:=by
 obtain⟨cs,h1,_⟩:=h
 exact h1.lt b hb
theorem cQ.mono {B B':Nat} {w:World} {v:Value} {l:List aL} (h:cQ B w v l) (hB:B'≤B):cQ B' w v l:=by
 obtain⟨cs,⟨h1,h2⟩,h3⟩:=h
 refine⟨cs,⟨h1,?_⟩,h3⟩
 rcases h2 with h2|⟨g,cap,cur,e,h2,h4⟩
 · exact .inl h2
 · exact .inr ⟨g,cap,cur,e,Nat.le_trans hB h2,h4⟩
theorem dX {w:World} {b:Nat} {a0 a1:Value} {t:TypeId} (h:w.heap[b]? =some (.cells #[a0,a1] t (0,0))):w.cell? ⟨b,0,none⟩=some a0∧w.cell? ⟨b,1,none⟩=some a1:=
 ⟨(ak h 0).trans rfl,(ak h 1).trans rfl⟩
theorem sQ {o:Oper} {a:Act} {w:World} {K:Act→World→Prop} {Q:Exit→Act→World→Prop} (s x:Operand)
 (ho:o.op=.call {callee:=.builtin .append,args:= #[s,x],argTypes:= #[31,31] }) {B B':Nat} {D:Nat→Prop} {v y:Value} {L k:List aL}
 (hs:a.eval s=v) (hx:a.eval x=y) (hv:cQ B w v L) (hy:mj D B' w y k) (hk:0<k.length) (hD:∀b,D b→v.ownBlock≠some b) (hm:L.length+k.length≤1000) (hB:B≤w.heap.size)
 (h:∀v' w',cQ B w' v' (L++k)→Below B w w'→K (a.put o.dst v') w'):Oper.wp Tryz.prog o a w K Q:=by
 obtain⟨i0,gw,hz0,hz1,hz2⟩:=bY oy
 obtain⟨cs,hcs,hC⟩:=hv
 obtain⟨ds,hy1,hy2⟩:=hy
 rcases hy1.2 with⟨_,h0⟩|⟨g,cap,cur,rfl,_⟩
 · omega
 · have hmx:L.length+k.length≤maxLen:=by unfold maxLen;omega
   obtain⟨v',w',hr,h2,h3,h4⟩:=fR (P:=Tryz.prog) w B 31 o.type 50 i0 _ 5 88 ja gw hz0 hz1 hz2 rfl (by decide) v L.length cs hcs ⟨g,0,none⟩ k.length cap ds hy1.1 (λj u hj=>hy1.cells (g:=g) rfl j u hj) hy2.one_cell hk hmx (by omega) hB;unfold Oper.wp execOp;simp only[ho,resolve,invoke,builtin,Sem.run_bind,Sem.run_pure,Result.andThen_ok,List.map_toArray,List.map_cons,List.map_nil,hs,hx,hr];refine h v' w' ?_ ((zb w).grown h3 hB (λb e=>(hcs.lt b e).1) |> λz=>af z zr);exact cQ.append hC (hy2.mono hD) h2 h3 h4
def jF (X:Nat→Prop) (B:Nat) (w:World) (v:Value) (l:List aL):Prop:=∃cs,w.ownsRow B 50 5 v l.length cs∧bl (λb=>v.ownBlock≠some b∧¬X b) w cs l
theorem jF.own {X:Nat→Prop} {B:Nat} {w:World} {v:Value} {l:List aL} (h:jF X B w v l):cQ B w v l:=by
 obtain⟨cs,h1,h2⟩:=h
 exact⟨cs,h1,h2.mono λb hb=>hb.1⟩
theorem cQ.x {X:Nat→Prop} {B:Nat} {w:World} {v:Value} {l:List aL} (h:cQ B w v l) (hX:∀b,¬X b):jF X B w v l:=by
 obtain⟨cs,h1,h2⟩:=h
 exact⟨cs,h1,h2.mono λb hb=>⟨hb,hX b⟩⟩
theorem jF.below {X:Nat→Prop} {B K:Nat} {w w':World} {v:Value} {l:List aL} (h:jF X B w v l) (hb:Below K w w') (hK:w.heap.size≤K):jF X B w' v l:=by
 obtain⟨cs,h1,h2⟩:=h
 exact⟨cs,ay h1 hb hK,h2.below hb hK⟩
theorem jF.shape {X:Nat→Prop} {B:Nat} {w:World} {v:Value} {l:List aL} (h:jF X B w v l):∃p c,v=.slice p l.length c:=h.own.shape
theorem vG {B B' k k' n n':Nat} {e e':TypeId} {w:World} {v v':Value} {xs xs':List Value} (h:w.ownsRow B e k v n xs) (h':w.ownsRow B' e' k' v' n' xs') (hne:e≠e'):∀b,v.ownBlock=some b→v'.ownBlock≠some b:=by
 intro b hb hb'
 rcases h.2 with⟨rfl,_⟩|⟨g,cap,cur,rfl,_,hg,_⟩
 · cases hb
 · rcases h'.2 with⟨rfl,_⟩|⟨g',cap',cur',rfl,_,hg',_⟩
   · cases hb'
   · simp only[Value.ownBlock,Option.some.injEq] at hb hb'
     subst hb;subst hb';rw[hg] at hg';injection hg' with hg';injection hg' with _ ht _;exact hne ht
theorem jF.append {X:Nat→Prop} {B:Nat} {W W':World} {v v':Value} {l k:List aL} {ds cs:List Value} (hC:bl (λb=>v.ownBlock≠some b∧¬X b) W cs l) (hk:bl (λb=>v.ownBlock≠some b∧¬X b) W ds k) (h':W'.ownsRow B 50 5 v' (l.length+k.length) (cs++ds)) (hg:W.grownBy W' v.ownBlock) (ho:v'.ownBlock=v.ownBlock∨v'.ownBlock=some W.heap.size):jF X B W' v' (l++k):=by
 refine⟨cs++ds,by rw[List.length_append];exact h',?_⟩
 have key:∀{l:List aL} {cs:List Value},bl (λb=>v.ownBlock≠some b∧¬X b) W cs l→bl (λb=>v'.ownBlock≠some b∧¬X b) W' cs l:=by
  intro l cs hc;refine(hc.fresh.agree (w':=W') λb hb hlt=>hg.block b hlt λe=>hb.1.1 e.symm).mono λb hb=>⟨λe=>?_,hb.1.2⟩
  rcases ho with ho|ho
  · exact hb.1.1 (by rw[←ho];exact e)
  · have h2:=hb.2
    rw[ho] at e;injection e with e;omega
 exact bl.append (key hk) (key hC)
theorem jF.grow {B:Nat} {W W':World} {v a a':Value} {l:List aL} (h:jF (λb=>a.ownBlock=some b) B W v l) (hg:W.grownBy W' a.ownBlock) (RT:∀b,v.ownBlock=some b→a.ownBlock≠some b) (ho:a'.ownBlock=a.ownBlock∨a'.ownBlock=some W.heap.size):jF (λb=>a'.ownBlock=some b) B W' v l:=by
 obtain⟨cs,h1,h2⟩:=h
 refine⟨cs,cB h1 (λb hb=>hg.block b (aK h1 hb) (λe=>RT b hb e.symm)),?_⟩
 refine(h2.fresh.agree (w':=W') λb hb hlt=>hg.block b hlt λe=>hb.1.2 e.symm).mono λb hb=>⟨hb.1.1,λe=>?_⟩
 rcases ho with ho|ho
 · exact hb.1.2 (by rw[←ho];exact e)
 · have h2:=hb.2
   rw[ho] at e;injection e with e;omega
theorem sj {o:Oper} {a:Act} {w:World} {K:Act→World→Prop} {Q:Exit→Act→World→Prop} (s x:Operand)
 (ho:o.op=.call {callee:=.builtin .append,args:= #[s,x],argTypes:= #[31,31] }) {X:Nat→Prop} {B B':Nat} {D:Nat→Prop} {v y:Value} {L k:List aL}
 (hs:a.eval s=v) (hx:a.eval x=y) (hv:jF X B w v L) (hy:mj D B' w y k) (hk:0<k.length) (hD:∀b,D b→v.ownBlock≠some b∧¬X b) (hm:L.length+k.length≤1000) (hB:B≤w.heap.size)
 (h:∀v' w',jF X B w' v' (L++k)→Below B w w'→w.grownBy w' v.ownBlock→K (a.put o.dst v') w'):Oper.wp Tryz.prog o a w K Q:=by
 obtain⟨i0,gw,hz0,hz1,hz2⟩:=bY oy
 obtain⟨cs,hcs,hC⟩:=hv
 obtain⟨ds,hy1,hy2⟩:=hy
 rcases hy1.2 with⟨_,h0⟩|⟨g,cap,cur,rfl,_⟩
 · omega
 · have hmx:L.length+k.length≤maxLen:=by unfold maxLen;omega
   obtain⟨v',w',hr,h2,h3,h4⟩:=fR (P:=Tryz.prog) w B 31 o.type 50 i0 _ 5 88 ja gw hz0 hz1 hz2 rfl (by decide) v L.length cs hcs ⟨g,0,none⟩ k.length cap ds hy1.1 (λj u hj=>hy1.cells (g:=g) rfl j u hj) hy2.one_cell hk hmx (by omega) hB;unfold Oper.wp execOp;simp only[ho,resolve,invoke,builtin,Sem.run_bind,Sem.run_pure,Result.andThen_ok,List.map_toArray,List.map_cons,List.map_nil,hs,hx,hr];refine h v' w' ?_ (af ((zb w).grown h3 hB (λb e=>(hcs.lt b e).1)) zr) h3;exact jF.append hC (hy2.mono hD) h2 h3 h4
end
section
open Go Go.RowKit
def FC (T:TypeId) (B:Nat) (w:World) (v:Value) (l:List aL):Prop:=∃cs,w.ownsRow B T 5 v l.length cs∧bl (λb=>B≤b∧v.ownBlock≠some b) w cs l
theorem FC.nil (T:TypeId) (B:Nat) (w:World):FC T B w (.slice none 0 0) []:=⟨[],World.ownsRow_nil _ _ _ _,rfl⟩
theorem FC.lt {T:TypeId} {B:Nat} {w:World} {v:Value} {l:List aL} (h:FC T B w v l) {b:Nat} (hb:v.ownBlock=some b):B≤b∧b<w.heap.size:=by
 obtain⟨cs,h1,_⟩:=h
 exact h1.lt b hb
def jg (D:Nat→Prop) (w:World) (cs:List Value) (l:List aL):Prop:=bl (λb=>D b∧mN w b) w cs l
theorem jg.below {D:Nat→Prop} {K:Nat} {w w':World} {cs:List Value} {l:List aL} (h:jg D w cs l) (hb:Below K w w') (hK:w.heap.size≤K):jg D w' cs l:=
 (bl.below hb hK h).mono λ_ h=>⟨h.1,h.2.below hb hK⟩
theorem jg.agree {D:Nat→Prop} {w w':World} {cs:List Value} {l:List aL} (h:jg D w cs l) (hk:∀b,D b→b<w.heap.size→w'.heap[b]? =w.heap[b]?):jg D w' cs l:=
 (bl.agree (λb hb hlt=>hk b hb.1 hlt) h).mono λb hb=>⟨hb.1,hb.2.agree (hk b hb.1 hb.2.lt)⟩
theorem jg.mono {D D':Nat→Prop} {w:World} {cs:List Value} {l:List aL} (h:jg D w cs l) (hD:∀b,D b→b<w.heap.size→D' b):jg D' w cs l:=bl.mono h λb hb=>⟨hD b hb.1 hb.2.lt,hb.2⟩
def kQ (T:TypeId) (B:Nat) (w:World) (v:Value) (l:List aL):Prop:=∃cs,w.ownsRow B T 5 v l.length cs∧jg (λb=>B≤b∧v.ownBlock≠some b) w cs l
theorem kQ.shape {T:TypeId} {B:Nat} {w:World} {v:Value} {l:List aL} (h:kQ T B w v l):∃p c,v=.slice p l.length c:=by
 obtain⟨cs,h1,_⟩:=h
 exact bu h1
theorem kQ.nil (T:TypeId) (B:Nat) (w:World):kQ T B w (.slice none 0 0) []:=⟨[],World.ownsRow_nil _ _ _ _,rfl⟩
theorem kQ.mono {T:TypeId} {B B':Nat} {w:World} {v:Value} {l:List aL} (h:kQ T B w v l) (hB:B'≤B):kQ T B' w v l:=by
 obtain⟨cs,⟨h1,h2⟩,h3⟩:=h
 refine⟨cs,⟨h1,?_⟩,h3.mono λb hb _=>⟨Nat.le_trans hB hb.1,hb.2⟩⟩
 rcases h2 with h2|⟨g,cap,cur,e,h2,h4⟩
 · exact .inl h2
 · exact .inr ⟨g,cap,cur,e,Nat.le_trans hB h2,h4⟩
theorem kQ.Ow {B:Nat} {w:World} {v:Value} {l:List aL} (h:kQ 50 B w v l):cQ B w v l:=by
 obtain⟨cs,h1,h2⟩:=h
 exact⟨cs,h1,bl.mono h2 λb hb=>hb.1.2⟩
theorem Cy {T:TypeId} {w W w5:World} {v v':Value} {L:List aL} {x:aL} {cs ds:List Value} (o:Obj) (hB:Below w.heap.size w W)
 (hcs:W.ownsRow w.heap.size T 5 v L.length cs) (hC:jg (λb=>w.heap.size≤b∧v.ownBlock≠some b) W cs L) (hd:jg (λb=>w.heap.size≤b∧v.ownBlock≠some b) W ds [x])
 (h5:w5.ownsRow w.heap.size T 5 v' (L.length+1) (cs++ds)) (hg:(W.alloc o).grownBy w5 v.ownBlock) (ho:v'.ownBlock=v.ownBlock∨v'.ownBlock=some (W.alloc o).heap.size):
 kQ T w.heap.size w5 v' (L++[x])∧Below w.heap.size w w5∧(∀b,b<W.heap.size→v.ownBlock≠some b→w5.heap[b]? =W.heap[b]?):=by
 have hA:=(Below.refl W.heap.size W).alloc zr o
 have hk:∀b,b<W.heap.size→v.ownBlock≠some b→w5.heap[b]? =W.heap[b]? :=by
  intro b hb hn;rw[hg.block b (by simp;omega) (λe=>hn e.symm)];exact hA.block b hb
 refine⟨⟨cs++ds,by rw[List.length_append];exact h5,?_⟩,(hB.alloc hB.size o).grown hg (by have:=hB.size;simp;omega) (λk e=>(hcs.lt k e).1),hk⟩
 have key:∀{l:List aL} {cs:List Value},jg (λb=>w.heap.size≤b∧v.ownBlock≠some b) W cs l→jg (λb=>w.heap.size≤b∧v'.ownBlock≠some b) w5 cs l:=by
  intro l cs hc;refine((hc.mono (D':=λb=>(w.heap.size≤b∧v.ownBlock≠some b)∧b<W.heap.size) λb hb hlt=>⟨hb,hlt⟩).agree (w':=w5) λb hb hlt=>hk b hlt hb.1.2).mono λb hb _=>⟨hb.1.1,λe=>?_⟩
  rcases ho with ho|ho
  · exact hb.1.2 (by rw[←ho];exact e)
  · have h2:=hb.2
    rw[ho] at e;injection e with e;simp at e;omega
 exact bl.append (key hd) (key hC)
end
section
open Go.RowKit Go.Maps
theorem xX {par:Bool} {acc:List (List UInt8)} {o:aL} {l:List aL} (h:hasB acc o.name=true):fu par acc (o::l)=false:=by rw[fu,h];rfl
theorem xY {par:Bool} {acc:List (List UInt8)} {o:aL} {l:List aL} (h:isName o.name=false):fu par acc (o::l)=false:=by rw[fu,h];simp
theorem xZ {par:Bool} {acc:List (List UInt8)} {o:aL} {l:List aL} (h:cZ o.sig par=false):fu par acc (o::l)=false:=by rw[fu,h];simp
theorem x8 {par:Bool} {acc:List (List UInt8)} {o:aL} {l:List aL} (h1:hasB acc o.name=false) (h2:isName o.name=true) (h3:cZ o.sig par=true):fu par acc (o::l)=fu par (acc++[o.name]) l:=by rw[fu,h1,h2,h3];simp
theorem r6 {l:List aL} {i:Nat} {x:aL} (h:l[i]? =some x):(l.take i).map (·.name)++[x.name]=(l.take (i+1)).map (·.name):=by rw[List.take_add_one,h];simp
theorem rB (f:aA) (h:1≤f.ops.length):(f.kind=3∧iy f=true)∨(f.kind≠3∧f.ops.length≠1∧iy f=false)∨(f.kind≠3∧∃o,f.ops=[o]∧((o.name≠f.name∧iy f=false)∨(o.name=f.name∧o.sig.iter≠decide (f.kind=2)∧iy f=false)∨(o.name=f.name∧o.sig.iter=decide (f.kind=2)∧iy f=true))):=by
 obtain⟨name,kind,par,ag,ops⟩:=f
 unfold iy
 simp only at *
 by_cases hk:kind=3
 · exact .inl ⟨hk,by simp[hk]⟩
 · right
   match ops,h with
   | [o], _ =>
    right
    refine⟨hk,o,rfl,?_⟩
    by_cases h1:o.name=name
    · by_cases h2:o.sig.iter=decide (kind=2)
      · exact .inr (.inr ⟨h1,h2,by simp[hk,h1,h2]⟩)
      · exact .inr (.inl ⟨h1,h2,by simp[hk,h2]⟩)
    · exact .inl ⟨h1,by simp[hk,h1]⟩
   | a::b::l,_=>
    left
    exact⟨hk,by simp,by simp[hk]⟩
theorem Dm {B:Nat} {a w:World} (h:Below B a w) (n:Nat):Below B a (w.drewN n):=h.trans ⟨rfl,rfl,rfl,nl _,λ_ _=>rfl⟩
def nU (f:aA):Nat:=if(fu f.par [] f.ops&&iy f)=true then 0 else 42
theorem rR {f:aA} {p:Bool} (hp:f.par=p) (h:fu p [] f.ops=false):nU f=42:=by unfold nU;rw[hp,h];rfl
theorem nA {f:aA} {p:Bool} (hp:f.par=p) (h:fu p [] f.ops=true) (h2:iy f=false):nU f=42:=by unfold nU;rw[hp,h,h2];rfl
theorem yy {f:aA} {p:Bool} (hp:f.par=p) (h:fu p [] f.ops=true) (h2:iy f=true):nU f=0:=by unfold nU;rw[hp,h,h2];rfl
theorem aS.below {w w':World} {b K:Nat} {acc:List (List UInt8)} (h:aS w b acc) (hb:Below K w w') (hK:w.heap.size≤K):aS w' b acc:=h.of_block (hb.block b (Nat.lt_of_lt_of_le h.lt hK))
set_option maxRecDepth 8000 in
theorem wP {D : Nat → Prop} (v : Value) (f : aA) (w : World) (ht : dW w) (hv : dO D w v f) (hn : f.ag.length ≤ 100000)
 (k1:isName f.name=true) (k2:1≤f.kind) (k3:f.kind≤3) (k4:aU f.ag=true) (k5:(f.par||f.ag.isEmpty)=true) (k6:1≤f.ops.length) (k7:f.ops.length≤20):
 Calls Tryz.prog 38 #[v] w λe w'=>e=.returned (.int .i64 (nU f))∧Below w.heap.size w w':=by
 have Jt:=zh (rB f k6)
 have hmm:=@run_makeMap Tryz.prog
 have HF:=zh (Eq.refl f)
 obtain⟨nv,ov,rfl,hnl,h1,h2⟩:=hv
 have HN:=λW (hW:Below w.heap.size w W)=>cC f.name W (ht.below hW zr) hnl
 have HD:=λW (hW:Below w.heap.size w W)=>kj f.ag nv W (ht.below hW zr) (h1.below hW zr) hn
 obtain⟨p1,c1,rfl,_⟩:=h1.shape
 obtain⟨p2,c2,rfl,_,hm2,hle⟩:=h2.shape
 have HL:=zh hle
 rw[k1] at HN
 rw[k4] at HD
 have hB:=((zb w).alloc zr (.cells #[str f.name,.int .u8 f.kind,.bool f.par,.slice p1 f.ag.length c1,.slice p2 f.ops.length c2] 58))
 have hg:=heap_alloc_new w (.cells #[str f.name,.int .u8 f.kind,.bool f.par,.slice p1 f.ag.length c1,.slice p2 f.ops.length c2] 58)
 clear h1
 have g2:¬(f.kind:Int)<1:=by omega
 have b2:decide ((f.kind:Int)<1)=false:=decide_eq_false g2
 have g3:¬(3:Int)<(f.kind:Int):=by omega
 have b3:decide ((3:Int)<(f.kind:Int))=false:=decide_eq_false g3
 have g6:¬(f.ops.length:Int)<1:=by omega
 have b6:decide ((f.ops.length:Int)<1)=false:=decide_eq_false g6
 have g7:¬(20:Int)<(f.ops.length:Int):=by omega
 have b7:decide ((20:Int)<(f.ops.length:Int))=false:=decide_eq_false g7
 have g5:f.par=true∨(f.par=false∧decide (0<f.ag.length)=false):=by
  cases hp:f.par
  · refine .inr ⟨rfl,?_⟩
    rw[hp] at k5;have:f.ag=[]:=by simpa using k5
    rw[this]
    rfl
  · exact .inl rfl
 generalize hpar:f.par=par at *
 have HP:=zh hpar
 have G7:=zh k6
 have SA:=zh k7
 clear k1 k2 k3 k4 k5 k6 k7 hpar
 rcases g5 with rfl|⟨rfl,g5⟩
 all_goals
  go_enter Tryz.func38,Tryz.ntmps38;go_wp2_with (first
   | (go_at_call 88;refine(HN _ hB).mono ?_;clear HN;rintro e w1 ⟨rfl,au⟩;have hg:=ah hg au;have bx:=(bz hg).1;have hB:=hB.trans (af au hB.size))
   | (go_at_call 78;refine(HD _ hB).mono ?_;clear HD;rintro e w2 ⟨rfl,aC⟩;have hg:=ah hg aC;have bx:=(bz hg).1;have QN:=(bz (aD (.map #[] 0) hg)).1;have hB:=hB.trans (af aC hB.size)))
  have RB:=bA hg;have C4:aS (w2.alloc (.map #[] 0)) w2.heap.size []:=aS.made w2;have hB:=hB.alloc hB.size (.map #[] 0);have hg:=aD (.map #[] 0) hg;generalize hM2:w2.heap.size=M at *;clear bx QN;generalize w2.alloc (.map #[] 0)=W at *;go_loopw [53] (λy wx=>∃i:Nat,i≤f.ops.length∧y=.int .i64 i∧aS wx M ((f.ops.take i).map (·.name))∧wx.heap[w.heap.size]? =W.heap[w.heap.size]? ∧Below w.heap.size w wx∧Hid (fu f.par [] f.ops=fu f.par ((f.ops.take i).map (·.name)) (f.ops.drop i))) (λy _=>f.ops.length - (intOf y).toNat)
  case atStart=>exact⟨0,Nat.zero_le _,by go_num,C4,rfl,hB,rfl⟩
  case round =>
   obtain⟨i,hi,rfl,ek,NI,hb,hA⟩:=hrel;have Ty:=zh NI;have R5:=zh hg;have hg:=NI.trans hg;clear NI
   by_cases hlt:i<f.ops.length
   case neg =>
    have hie:f.ops.drop i=[]:=List.drop_eq_nil_of_le (by omega);have HX:=zh (show fu f.par [] f.ops=true by rw[hA.out,hie];rfl);clear hA hie;have bg:=(bz hg).1;have hl0:=G7.out;rcases Jt.out with⟨a1,a2⟩|⟨a1,a2,a3⟩|⟨a1,o,a2,a3⟩
    · have HZ:=zh (yy rfl HX.out a2)
      have g:((f.kind:Int) != 3)=false:=by rw[a1];rfl
      clear a1 a2 Jt hl0;go_upto_region 11 with fail;have gL:0<f.ops.length:=G7.out;go_quiet (fail);go_wp2_with fail;go_ret;exact⟨by rw[HZ.out];rfl,Dm hb _⟩
    · have HZ:=zh (nA rfl HX.out a3)
      have g:((f.kind:Int) != 3)=true:=by rw[bne_iff_ne];omega
      have g1:((f.ops.length:Int) != 1)=true:=by rw[bne_iff_ne];omega
      clear a1 a2 a3 Jt hl0;go_upto_region 11 with fail;have gL:0<f.ops.length:=G7.out;go_quiet (fail);go_wp2_with fail;go_ret;exact⟨by rw[HZ.out];rfl,Dm hb _⟩
    · have hlen : f.ops.length = 1 := by rw [a2]; rfl
      have g:((f.kind:Int) != 3)=true:=by rw[bne_iff_ne];omega
      have g1:((f.ops.length:Int) != 1)=false:=by rw[hlen];rfl
      obtain⟨b1,o1,av,sv,rfl,_,_,_,_,d0,d1,_,_,_⟩:=h2.at (k:=0) (x:=o) (by rw[a2];rfl);have d0:=Below.keep hb d0;have d1:=Below.keep hb d1;rw[Nat.zero_mul,Nat.add_zero] at d0 d1;have hk2:decide (f.kind=2)=((f.kind:Int)==2):=by
       by_cases h:f.kind=2
       · rw[h];rfl
       · rw[decide_eq_false h,eq_comm,beq_eq_false_iff_ne];omega
      rcases a3 with⟨a3,a4⟩|⟨a3,a4,a5⟩|⟨a3,a4,a5⟩
      · have HZ := zh (nA rfl HX.out a4)
        have g2:=zh (show(o.name==f.name)=false by simpa using a3);clear a1 a2 a3 a4 Jt hl0 hlen hk2;generalize o.sig.iter=it at d1;go_upto_region 11 with fail;have gL:0<f.ops.length:=G7.out;have g2:=g2.out;refine dK (D:=Any) (w:=wr) 30 [(1,vP w.heap.size 0)] [vP w.heap.size 1,.eq (.int .u8 f.kind),vY,vY,vP w.heap.size 4,vL b1 o1 f.ops.length c2,vI f.ops.length,vN,vN,vP w.heap.size 4,vL b1 o1 f.ops.length c2,vP b1 o1,vP b1 o1,vT o.name,vP w.heap.size 0,vT f.name,vY,vY,vY,vK,vK,vK,vK,vK,vK,vK,vK,vK,vK,vY,vY] (aZ [(⟨w.heap.size,0,none⟩,str f.name),(⟨w.heap.size,1,none⟩,.int .u8 f.kind),(⟨w.heap.size,4,none⟩,.slice (some ⟨b1,o1,none⟩) f.ops.length c2),(⟨b1,o1,none⟩,str o.name)]) (by kernel_rfl) rfl (λ_ _ h hb=>h.below hb) (by(iterate 4 refine b9 (by first|exact Below.keep (zb wr).drew (by first|exact bg.1|exact bg.2.1|exact bg.2.2.2.2|exact d0|exact d1)) ?_);exact gy) ⟨rfl,trivial⟩ ?_ ?_
        · iterate 31
           refine And.intro ?_ ?_
           · first
             | exact dr (by kernel_rfl) rfl
             | exact oe rfl rfl (by kernel_rfl)
             | exact eX rfl (by kernel_rfl) (by kernel_rfl) rfl rfl
             | exact gN rfl (by kernel_rfl) rfl rfl (λw=>by simp[go_sem])
             | exact iC rfl (by kernel_rfl) rfl rfl rfl (λw=>by simp[go_sem,gL])
             | exact gv rfl (by kernel_rfl) rfl rfl (λw hS=>by simp[go_sem,(hS.get 0 rfl),(hS.get 1 rfl),(hS.get 2 rfl),(hS.get 3 rfl)])
             | exact eW rfl (by kernel_rfl) rfl rfl rfl (λw=>by simp[go_sem,g,g1,g2])
          exact trivial
        · intro aE wE mo fM _
          simp only[pq,pz,pw];go_wp2_with fail;go_ret;exact⟨by rw[HZ.out];rfl,hb.trans (af fM hb.size)⟩
      · have HZ := zh (nA rfl HX.out a5)
        have g2:=zh (show(o.name==f.name)=true by simpa using a3);rw[hk2] at a4;obtain⟨kq,g4⟩:∃kq,((f.kind:Int)==2)=kq:=⟨_,rfl⟩
        rw[g4] at a4;have g4:=zh g4;clear a1 a2 a3 a5 Jt hl0 hlen hk2;generalize o.sig.iter=it at d1 a4;have g5:=zh (show ¬it=kq by revert a4;cases it<;>cases kq<;>simp);clear a4;go_upto_region 11 with fail;have gL:0<f.ops.length:=G7.out;have g2:=g2.out;have g4:=g4.out;refine dK (D:=Any) (w:=wr) 30 [(1,vP w.heap.size 0)] [vP w.heap.size 1,.eq (.int .u8 f.kind),vY,vY,vP w.heap.size 4,vL b1 o1 f.ops.length c2,vI f.ops.length,vN,vN,vP w.heap.size 4,vL b1 o1 f.ops.length c2,vP b1 o1,vP b1 o1,vT o.name,vP w.heap.size 0,vT f.name,vN,vN,vN,vP w.heap.size 4,vL b1 o1 f.ops.length c2,vP b1 o1,vP b1 (o1+1),vP b1 (o1+1),.eq (.bool it),vP w.heap.size 1,.eq (.int .u8 f.kind),.eq (.bool kq),vY,vY,vY] (aZ [(⟨w.heap.size,0,none⟩,str f.name),(⟨w.heap.size,1,none⟩,.int .u8 f.kind),(⟨w.heap.size,4,none⟩,.slice (some ⟨b1,o1,none⟩) f.ops.length c2),(⟨b1,o1,none⟩,str o.name),(⟨b1,o1+1,none⟩,.bool it)]) (by kernel_rfl) rfl (λ_ _ h hb=>h.below hb) (by(iterate 5 refine b9 (by first|exact Below.keep (zb wr).drew (by first|exact bg.1|exact bg.2.1|exact bg.2.2.2.2|exact d0|exact d1)) ?_);exact gy) ⟨rfl,trivial⟩ ?_ ?_
        · iterate 31
           refine And.intro ?_ ?_
           · first
             | exact dr (by kernel_rfl) rfl
             | exact oe rfl rfl (by kernel_rfl)
             | exact eX rfl (by kernel_rfl) (by kernel_rfl) rfl rfl
             | exact gN rfl (by kernel_rfl) rfl rfl (λw=>by simp[go_sem])
             | exact iC rfl (by kernel_rfl) rfl rfl rfl (λw=>by simp[go_sem,gL])
             | exact gv rfl (by kernel_rfl) rfl rfl (λw hS=>by simp[go_sem,(hS.get 0 rfl),(hS.get 1 rfl),(hS.get 2 rfl),(hS.get 3 rfl),(hS.get 4 rfl)])
             | exact eW rfl (by kernel_rfl) rfl rfl rfl (λw=>by simp[go_sem,g,g1,g2,g4,g5.out])
          exact trivial
        · intro aE wE mo fM _
          simp only[pq,pz,pw];go_wp2_with fail;go_ret;exact⟨by rw[HZ.out];rfl,hb.trans (af fM hb.size)⟩
      · have HZ := zh (yy rfl HX.out a5)
        have g2:=zh (show(o.name==f.name)=true by simpa using a3);rw[hk2] at a4;obtain⟨kq,g4⟩:∃kq,((f.kind:Int)==2)=kq:=⟨_,rfl⟩
        rw[g4] at a4;have g4:=zh g4;clear a1 a2 a3 a5 Jt hl0 hlen hk2;generalize o.sig.iter=it at d1 a4;have g5:=zh (show it=kq by revert a4;cases it<;>cases kq<;>simp);clear a4;go_upto_region 11 with fail;have gL:0<f.ops.length:=G7.out;have g2:=g2.out;have g4:=g4.out;refine dK (D:=Any) (w:=wr) 30 [(1,vP w.heap.size 0)] [vP w.heap.size 1,.eq (.int .u8 f.kind),vY,vY,vP w.heap.size 4,vL b1 o1 f.ops.length c2,vI f.ops.length,vN,vN,vP w.heap.size 4,vL b1 o1 f.ops.length c2,vP b1 o1,vP b1 o1,vT o.name,vP w.heap.size 0,vT f.name,vN,vN,vN,vP w.heap.size 4,vL b1 o1 f.ops.length c2,vP b1 o1,vP b1 (o1+1),vP b1 (o1+1),.eq (.bool it),vP w.heap.size 1,.eq (.int .u8 f.kind),.eq (.bool kq),vN,vN,vN] (aZ [(⟨w.heap.size,0,none⟩,str f.name),(⟨w.heap.size,1,none⟩,.int .u8 f.kind),(⟨w.heap.size,4,none⟩,.slice (some ⟨b1,o1,none⟩) f.ops.length c2),(⟨b1,o1,none⟩,str o.name),(⟨b1,o1+1,none⟩,.bool it)]) (by kernel_rfl) rfl (λ_ _ h hb=>h.below hb) (by(iterate 5 refine b9 (by first|exact Below.keep (zb wr).drew (by first|exact bg.1|exact bg.2.1|exact bg.2.2.2.2|exact d0|exact d1)) ?_);exact gy) ⟨rfl,trivial⟩ ?_ ?_
        · iterate 31
           refine And.intro ?_ ?_
           · first
             | exact dr (by kernel_rfl) rfl
             | exact oe rfl rfl (by kernel_rfl)
             | exact eX rfl (by kernel_rfl) (by kernel_rfl) rfl rfl
             | exact gN rfl (by kernel_rfl) rfl rfl (λw=>by simp[go_sem])
             | exact iC rfl (by kernel_rfl) rfl rfl rfl (λw=>by simp[go_sem,gL])
             | exact gv rfl (by kernel_rfl) rfl rfl (λw hS=>by simp[go_sem,(hS.get 0 rfl),(hS.get 1 rfl),(hS.get 2 rfl),(hS.get 3 rfl),(hS.get 4 rfl)])
             | exact eW rfl (by kernel_rfl) rfl rfl rfl (λw=>by simp[go_sem,g,g1,g2,g4,g5.out])
          exact trivial
        · intro aE wE mo fM _
          simp only[pq,pz,pw];go_wp2_with fail;go_ret;exact⟨by rw[HZ.out];rfl,hb.trans (af fM hb.size)⟩
   case pos =>
    obtain⟨x,hkx⟩:∃x,f.ops[i]? =some x:=⟨_,List.getElem?_eq_getElem hlt⟩
    obtain⟨b1,o1,av,sv,rfl,_,hxl,ha,hs,d0,d1,d2,d3,d4⟩:=h2.at hkx;have d0:=Below.keep hb d0;have d1:=Below.keep hb d1;have d2:=Below.keep hb d2;have d3:=Below.keep hb d3;have d4:=Below.keep hb d4;have hd:=hA.out;rw[bp hkx] at hd;have My:=zh (r6 hkx);clear hA hkx;have HS:=λW (hW:Below w.heap.size w W)=>yB (.agg #[.bool x.sig.iter,av,str x.sig.res,sv]) x.sig f.par W (ht.below hW zr) ⟨av,sv,rfl,hxl.2,ha.below hW zr,hs.below hW zr⟩
    obtain⟨pa,ca,rfl,_⟩:=ha.shape;obtain⟨ps,cs,rfl,_⟩:=hs.shape;have mT:=hb.alloc hb.size (.cells #[str x.name,.bool x.sig.iter,.slice pa x.sig.args.length ca,str x.sig.res,.slice ps x.sig.sigs.length cs] 50);have tM:=ek.kept (World.grownBy_alloc wr (.cells #[str x.name,.bool x.sig.iter,.slice pa x.sig.args.length ca,str x.sig.res,.slice ps x.sig.sigs.length cs] 50) none) (by simp);have hlk:=tM.look hxl.1;have GH:=cC x.name (wr.alloc (.cells #[str x.name,.bool x.sig.iter,.slice pa x.sig.args.length ca,str x.sig.res,.slice ps x.sig.sigs.length cs] 50)) (ht.below mT zr) hxl.1;have hx:=heap_alloc_new wr (.cells #[str x.name,.bool x.sig.iter,.slice pa x.sig.args.length ca,str x.sig.res,.slice ps x.sig.sigs.length cs] 50);have hg:=aD (.cells #[str x.name,.bool x.sig.iter,.slice pa x.sig.args.length ca,str x.sig.res,.slice ps x.sig.sigs.length cs] 50) hg;clear ha hs;have N1:((f.ops.take i).map (·.name)).length<maxLen:=by
     rw[List.length_map,List.length_take];have:=SA.out;unfold maxLen;omega
    rcases q1:hasB ((f.ops.take i).map (·.name)) x.name with _|_
    · rw [q1] at hlk
      rcases q2:isName x.name with _|_
      · rw[q2] at GH
        have HX:=zh (rR rfl (hd.trans (xY q2)));clear hd q1 q2;go_wp2_with (go_at_call 88;refine GH.mono ?_;clear GH;rintro e w3 ⟨rfl,aH⟩;have hx:=ah hx aH;have hg:=ah hg aH;have bx:=(bz hx).1;have bg:=(bz hg).1;have dx:=mT.trans (af aH mT.size));go_ret;exact⟨by rw[HX.out];rfl,dx⟩
      · rw [q2] at GH
        rcases q3:cZ x.sig f.par with _|_
        · rw[q3,HP.out] at HS
          have HX:=zh (rR rfl (hd.trans (xZ q3)));clear hd q1 q2 q3;go_wp2_with (first|(go_at_call 88;refine GH.mono ?_;clear GH;rintro e w3 ⟨rfl,aH⟩;have hx:=ah hx aH;have hg:=ah hg aH;have bx:=(bz hx).1;have bg:=(bz hg).1;have dx:=mT.trans (af aH mT.size))|(go_at_call 89;refine(HS _ dx).mono ?_;clear HS;rintro e w4 ⟨rfl,hb4⟩;have hx:=ah hx hb4;have hg:=ah hg hb4;have bx:=(bz hx).1;have eD:=dx.trans (af hb4 dx.size)));go_ret;exact⟨by rw[HX.out];rfl,eD⟩
        · rw[q3,HP.out] at HS
          have HX:=zh (hd.trans (x8 q1 q2 q3));clear hd q1 q2 q3;go_wp2_with (first
           | (go_at_call 88;refine GH.mono ?_;clear GH;rintro e w3 ⟨rfl,aH⟩;have hx:=ah hx aH;have hg:=ah hg aH;have bx:=(bz hx).1;have bg:=(bz hg).1;have dx:=mT.trans (af aH mT.size))
           | (go_at_call 89;refine(HS _ dx).mono ?_;clear HS;rintro e w4 ⟨rfl,hb4⟩;have hx:=ah hx hb4;have hg:=ah hg hb4;have bx:=(bz hx).1;have eD:=dx.trans (af hb4 dx.size))
           | (at_mapUpdate;refine jb _ rfl _ _ _ rfl M ((f.ops.take i).map (·.name)) rfl ((tM.below aH zr).below hb4 zr) N1 x.name rfl rfl hxl.1 ?_;intro w5 jK xe))
          have HY:=HX.out;rw[My.out] at jK HY;refine⟨⟨i+1,hlt,by go_num,jK,?_,eD.grown xe eD.size (λk e=>by cases e;omega),HY⟩,by simp only[intOf];omega⟩;rw[eO xe hg (by intro e;injection e with e;omega)];exact R5.out.symm
    · rw[q1] at hlk
      have HX:=zh (rR rfl (hd.trans (xX q1)));clear hd q1;go_wp2_with fail;go_ret;exact⟨by rw[HX.out];rfl,mT⟩
theorem mR {D:Nat→Prop} (v:Value) (f:aA) (w:World) (ht:dW w) (hv:dO D w v f) (hn:f.ag.length≤100000):
 Calls Tryz.prog 38 #[v] w λe w'=>e=.returned (.int .i64 (iL f))∧Below w.heap.size w w':=by
 have he:=kX f
 rcases hq:(isName f.name&&(decide (1≤f.kind)&&(decide (f.kind≤3)&&(aU f.ag&&((f.par||f.ag.isEmpty)&&(decide (1≤f.ops.length)&&decide (f.ops.length≤20))))))) with _|_
 · have hf:dF f=false:=by
    rw[he];simp only[←Bool.and_assoc] at hq ⊢;rw[hq];simp
   rw[kW hf];exact uT v f w ht hv hn hq
 · have h2:=hq
   simp only[Bool.and_eq_true,decide_eq_true_eq] at h2;obtain⟨k1,k2,k3,k4,k5,k6,k7⟩:=h2;have hr:nU f=iL f:=by
    unfold nU iL;rw[he];have:(isName f.name&&(decide (1≤f.kind)&&(decide (f.kind≤3)&&(aU f.ag&&((f.par||f.ag.isEmpty)&&(decide (1≤f.ops.length)&&(decide (f.ops.length≤20)&&(fu f.par [] f.ops&&iy f))))))))=(fu f.par [] f.ops&&iy f):=by
     rw[k1,decide_eq_true k2,decide_eq_true k3,k4,k5,decide_eq_true k6,decide_eq_true k7];simp
    rw[this]
   rw[←hr];exact wP v f w ht hv hn k1 k2 k3 k4 (by rw[Bool.or_eq_true];simpa using k5) k6 k7
end
section
open Go.RowKit Go.Maps Go.Deep
def Dt (f:aA) (n q:Value):Value:=.agg #[str f.name,.int .u8 f.kind,.bool f.par,n,q]
theorem uS {D:Nat→Prop} {w:World} {p:Option Addr} {c:Nat} {l:List aA} (h:bG D w (.slice p l.length c) l):
 ∃g:Nat→Value×Value,∀j f,l[j]? =some f→f.name.length≤maxLen∧aY D w (g j).1 f.ag∧aY D w (g j).2 f.ops∧∃b o,p=some ⟨b,o,none⟩∧
  w.cell? ⟨b,o+j * 5,none⟩=some (str f.name)∧w.cell? ⟨b,o+j * 5+1,none⟩=some (.int .u8 f.kind)∧w.cell? ⟨b,o+j * 5+2,none⟩=some (.bool f.par)∧w.cell? ⟨b,o+j * 5+3,none⟩=some (g j).1∧w.cell? ⟨b,o+j * 5+4,none⟩=some (g j).2:=by
 have each:∀j,j<l.length→∃x:Value×Value,∀f,l[j]? =some f→f.name.length≤maxLen∧aY D w x.1 f.ag∧aY D w x.2 f.ops∧∃b o,p=some ⟨b,o,none⟩∧
  w.cell? ⟨b,o+j * 5,none⟩=some (str f.name)∧w.cell? ⟨b,o+j * 5+1,none⟩=some (.int .u8 f.kind)∧w.cell? ⟨b,o+j * 5+2,none⟩=some (.bool f.par)∧w.cell? ⟨b,o+j * 5+3,none⟩=some x.1∧w.cell? ⟨b,o+j * 5+4,none⟩=some x.2:=by
  intro j hj;obtain⟨b,o,n,q,h1,_,h2,h3,h4,h5⟩:=h.at (List.getElem?_eq_getElem hj);refine⟨(n,q),λf hf=>?_⟩;rw[List.getElem?_eq_getElem hj] at hf;cases hf;exact⟨h2,h3,h4,b,o,h1,h5⟩
 haveI:Inhabited (Value×Value):=⟨(undef,undef)⟩
 obtain⟨g,hg⟩:=choose_lt each
 exact⟨g,λj f hf=>hg j (List.getElem?_eq_some_iff.1 hf).1 f hf⟩
def n9 (l:List aA) (g:Nat→Value×Value) (i:Nat):List (aA×Value):=(List.range i).map λj=>(l[j]?.getD default,Dt (l[j]?.getD default) (g j).1 (g j).2)
theorem AM {l:List aA} {g:Nat→Value×Value} {i:Nat} {f:aA} (h:l[i]? =some f):n9 l g (i+1)=n9 l g i++[(f,Dt f (g i).1 (g i).2)]:=by
 unfold n9
 rw[List.range_succ,List.map_append,List.map_cons,List.map_nil,h]
 rfl
theorem CY (l:List aA) (g:Nat→Value×Value):(n9 l g l.length).map (·.1)=l:=by
 unfold n9
 rw[List.map_map]
 apply List.ext_getElem?
 intro j
 by_cases hj:j<l.length
 · simp[hj]
 · simp[hj]
def Ho (x:aA×Value):List UInt8×Value:=(x.1.name,x.2)
set_option maxRecDepth 8000 in
theorem pL {D:Nat→Prop} (l:List aA) (v:Value) (w:World) (hv:bG D w v l) (hn:l.length≤100000):
 Calls Tryz.prog 91 #[v] w λe w'=>∃M,e=.returned (.agg #[.map (some M)])∧dV D w' M l∧Below w.heap.size w w':=by
 have hmm:=@run_makeMap Tryz.prog
 obtain⟨p,c,rfl,_,hm,hle⟩:=hv.shape
 unfold maxLen at hm
 obtain⟨g,hg⟩:=uS hv
 have HG:=zh hg
 clear hg
 have hB:=(((zb w).alloc zr (.cells #[.map none] 84)).alloc (by simp) (.map #[] 0)).alloc (by simp;omega) (.cells #[.map (some (w.heap.size+1))] 84)
 have C4:jd (((w.alloc (.cells #[.map none] 84)).alloc (.map #[] 0)).alloc (.cells #[.map (some (w.heap.size+1))] 84)) (w.heap.size+1) []:=by
  have:=jd.made (w.alloc (.cells #[.map none] 84));rw[World.size_alloc] at this;exact this.kept (World.grownBy_alloc _ _ none) (by simp)
 have h0:=aD (.cells #[.map (some (w.heap.size+1))] 84) (aD (.map #[] 0) (heap_alloc_new w (.cells #[.map none] 84)))
 have h3:=cI (w:=(w.alloc (.cells #[.map none] 84)).alloc (.map #[] 0)) (n:=w.heap.size+1+1) (by simp) #[.map (some (w.heap.size+1))] 84
 go_enter Tryz.func91,Tryz.ntmps91
 go_wp2_with fail
 generalize ((w.alloc (.cells #[.map none] 84)).alloc (.map #[] 0)).alloc (.cells #[.map (some (w.heap.size+1))] 84)=W at *
 go_loopw [10] (λy wx=>∃i:Nat,i≤l.length∧y=.int .i64 i∧jd wx (w.heap.size+1) ((n9 l g i).map Ho)∧wx.heap[w.heap.size]? =some (.cells #[.map none] 84)∧wx.heap[w.heap.size+1+1]? =some (.cells #[.map (some (w.heap.size+1))] 84)∧Below w.heap.size w wx) (λy _=>l.length - (intOf y).toNat)
 case atStart=>exact⟨0,Nat.zero_le _,by go_num,C4,h0,h3,hB⟩
 case round=>
  clear hB C4 h0 h3;obtain⟨i,hi,rfl,ek,h0,h3,hb⟩:=hrel;have b0:=Dn h0;have b3:=(Dn h3).1
  by_cases hlt:i<l.length
  case neg=>
   have hie:i=l.length:=by omega
   subst hie;go_wp2_with fail;have hsh:dV (λb=>D b∧b<w.heap.size) wr (w.heap.size+1) l:=⟨n9 l g l.length,CY l g,ek,λx hx=>by
    obtain⟨j,hj,rfl⟩:=List.mem_map.1 hx;have hj':j<l.length:=List.mem_range.1 hj;have hk:l[j]? =some l[j]:=List.getElem?_eq_getElem hj';obtain⟨k1,k2,k3,_⟩:=HG.out j l[j] hk;rw[hk];exact⟨_,_,rfl,k1,k2.fresh.below hb zr,k3.fresh.below hb zr⟩⟩
   refine bodyPost_ret (v:=.agg #[.map (some (w.heap.size+1))]) (by simp[results,Tryz.results91,go_sem,b0]) rfl ?_;refine⟨_,rfl,?_,hb.setCell (p:=⟨w.heap.size,0,none⟩) zr _⟩;exact(hsh.set (a:=⟨w.heap.size,0,none⟩) (by simp) (by intro b hb;exact Nat.ne_of_lt hb.2) _).mono λb hb=>hb.1
  case pos=>
   obtain⟨f,NT⟩:∃f,l[i]? =some f:=⟨_,List.getElem?_eq_getElem hlt⟩
   obtain⟨hnl,hN,hO,b1,o1,rfl,d0,d1,d2,d3,d4⟩:=HG.out i f NT;have d0:=Below.keep hb d0;have d1:=Below.keep hb d1;have d2:=Below.keep hb d2;have d3:=Below.keep hb d3;have d4:=Below.keep hb d4;have HW:=zh (AM (g:=g) NT);obtain⟨pn,cn,en,_⟩:=hN.shape;obtain⟨po,co,eo,_⟩:=hO.shape;rw[en] at d3;rw[eo] at d4;have HE:=zh (show Dt f (g i).1 (g i).2=.agg #[str f.name,.int .u8 f.kind,.bool f.par,.slice pn f.ag.length cn,.slice po f.ops.length co] by rw[en,eo];rfl);clear NT hN hO en eo;have TA:=(Dn (aD (.cells #[str f.name,.int .u8 f.kind,.bool f.par,.slice pn f.ag.length cn,.slice po f.ops.length co] 58) h3)).1;have mT:=hb.alloc hb.size (.cells #[str f.name,.int .u8 f.kind,.bool f.par,.slice pn f.ag.length cn,.slice po f.ops.length co] 58);have Rk:=aD (.cells #[str f.name,.int .u8 f.kind,.bool f.par,.slice pn f.ag.length cn,.slice po f.ops.length co] 58) h0;have Ro:=aD (.cells #[str f.name,.int .u8 f.kind,.bool f.par,.slice pn f.ag.length cn,.slice po f.ops.length co] 58) h3;have tM:=ek.kept (World.grownBy_alloc wr (.cells #[str f.name,.int .u8 f.kind,.bool f.par,.slice pn f.ag.length cn,.slice po f.ops.length co] 58) none) (by simp);have hlen:((n9 l g i).map Ho).length<maxLen:=by
    unfold n9 maxLen;simp;omega
   go_wp2_with (at_mapUpdate;refine p8 _ rfl _ _ _ rfl (w.heap.size+1) _ rfl tM hlen f.name _ rfl rfl hnl ?_;intro w5 jK xe);rw[←HE.out] at jK;refine⟨⟨i+1,hlt,by go_num,?_,eO xe Rk (by simp),eO xe Ro (by simp),mT.grown xe mT.size (λk e=>by cases e;omega)⟩,by simp only[intOf];omega⟩;rw[HW.out,List.map_append];exact jK
set_option maxRecDepth 8000 in
theorem qG {D:Nat→Prop} (fs:List aA) (m:Nat) (n:List UInt8) (w:World) (hs:dV D w m fs) (ha:mB fs) (hn:n.length≤maxLen):
 Calls Tryz.prog 75 #[.agg #[.map (some m)],str n] w λe w'=>∃v,e=.returned (.tuple #[v,.bool (ew fs n).isSome])∧(ew fs n=none→v=mD)∧(∀f,ew fs n=some f→dO D w' v f)∧Below w.heap.size w w':=by
 have hA:=(zb w).alloc zr (.cells #[.map (some m)] 84)
 have hB:=hA.alloc (by simp) (.cells #[.string ⟨#[]⟩,.int .u8 0,.bool false,.slice none 0 0,.slice none 0 0] 58)
 have Oa:dV (λb=>D b∧b<w.heap.size) w m fs:=by
  obtain⟨L,k1,k2,k3⟩:=hs;exact⟨L,k1,k2,λx hx=>(k3 x hx).fresh⟩
 obtain⟨v,hlk,h1,h2⟩:=(Oa.below hB zr).look ha hn
 rcases hq:ew fs n with _|f
 · obtain rfl:=h1 hq
   rw[hq] at hlk;have HQ:=zh hq;clear h1 h2 hq;dsimp only[Option.isSome_none] at hlk;go_enter Tryz.func75,Tryz.ntmps75;go_wp2_with fail;refine bodyPost_ret (v:=.tuple #[mD,.bool false]) (by simp[results,Tryz.results75,go_sem]) rfl ?_;exact⟨_,rfl,(λ_=>rfl),(λf hf=>by cases hf),(hB.alloc (by simp;omega) _)⟩
 · have hF:=h2 f hq
   rw[hq] at hlk;clear h1 h2 hq;dsimp only[Option.isSome_some] at hlk;obtain⟨nv,ov,rfl,hnl,hN,hO⟩:=hF;have Pa:dO (λb=>D b∧b<w.heap.size) _ (.agg #[str f.name,.int .u8 f.kind,.bool f.par,nv,ov]) f:=⟨nv,ov,rfl,hnl,hN,hO⟩;have HF:=λW hW=>dO.agree Pa (w':=W) hW
   clear Pa;obtain⟨p1,c1,rfl,_⟩:=hN.shape;obtain⟨p2,c2,rfl,_⟩:=hO.shape;clear hN hO;go_enter Tryz.func75,Tryz.ntmps75;go_wp2_with fail;refine bodyPost_ret (v:=.tuple #[.agg #[str f.name,.int .u8 f.kind,.bool f.par,.slice p1 f.ag.length c1,.slice p2 f.ops.length c2],.bool true]) (by simp[results,Tryz.results75,go_sem]) rfl ?_;have Kj:=((hA.alloc (by simp) (.cells #[.string ⟨f.name.toArray⟩,.int .u8 f.kind,.bool f.par,.slice p1 f.ag.length c1,.slice p2 f.ops.length c2] 58)).alloc (by simp;omega) (.cells #[.string ⟨f.name.toArray⟩,.int .u8 f.kind,.bool f.par,.slice p1 f.ag.length c1,.slice p2 f.ops.length c2] 58));refine⟨_,rfl,(λh=>by cases h),?_,Kj⟩;intro g hg;cases hg;refine(HF _ λb hb hlt=>?_).mono λb hb=>hb.1
   exact(Kj.block b hb.2).trans (hB.block b hb.2).symm
end
open Go.RowKit
set_option maxRecDepth 8000 in
theorem Ct (v:Value) (m:Nat) (nv:Value) (p:Bool) (t:List UInt8) (w:World) (hv:uM v m nv p t) (ht:t.length≤maxLen):
 Calls Tryz.prog 179 #[v] w λe w'=>∃u,e=.returned u∧cQ w.heap.size w' u [⟨[101,113,117,97,108],⟨false,[t,t],[98,111,111,108],[]⟩⟩]∧Below w.heap.size w w':=by
 obtain⟨rfl,q,n,c,rfl⟩:=hv
 have hA:=(zb w).alloc zr (.cells #[.map (some m),.slice q n c,.bool p,str t] 145)
 go_enter Tryz.func179,Tryz.ntmps179
 go_wp2_with (go_at_call 238;refine(j5 _ m _ _ t _ ⟨rfl,_,_,_,rfl⟩ ht).mono ?_;rintro e w1 ⟨u,rfl,⟨x,y,rfl,l1,r1,q1⟩,au⟩;obtain⟨p1,c1,rfl,_⟩:=r1.shape;obtain⟨p2,c2,rfl,_⟩:=q1.shape)
 go_ret
 have hs:=au.size
 simp only[World.size_alloc] at hs
 exact⟨_,rfl,jQ w1 (by omega) rfl (by unfold maxLen;simp) ⟨_,_,_,rfl,l1,r1,q1,rfl⟩,(hA.trans (af au (by simp))).alloc (by omega) _⟩
set_option maxRecDepth 8000 in
theorem BG (v:Value) (m:Nat) (nv:Value) (p:Bool) (t:List UInt8) (w:World) (hv:uM v m nv p t) (ht:t.length≤maxLen):
 Calls Tryz.prog 178 #[v] w λe w'=>∃u,e=.returned u∧cQ w.heap.size w' u [⟨[101,113,117,97,108],⟨false,[t,t],[98,111,111,108],[]⟩⟩,⟨[97,110,100],⟨false,[t,t],t,[]⟩⟩,⟨[111,114],⟨false,[t,t],t,[]⟩⟩,⟨[110,111,116],⟨false,[t],t,[]⟩⟩]∧Below w.heap.size w w':=by
 obtain⟨rfl,q,n,c,rfl⟩:=hv
 have bT:=heap_alloc_new w (.cells #[.map (some m),.slice q n c,.bool p,str t] 145)
 have hA:=(zb w).alloc zr (.cells #[.map (some m),.slice q n c,.bool p,str t] 145)
 go_enter Tryz.func178,Tryz.ntmps178
 go_upto_region 1 with fail
 have oN:=(aN bT).1
 refine vW (D:=λb=>w.heap.size≤b) (d:=some 2) 28 [(1,vP w.heap.size 0)] [.eq (.agg #[.map (some m),.slice q n c,.bool p,str t]),.op (cm t),vP w.heap.size 3,vT t,vP w.heap.size 3,vT t,vP w.heap.size 3,vT t,.ss [t,t],.sig ⟨false,[t,t],t,[]⟩,.op ⟨[97,110,100],⟨false,[t,t],t,[]⟩⟩,vP w.heap.size 3,vT t,vP w.heap.size 3,vT t,vP w.heap.size 3,vT t,.ss [t,t],.sig ⟨false,[t,t],t,[]⟩,.op ⟨[111,114],⟨false,[t,t],t,[]⟩⟩,vP w.heap.size 3,vT t,vP w.heap.size 3,vT t,.ss [t],.sig ⟨false,[t],t,[]⟩,.op ⟨[110,111,116],⟨false,[t],t,[]⟩⟩,.prop λw' v=>cQ w.heap.size w' v [cm t,⟨[97,110,100],⟨false,[t,t],t,[]⟩⟩,⟨[111,114],⟨false,[t,t],t,[]⟩⟩,⟨[110,111,116],⟨false,[t],t,[]⟩⟩],.prop λw' v=>cQ w.heap.size w' v [cm t,⟨[97,110,100],⟨false,[t,t],t,[]⟩⟩,⟨[111,114],⟨false,[t,t],t,[]⟩⟩,⟨[110,111,116],⟨false,[t],t,[]⟩⟩]] (λw'=>aZ [(⟨w.heap.size,0,none⟩,.map (some m)),(⟨w.heap.size,1,none⟩,.slice q n c),(⟨w.heap.size,2,none⟩,.bool p),(⟨w.heap.size,3,none⟩,str t)] w'∧Below w.heap.size w w') (by kernel_rfl) rfl rfl (λ_ _ h hb=>⟨h.1.below hb,h.2.trans (af hb h.2.size)⟩) ⟨b9 oN.1 (b9 oN.2.1 (b9 oN.2.2.1 (b9 oN.2.2.2 gy))),hA.drew⟩ ⟨rfl,trivial⟩ ?_ ?_
 · iterate 29
    refine And.intro ?_ ?_
    · first
      | exact oe rfl rfl (by kernel_rfl)
      | exact gN rfl (by kernel_rfl) rfl rfl (λw=>by simp[go_sem])
      | exact gv rfl (by kernel_rfl) rfl rfl (λw h=>by simp[go_sem,h.1.get 0 rfl,h.1.get 1 rfl,h.1.get 2 rfl,h.1.get 3 rfl])
      | exact EV rfl (by kernel_rfl) rfl rfl ht λ_ h=>h.2.size
      | exact Hz rfl rfl (by kernel_rfl) rfl rfl (by first|exact ht|simp[maxLen]) λ_ h=>h.2.size
      | exact Bz rfl rfl (by kernel_rfl) rfl rfl rfl (by first|exact ht|simp[maxLen]) (by first|exact ht|simp[maxLen]) λ_ h=>h.2.size
      | exact EZ rfl (by kernel_rfl) rfl rfl rfl (by first|exact ht|simp[maxLen])
      | exact EW rfl rfl (by kernel_rfl) rfl rfl rfl (by simp[maxLen])
      | exact Jm rfl rfl (by kernel_rfl) rfl rfl rfl rfl rfl λ_ h=>h.2.size
   exact trivial
 · intro aE u wE mo fM hu
   have hu:=hu wE (zb _);obtain⟨p2,c2,rfl⟩:=hu.shape;simp only[pq,pz,pw];go_wp2_with fail;go_ret;exact⟨_,rfl,hu,mo.2⟩
set_option maxRecDepth 8000 in
theorem zi (v:Value) (m:Nat) (nv:Value) (p:Bool) (t:List UInt8) (w:World) (hT:dW w) (har:(bQ t).1.length≤maxLen) (hv:uM v m nv p t) (ht:t.length≤maxLen):
 Calls Tryz.prog 180 #[v] w λe w'=>∃u,e=.returned u∧cQ w.heap.size w' u [⟨[101,113,117,97,108],⟨false,[t,t],[98,111,111,108],[]⟩⟩,⟨[97,100,100,104],⟨false,[t,(bQ t).1],[],[[111,118,101,114,102,108,111,119]]⟩⟩,⟨[102,101,116,99,104],⟨false,[t,[105,110,116]],(bQ t).1,[[98,111,117,110,100,115]]⟩⟩,⟨[110,101,119],⟨false,[],t,[]⟩⟩,⟨[114,101,109,104],⟨false,[t],(bQ t).1,[[98,111,117,110,100,115]]⟩⟩,⟨[115,105,122,101],⟨false,[t],[105,110,116],[]⟩⟩,⟨[115,116,111,114,101],⟨false,[t,[105,110,116],(bQ t).1],[],[[98,111,117,110,100,115]]⟩⟩]∧Below w.heap.size w w':=by
 obtain⟨rfl,q,n,c,rfl⟩:=hv
 have bT:=heap_alloc_new w (.cells #[.map (some m),.slice q n c,.bool p,str t] 145)
 have hA:=(zb w).alloc zr (.cells #[.map (some m),.slice q n c,.bool p,str t] 145)
 have HC:=q8 t ht (w.alloc (.cells #[.map (some m),.slice q n c,.bool p,str t] 145)) (hT.below hA zr)
 have bx:=(aN bT).1
 go_enter Tryz.func180,Tryz.ntmps180
 go_upto_region 2 with(go_at_call 121;refine HC.mono ?_;clear HC;rintro e w1 ⟨rfl,au⟩)
 have dI:=ah bT au
 have bL:=hA.trans (af au (by simp))
 clear bT hA bx au
 have oN:=(aN (w:=w1.drew) dI).1
 refine vW (D:=λb=>w.heap.size≤b) (d:=some 2) (w:=w1) 40 [(1,vP w.heap.size 0),(3,vT (bQ t).1)] [.eq (.agg #[.map (some m),.slice q n c,.bool p,str t]),.op (cm t),vP w.heap.size 3,vT t,vT (bQ t).1,.ss [t,(bQ t).1],.sig ⟨false,[t,(bQ t).1],[],[]⟩,.sig ⟨false,[t,(bQ t).1],[],[[111,118,101,114,102,108,111,119]]⟩,.op ⟨[97,100,100,104],⟨false,[t,(bQ t).1],[],[[111,118,101,114,102,108,111,119]]⟩⟩,vT (bQ t).1,vP w.heap.size 3,vT t,.ss [t,[105,110,116]],.sig ⟨false,[t,[105,110,116]],(bQ t).1,[]⟩,.sig ⟨false,[t,[105,110,116]],(bQ t).1,[[98,111,117,110,100,115]]⟩,.op ⟨[102,101,116,99,104],⟨false,[t,[105,110,116]],(bQ t).1,[[98,111,117,110,100,115]]⟩⟩,vP w.heap.size 3,vT t,.sig ⟨false,[],t,[]⟩,.op ⟨[110,101,119],⟨false,[],t,[]⟩⟩,vT (bQ t).1,vP w.heap.size 3,vT t,.ss [t],.sig ⟨false,[t],(bQ t).1,[]⟩,.sig ⟨false,[t],(bQ t).1,[[98,111,117,110,100,115]]⟩,.op ⟨[114,101,109,104],⟨false,[t],(bQ t).1,[[98,111,117,110,100,115]]⟩⟩,vP w.heap.size 3,vT t,.ss [t],.sig ⟨false,[t],[105,110,116],[]⟩,.op ⟨[115,105,122,101],⟨false,[t],[105,110,116],[]⟩⟩,vP w.heap.size 3,vT t,vT (bQ t).1,.ss [t,[105,110,116],(bQ t).1],.sig ⟨false,[t,[105,110,116],(bQ t).1],[],[]⟩,.sig ⟨false,[t,[105,110,116],(bQ t).1],[],[[98,111,117,110,100,115]]⟩,.op ⟨[115,116,111,114,101],⟨false,[t,[105,110,116],(bQ t).1],[],[[98,111,117,110,100,115]]⟩⟩,.prop λw' v=>cQ w.heap.size w' v [cm t,⟨[97,100,100,104],⟨false,[t,(bQ t).1],[],[[111,118,101,114,102,108,111,119]]⟩⟩,⟨[102,101,116,99,104],⟨false,[t,[105,110,116]],(bQ t).1,[[98,111,117,110,100,115]]⟩⟩,⟨[110,101,119],⟨false,[],t,[]⟩⟩,⟨[114,101,109,104],⟨false,[t],(bQ t).1,[[98,111,117,110,100,115]]⟩⟩,⟨[115,105,122,101],⟨false,[t],[105,110,116],[]⟩⟩,⟨[115,116,111,114,101],⟨false,[t,[105,110,116],(bQ t).1],[],[[98,111,117,110,100,115]]⟩⟩],.prop λw' v=>cQ w.heap.size w' v [cm t,⟨[97,100,100,104],⟨false,[t,(bQ t).1],[],[[111,118,101,114,102,108,111,119]]⟩⟩,⟨[102,101,116,99,104],⟨false,[t,[105,110,116]],(bQ t).1,[[98,111,117,110,100,115]]⟩⟩,⟨[110,101,119],⟨false,[],t,[]⟩⟩,⟨[114,101,109,104],⟨false,[t],(bQ t).1,[[98,111,117,110,100,115]]⟩⟩,⟨[115,105,122,101],⟨false,[t],[105,110,116],[]⟩⟩,⟨[115,116,111,114,101],⟨false,[t,[105,110,116],(bQ t).1],[],[[98,111,117,110,100,115]]⟩⟩]] (λw'=>aZ [(⟨w.heap.size,0,none⟩,.map (some m)),(⟨w.heap.size,1,none⟩,.slice q n c),(⟨w.heap.size,2,none⟩,.bool p),(⟨w.heap.size,3,none⟩,str t)] w'∧Below w.heap.size w w') (by kernel_rfl) rfl rfl (λ_ _ h hb=>⟨h.1.below hb,h.2.trans (af hb h.2.size)⟩) ⟨b9 oN.1 (b9 oN.2.1 (b9 oN.2.2.1 (b9 oN.2.2.2 gy))),bL.drew⟩ ⟨rfl,rfl,trivial⟩ ?_ ?_
 · iterate 41
    refine And.intro ?_ ?_
    · first
      | exact oe rfl rfl (by kernel_rfl)
      | exact gN rfl (by kernel_rfl) rfl rfl (λw=>by simp[go_sem])
      | exact gv rfl (by kernel_rfl) rfl rfl (λw h=>by simp[go_sem,h.1.get 0 rfl,h.1.get 1 rfl,h.1.get 2 rfl,h.1.get 3 rfl])
      | exact EV rfl (by kernel_rfl) rfl rfl ht λ_ h=>h.2.size
      | exact Hz rfl rfl (by kernel_rfl) rfl rfl (by first|exact ht|exact har|simp[maxLen]) λ_ h=>h.2.size
      | exact Bz rfl rfl (by kernel_rfl) rfl rfl rfl (by first|exact ht|exact har|simp[maxLen]) (by first|exact ht|exact har|simp[maxLen]) λ_ h=>h.2.size
      | exact OB rfl rfl (by kernel_rfl) rfl rfl rfl rfl (by simp[maxLen] at ht har ⊢;omega) λ_ h=>h.2.size
      | exact EZ rfl (by kernel_rfl) rfl rfl rfl (by first|exact ht|exact har|simp[maxLen])
      | exact Jo rfl (by kernel_rfl) rfl rfl rfl (by first|exact ht|exact har|simp[maxLen])
      | exact Lz rfl (by kernel_rfl) rfl rfl rfl (by simp[maxLen]) λ_ h=>h.2.size
      | exact EW rfl rfl (by kernel_rfl) rfl rfl rfl (by simp[maxLen])
      | exact Jn rfl rfl (by kernel_rfl) rfl rfl rfl rfl rfl rfl rfl rfl λ_ h=>h.2.size
   exact trivial
 · intro aE u wE mo fM hu
   have hu:=hu wE (zb _);obtain⟨p2,c2,rfl⟩:=hu.shape;simp only[pq,pz,pw];go_wp2_with fail;go_ret;exact⟨_,rfl,hu,mo.2⟩
end Go.Proofs.YtakgjcfkdemipaaGreatDoor
