/-
  Lemmas for the statement: contracts: the program's tree.inside: the iterator over the types inside a type. Contract: the program's tree.open: whether the parameter is inside a type. Conditions: bounds of lengths; the variable strings.asciiSpace.
-/
import Derived.Test.YtakgjcfkdemipaaGreatDoorZGn
import Derived.Test.YtakgjcfkdemipaaGreatDoorZG5
import Derived.Test.YtakgjcfkdemipaaGreatDoorZG7
set_option maxHeartbeats 3200000
namespace Go.Proofs.YtakgjcfkdemipaaGreatDoor
open Go.RowKit Go.Shelf
attribute [local go_sem] Oper.semAt_some
theorem jh (m:Nat):Fence.wide.depth.isSome=true→1≤m:=λh=>by simp[Fence.wide] at h
theorem Gv {m:Nat} (m':Nat) {P:Program} {l:Nat} {args:Array Value} {W:World} {R:Ending→World→Prop} (h:YieldAt Fence.wide m P l args W R):YieldAt Fence.wide m' P l args W R:=by
 obtain⟨fn,tmps,assign,body,hy,hR⟩:=h
 exact⟨fn,tmps,assign,body,hy,hR.1,λc cs _=>hR.2 c cs (room_wide _)⟩
section
variable {w₀:World} {n₀ n₁ Y V l N:Nat} {Q:Tr→Prop} {J Jx:List (TV w₀ n₀ Q)→World→Prop}
def nP (w₀:World) (n₀ n₁ Y V l N:Nat) {Q:Tr→Prop} (J Jx:List (TV w₀ n₀ Q)→World→Prop) (t:Tr):Prop:=
 ∀(m:Nat) (v:Value) (pre:List (TV w₀ n₀ Q)) (W:World),eX w₀ (λb=>b<n₀) t.sub v→Q t→mM w₀ n₀ n₁ Y V l W→J pre W→pre.length+t.ins.length≤N→
  CallsIn Fence.wide m Tryz.prog 214 #[.agg #[.int .u8 t.k,str t.n,v],.pointer (some ⟨Y,0,none⟩),.pointer (some ⟨V,0,none⟩)] W (DT n₁ J Jx (· =.returned (.bool true)) (· =.returned (.bool false)) pre t.ins W)
set_option maxRecDepth 4000 in
theorem Vg {t:Tr} (IH:nP w₀ n₀ n₁ Y V l N J Jx t) (hJ:∀pre W o,J pre W→J pre (W.alloc o)) (m:Nat) (pn:List UInt8) (v:Value) (pre:List (TV w₀ n₀ Q)) (W:World) (hv:eX w₀ (λb=>b<n₀) t.sub v) (hQ:Q t) (hE:mM w₀ n₀ n₁ Y V l W) (h0:J pre W) (hN:pre.length+t.ins.length≤N):
 CallsIn Fence.wide m Tryz.prog 216 #[.agg #[str pn,.int .u8 t.k,str t.n,v],.pointer (some ⟨V,0,none⟩)] W (DT n₁ J Jx (· =.returned (.bool false)) (· =.returned (.bool true)) pre t.ins W):=by
 have hp:=(hv.shape)
 obtain⟨p,c,rfl,_⟩:=hp
 have jE:=hE.alloc (.cells #[str pn,.int .u8 t.k,str t.n,.slice p t.sub.len c] 192)
 have XB:=IH (m - 1) (.slice p t.sub.len c) pre (W.alloc (.cells #[str pn,.int .u8 t.k,str t.n,.slice p t.sub.len c] 192)) hv hQ jE (hJ _ _ _ h0) hN
 have hk1:=(jP.refl n₀ n₁ W).alloc hE.size (.cells #[str pn,.int .u8 t.k,str t.n,.slice p t.sub.len c] 192)
 have hcv:=jE.cv
 clear IH
 refine callsIn_of_wp Tryz.func216 rfl trivial ?_ rfl
 simp only[Tryz.ntmps216,List.size_toArray,List.length_cons,List.length_nil,Nat.reduceAdd,Nat.reduceSub,Array.replicate_succ,Array.replicate_zero,List.push_toArray,List.append_toArray,List.nil_append,List.cons_append]
 gi_wp2_with (refine⟨trivial,jh _,?_⟩;gi_at_call 214;refine XB.mono ?_;rintro e W2 (⟨rfl,hx,hk⟩|⟨rfl,hx⟩))
 · go_ret
   exact .inl ⟨rfl,hx,hk1.trans hk⟩
 · go_ret
   exact .inr ⟨rfl,hx⟩
def MO (e:Ending):Prop:=∃i:Nat,e=.returned (.int .i64 i)
set_option maxRecDepth 4000 in
theorem RH {fo:Fo} (IH:∀pn t i,fo.at i=some (pn,t)→Q t∧nP w₀ n₀ n₁ Y V l N J Jx t) (hJ:∀pre W o,J pre W→J pre (W.alloc o)) (m:Nat) (v:Value) (pre:List (TV w₀ n₀ Q)) (W:World) (hv:eX w₀ (λb=>b<n₀) fo v) (hE:mM w₀ n₀ n₁ Y V l W) (h0:J pre W) (hN:pre.length+fo.ins.length≤N):
 CallsIn Fence.wide m Tryz.prog 256 #[v,.func (.func 216) #[] #[.pointer (some ⟨V,0,none⟩)]] W (DT n₁ J Jx (· =.returned (.int .i64 (-1))) MO pre fo.ins W):=by
 have hlen:=hv.yU
 obtain⟨p,c,rfl,_⟩:=hv.shape
 have HI:=Lib.hid (And.intro IH hJ)
 have HN:=Lib.hid hN
 clear IH hJ hN
 unfold maxLen at hlen
 refine callsIn_of_wp Tryz.func256 rfl trivial ?_ rfl
 simp only[Tryz.ntmps256,List.size_toArray,List.length_cons,List.length_nil,Nat.reduceAdd,Nat.reduceSub,Array.replicate_succ,Array.replicate_zero,List.push_toArray,List.append_toArray,List.nil_append,List.cons_append]
 gi_wp2
 gi_loopw [8] (λa wr=>∃i:Nat,i≤fo.len∧a=.int .i64 i∧mM w₀ n₀ n₁ Y V l wr∧jP n₀ n₁ W wr∧∃xs:List (TV w₀ n₀ Q),xs.map (λx=>x.1.1)=fo.lq i∧J (pre++xs) wr) (λa _=>fo.len - (intOf a).toNat)
 case atStart=>exact⟨0,Nat.zero_le _,rfl,hE,jP.refl _ _ _,[],by rw[Fo.um];rfl,by rw[List.append_nil];exact h0⟩
 case round=>
  obtain⟨i,hi,rfl,OH,hkr,xs,hxs,V6⟩:=hrel
  by_cases hlt:i<fo.len
  case pos=>
   obtain⟨g,c',pn,t,u,e,bY,hg,hat,x0,x1,x2,x3,hu⟩:=hv.at hlt;injection e with e1 _ e2;subst e1 e2;obtain⟨p',c',rfl,_⟩:=hu.shape;have y0:=(OH.low.cell (p:=⟨g,_,none⟩) (by exact bY)).trans x0;have y1:=(OH.low.cell (p:=⟨g,_,none⟩) (by exact bY)).trans x1;have y2:=(OH.low.cell (p:=⟨g,_,none⟩) (by exact bY)).trans x2;have y3:=(OH.low.cell (p:=⟨g,_,none⟩) (by exact bY)).trans x3;have ID:=fo.uk i pn t hat;have hxl:xs.length=(fo.lq i).length:=by rw[←hxs,List.length_map]
   have hpl:=(fo.rD (i+1)).length_le;rw[ID,List.length_append] at hpl;have Xr:=Vg (HI.out.1 pn t i hat).2 HI.out.2 (m - 1) pn (.slice p' t.sub.len c') (pre++xs) wr hu (HI.out.1 pn t i hat).1 OH V6 (by have:=HN.out;rw[List.length_append];omega);have HS:=Lib.hid ID;have HX:=Lib.hid hxs;clear x0 x1 x2 x3 ID hxl hpl hxs
   gi_wp2_with (refine⟨trivial,jh _,?_⟩;gi_at_call 216;refine Xr.mono ?_;rintro e W2 (⟨rfl,⟨ys,hys,hj⟩,hk⟩|⟨rfl,ys,hys,hj⟩))
   · refine⟨⟨i+1,hlt,by go_num,OH.kp hk,hkr.trans hk,xs++ys,by rw[List.map_append,HX.out,hys,HS.out],by rw[←List.append_assoc];exact hj⟩,by simp only[intOf];omega⟩
   · go_ret
     refine .inr ⟨⟨i,rfl⟩,xs++ys,?_,by rw[←List.append_assoc];exact hj⟩;rw[List.map_append,HX.out];exact((List.prefix_append_right_inj _).2 hys).trans (by rw[←HS.out];exact fo.rD (i+1))
  case neg=>
   have hie:i=fo.len:=by omega
   have HX:=Lib.hid (show xs.map (λx=>x.1.1)=fo.ins by rw[hxs,hie,Fo.xD]);clear hie hxs
   gi_wp2
   go_ret;exact .inl ⟨rfl,⟨xs,HX.out,V6⟩,hkr⟩
set_option maxRecDepth 4000 in
theorem Vf {fo:Fo} (IH:∀pn t i,fo.at i=some (pn,t)→Q t∧nP w₀ n₀ n₁ Y V l N J Jx t) (hJ:∀pre W o,J pre W→J pre (W.alloc o)) (m:Nat) (v:Value) (pre:List (TV w₀ n₀ Q)) (W:World) (hv:eX w₀ (λb=>b<n₀) fo v) (hE:mM w₀ n₀ n₁ Y V l W) (h0:J pre W) (hN:pre.length+fo.ins.length≤N):
 CallsIn Fence.wide m Tryz.prog 215 #[v,.func (.func 216) #[] #[.pointer (some ⟨V,0,none⟩)]] W (DT n₁ J Jx (· =.returned (.bool false)) (· =.returned (.bool true)) pre fo.ins W):=by
 have H:=RH IH hJ (m - 1) v pre W hv hE h0 hN
 clear IH hJ
 obtain⟨p,c,rfl,_⟩:=hv.shape
 refine callsIn_of_wp Tryz.func215 rfl trivial ?_ rfl
 simp only[Tryz.ntmps215,List.size_toArray,List.length_cons,List.length_nil,Nat.reduceAdd,Nat.reduceSub,Array.replicate_succ,Array.replicate_zero,List.push_toArray,List.append_toArray,List.nil_append,List.cons_append]
 gi_wp2_with (refine⟨trivial,jh _,?_⟩;gi_at_call 256;refine H.mono ?_;clear H;rintro e W2 (⟨rfl,hx,hk⟩|⟨⟨i,rfl⟩,hx⟩))
 · go_ret
   exact .inl ⟨rfl,hx,hk⟩
 · go_ret
   exact .inr ⟨by simp,hx⟩
set_option maxRecDepth 4000 in
theorem Ve (t:Tr) (IH:∀pn u i,t.sub.at i=some (pn,u)→Q u∧nP w₀ n₀ n₁ Y V l N J Jx u) (hJ:∀pre W o,J pre W→J pre (W.alloc o))
 (hY:∀(m:Nat) (pre:List (TV w₀ n₀ Q)) (x:TV w₀ n₀ Q) (W:World),J pre W→pre.length<N→YieldAt Fence.wide m Tryz.prog l #[.agg #[.int .u8 x.1.1.k,str x.1.1.n,x.1.2]] W λe W'=>
  (e=.returned (.bool true)∧J (pre++[x]) W'∧jP n₀ n₁ W W')∨(e=.returned (.bool false)∧Jx (pre++[x]) W')):nP w₀ n₀ n₁ Y V l N J Jx t:=by
 intro m v pre W hv hQ hE h0 hN
 obtain⟨p,c,rfl,_⟩:=hv.shape
 have jE:=hE.alloc (.cells #[.int .u8 t.k,str t.n,.slice p t.sub.len c] 174)
 have hrow:=heap_alloc_new W (.cells #[.int .u8 t.k,str t.n,.slice p t.sub.len c] 174)
 have hk1:=(jP.refl n₀ n₁ W).alloc hE.size (.cells #[.int .u8 t.k,str t.n,.slice p t.sub.len c] 174)
 have V4:=hJ _ _ (.cells #[.int .u8 t.k,str t.n,.slice p t.sub.len c] 174) h0
 have Y2:=jE.cy
 have hB:n₁≤W.heap.size:=by
  have:=(Array.getElem?_eq_some_iff.1 hE.y).1;have:=hE.ny;omega
 unfold Tr.ins at hN
 rw[List.length_cons] at hN
 obtain⟨fn,tmps,assign,body,hy,hR⟩:=hY (m - 1) pre ⟨(t,.slice p t.sub.len c),hv,hQ⟩ (W.alloc (.cells #[.int .u8 t.k,str t.n,.slice p t.sub.len c] 174)) V4 (by omega)
 dsimp only at hy
 have HI:=Lib.hid (And.intro IH hJ)
 clear IH hJ hY
 refine callsIn_of_wp Tryz.func214 rfl trivial ?_ rfl
 simp only[Tryz.ntmps214,List.size_toArray,List.length_cons,List.length_nil,Nat.reduceAdd,Nat.reduceSub,Array.replicate_succ,Array.replicate_zero,List.push_toArray,List.append_toArray,List.nil_append,List.cons_append]
 gi_wp2
 refine⟨jh _,?_⟩
 refine hR.mono ?_
 clear hR hy
 rintro e W2 (⟨rfl,V5,hk2⟩|⟨rfl,TO⟩)
 · have sV:=jE.kp hk2
   have qz:=hk2.high _ _ _ _ hB hrow (by decide);have c2:=(ak qz 2).trans rfl;have Vz:=Vf HI.out.1 HI.out.2 (m - 1) (.slice p t.sub.len c) (pre++[⟨(t,.slice p t.sub.len c),hv,hQ⟩]) W2 hv sV V5 (by rw[List.length_append,List.length_singleton];omega);clear sV qz jE hrow Y2 V4 V5
   gi_wp2_with (refine⟨trivial,jh _,?_⟩;gi_at_call 215;refine Vz.mono ?_;clear Vz;rintro e W3 (⟨rfl,⟨ys,hys,hj⟩,Ce⟩|⟨rfl,ys,hys,hj⟩))
   · go_ret
     refine .inl ⟨rfl,⟨⟨(t,.slice p t.sub.len c),hv,hQ⟩::ys,by rw[List.map_cons,hys];rfl,?_⟩,(hk1.trans hk2).trans Ce⟩;rw[List.append_assoc] at hj;exact hj
   · go_ret
     refine .inr ⟨rfl,⟨(t,.slice p t.sub.len c),hv,hQ⟩::ys,?_,?_⟩
     · rw[List.map_cons];exact(List.prefix_cons_inj _).2 hys
     · rw[List.append_assoc] at hj
       exact hj
 · gi_wp2
   go_ret;exact .inr ⟨rfl,[⟨(t,.slice p t.sub.len c),hv,hQ⟩],by rw[List.map_cons,List.map_nil];exact(List.prefix_cons_inj _).2 List.nil_prefix,TO⟩
theorem Gn (hH:DR Q) (hJ:∀pre W o,J pre W→J pre (W.alloc o))
 (hY:∀(m:Nat) (pre:List (TV w₀ n₀ Q)) (x:TV w₀ n₀ Q) (W:World),J pre W→pre.length<N→YieldAt Fence.wide m Tryz.prog l #[.agg #[.int .u8 x.1.1.k,str x.1.1.n,x.1.2]] W λe W'=>
  (e=.returned (.bool true)∧J (pre++[x]) W'∧jP n₀ n₁ W W')∨(e=.returned (.bool false)∧Jx (pre++[x]) W')):
 ∀(k:Nat) (t:Tr),t.sub.level<k→nP w₀ n₀ n₁ Y V l N J Jx t:=by
 intro k
 induction k with
 | zero=>intro t h;omega
 | succ k ih=>
  intro t h m v pre W hv hQ hE h0 hN;exact Ve t (λpn u i hat=>⟨hH t i pn u hQ hat,ih u (by have:=t.sub.kU i pn u hat;omega)⟩) hJ hY m v pre W hv hQ hE h0 hN
set_option maxRecDepth 4000 in
theorem Vd (hH:DR Q) (t:Tr) (hQ:Q t) (hJ:∀pre W o,J pre W→J pre (W.alloc o))
 (hY:∀(m:Nat) (pre:List (TV w₀ n₀ Q)) (x:TV w₀ n₀ Q) (W:World),J pre W→pre.length<t.ins.length→YieldAt Fence.wide m Tryz.prog l #[.agg #[.int .u8 x.1.1.k,str x.1.1.n,x.1.2]] W λe W'=>
  (e=.returned (.bool true)∧J (pre++[x]) W'∧jP n₀ n₁ W W')∨(e=.returned (.bool false)∧Jx (pre++[x]) W')) (m:Nat) (v:Value) (B:Nat) (W:World)
 (hb:Below n₀ w₀ W) (Tn:n₀≤n₁) (h1:n₁≤W.heap.size) (hv:eX w₀ (λb=>b<n₀) t.sub v) (hB:W.heap[B]? =some (.cells #[.int .u8 t.k,str t.n,v] 174 (0,0))) (h0:J [] W):
 CallsIn Fence.wide m Tryz.prog 213 #[.func (.yield l) #[] #[],.pointer (some ⟨B,0,none⟩)] W λe W'=>(∃v,e=.returned v)∧((∃xs:List (TV w₀ n₀ Q),xs.map (λx=>x.1.1)=t.ins∧J xs W')∨(∃xs:List (TV w₀ n₀ Q),xs.map (λx=>x.1.1)<+:t.ins∧Jx xs W')):=by
 obtain⟨p,c,rfl,_⟩:=hv.shape
 have HV:=Lib.hid (Gn (Y:=W.heap.size) (V:=W.heap.size+1) hH hJ hY (t.sub.level+1) t (Nat.lt_succ_self _))
 clear hY
 have bW:=aH (.cells #[.func (.func 214) #[] #[.pointer (some ⟨W.heap.size,0,none⟩),.pointer (some ⟨W.heap.size+1,0,none⟩)]] 220) (aH (.cells #[.func (.yield l) #[] #[]] 220) hB)
 have c0:=(ak bW 0).trans rfl
 have c1:=(ak bW 1).trans rfl
 have c2:=(ak bW 2).trans rfl
 have hE:mM w₀ n₀ n₁ W.heap.size (W.heap.size+1) l ((W.alloc (.cells #[.func (.yield l) #[] #[]] 220)).alloc (.cells #[.func (.func 214) #[] #[.pointer (some ⟨W.heap.size,0,none⟩),.pointer (some ⟨W.heap.size+1,0,none⟩)]] 220)):=
  ⟨(hb.alloc (by omega) _).alloc (by simp;omega) _,aH _ (heap_alloc_new W _),dD (by simp) _ _,by omega,by omega,Tn⟩
 have Vy:=HV.out m.pred (.slice p t.sub.len c) [] _ hv hQ hE (hJ _ _ _ (hJ _ _ _ h0)) (by rw[List.length_nil,Nat.zero_add];exact nl _)
 clear hE hB bW hb
 refine callsIn_of_wp Tryz.func213 rfl trivial ?_ rfl
 simp only[Tryz.ntmps213,List.size_toArray,List.length_cons,List.length_nil,Nat.reduceAdd,Nat.reduceSub,Array.replicate_succ,Array.replicate_zero,List.push_toArray,List.append_toArray,List.nil_append,List.cons_append]
 gi_wp2_with (refine⟨trivial,jh _,?_⟩;gi_at_call 214;refine Vy.mono ?_;clear Vy;rintro e W3 (⟨rfl,⟨ys,hys,hj⟩,Ce⟩|⟨rfl,ys,hys,hj⟩))
 · go_end0
   exact⟨⟨_,rfl⟩,.inl ⟨ys,hys,hj⟩⟩
 · go_end0
   exact⟨⟨_,rfl⟩,.inr ⟨ys,hys,hj⟩⟩
end
theorem lR {w₀ w:World} {n₀ n₁ B:Nat} {Q:Tr→Prop} (hH:DR Q) (t:Tr) (hQ:Q t) (v:Value) (n:Nat) (hb:Below n₀ w₀ w) (Tn:n₀≤n₁) (h1:n₁≤w.heap.size) (hv:eX w₀ (λb=>b<n₀) t.sub v) (hB:w.heap[B]? =some (.cells #[.int .u8 t.k,str t.n,v] 174 (0,0))):
 SeqStopsK Fence.wide n Tryz.prog 213 #[.pointer (some ⟨B,0,none⟩)] (λx:TV w₀ n₀ Q=> #[Value.agg #[.int .u8 x.1.1.k,str x.1.1.n,x.1.2]]) (jP n₀ n₁) (λxs=>xs.map (λx=>x.1.1)=t.ins) (λxs=>xs.map (λx=>x.1.1)<+:t.ins) t.ins.length w:=
 λl J Jx W hW hJ _ hY h0=>
  Vd hH t hQ (λpre W' o h=>hJ pre W' _ none h (World.grownBy_alloc W' o none) (λr e=>by cases e)) (λm pre x W' hj hl=>Gv m (hY pre x W' hj hl)) n v B W (hb.trans (hW.mono (by omega))) Tn (Nat.le_trans h1 hW.size) hv ((hW.block B (Array.getElem?_eq_some_iff.1 hB).1).trans hB) h0
theorem pK (k:Nat) (n:List UInt8) (p:Option Addr) (l c:Nat) (m:Nat) (w:World):CallsIn Fence.wide m Tryz.prog 158 #[.agg #[.int .u8 k,str n,.slice p l c]] w λe w'=>e=.returned (.func (.func 213) #[] #[.pointer (some ⟨w.heap.size,0,none⟩)])∧w'=w.alloc (.cells #[.int .u8 k,str n,.slice p l c] 174):=by
 refine callsIn_of_wp Tryz.func158 rfl trivial ?_ rfl
 simp only[Tryz.ntmps158,List.size_toArray,List.length_cons,List.length_nil,Nat.reduceAdd,Nat.reduceSub,Array.replicate_succ,Array.replicate_zero,List.push_toArray,List.append_toArray,List.nil_append,List.cons_append]
 gi_wp2
 go_ret
 exact⟨rfl,rfl⟩
end Go.Proofs.YtakgjcfkdemipaaGreatDoor
namespace Go.Proofs.YtakgjcfkdemipaaGreatDoor
open Go.RowKit Go.Shelf
attribute [local go_sem] Oper.semAt_some
theorem Fo.oc:∀fo:Fo,fo.ins.any (λt=>decide (t.k=8))=fo.pS
 | .nil=>rfl
 | .cons pn k n sub rest=>by
  rw[Fo.ins,List.any_cons,List.any_append,Fo.oc sub,Fo.oc rest,Fo.pS,Bool.or_assoc]
theorem Tr.oc (t:Tr):t.ins.any (λt=>decide (t.k=8))=t.pS:=by
 rw[Tr.ins,List.any_cons,Fo.oc,Tr.pS]
def Je {w₀:World} {n₀:Nat} {Q:Tr→Prop} (pre:List (TV w₀ n₀ Q)):Bool:=pre.any (λx=>decide (x.1.1.k=8))
theorem xV {w₀:World} {n₀:Nat} {Q:Tr→Prop} (pre:List (TV w₀ n₀ Q)) (x:TV w₀ n₀ Q):Je (pre++[x])=(Je pre||decide (x.1.1.k=8)):=by simp[Je]
theorem nw {β:Type} (B:Nat) (cs:β→Array Value) (t:TypeId) (z:Nat×Nat):Own (λs W=>W.heap[B]? =some (.cells (cs s) t z)):=λs X Y row hs hg hrow=>
 (hg.block B (Array.getElem?_eq_some_iff.1 hs).1 (λe=>by
  obtain⟨o,ho,hc⟩:=hrow B e.symm;rw[hs] at ho;cases ho;cases hc)).trans hs
theorem BI {β:Type} (B k:Nat):OwnFrom B (λ(_:β) W=>k≤W.heap.size):=λ_ _ _ _ hs hg _=>Nat.le_trans hs hg.size
theorem Ba {β:Type}:Own (λ(_:β) (_:World)=>False):=λ_ _ _ _ hs _ _=>hs
set_option maxRecDepth 4000 in
theorem Ja (t:Tr) (w:World) (D:Nat→Prop) (v:Value) (hv:eX w D t.sub v):
 Calls Tryz.prog 174 #[.agg #[.int .u8 t.k,str t.n,v]] w λe w'=>e=.returned (.bool t.pS)∧Below w.heap.size w w':=by
 have WQ:=hv.mono (D':=λb=>b<w.heap.size) λ_ _ h=>h
 obtain⟨p,c,rfl,_⟩:=hv.shape
 refine(callsIn_wide (n:=6)).1 ?_
 refine callsIn_of_wp_marks Tryz.func174 rfl trivial ?_ rfl
 simp only[Tryz.ntmps174,List.size_toArray,List.length_cons,List.length_nil,Nat.reduceAdd,Nat.reduceSub,Array.replicate_succ,Array.replicate_zero,List.push_toArray,List.append_toArray,List.nil_append,List.cons_append]
 gi_wp2_with (refine⟨trivial,?_⟩;gi_at_call 158;refine(pK _ _ _ _ _ _ _).mono ?_;rintro e w' ⟨rfl,rfl⟩)
 have hz1:(w.alloc (.cells #[.int .u8 t.k,str t.n,.slice p t.sub.len c] 174)).heap.size=w.heap.size+1:=by simp
 have hz2:((w.alloc (.cells #[.int .u8 t.k,str t.n,.slice p t.sub.len c] 174)).alloc (.cells #[.bool false] 4)).heap.size=w.heap.size+1+1:=by simp
 have hb0:Below w.heap.size w (((w.alloc (.cells #[.int .u8 t.k,str t.n,.slice p t.sub.len c] 174)).alloc (.cells #[.bool false] 4)).alloc (.cells #[.int .u8 t.k,str t.n,.slice p t.sub.len c] 174)):=(((Below.refl _ w).alloc (nl _) _).alloc (by simp) _).alloc (by simp;omega) _
 have hr2:=aH (.cells #[.int .u8 t.k,str t.n,.slice p t.sub.len c] 174) (dD hz1 #[.bool false] 4)
 have hr3:=dD hz2 #[.int .u8 t.k,str t.n,.slice p t.sub.len c] 174
 have CR:(((w.alloc (.cells #[.int .u8 t.k,str t.n,.slice p t.sub.len c] 174)).alloc (.cells #[.bool false] 4)).alloc (.cells #[.int .u8 t.k,str t.n,.slice p t.sub.len c] 174)).heap.size=w.heap.size+3:=by simp
 clear hz1 hz2
 generalize ((w.alloc (.cells #[.int .u8 t.k,str t.n,.slice p t.sub.len c] 174)).alloc (.cells #[.bool false] 4)).alloc (.cells #[.int .u8 t.k,str t.n,.slice p t.sub.len c] 174)=W0 at *
 have nB:w.heap.size≤W0.heap.size:=by omega
 have Zg:w.heap.size+3≤W0.heap.size:=by omega
 clear CR
 refine wpIn_rangeFunc_ownH (α:=TV w w.heap.size (λ_=>True)) rfl (show 1≤6 by decide) (gf:=213) (lb:= #[.pointer (some ⟨w.heap.size+1+1,0,none⟩)]) rfl trivial (enters_of Tryz.func213 (by kernel_rfl) rfl)
  (lR (w₀:=w) (n₀:=w.heap.size) (n₁:=W0.heap.size) (λ_ _ _ _ _ _=>trivial) t trivial _ 5 hb0 nB (nl _) WQ hr3) (λh k=>h.trans k) (jP.book nB) (Below.refl _ _) (λ_=>rfl)
  (λpre W=>((W.heap[w.heap.size+1]? =some (.cells #[.bool false] 4 (0,0))∧Je pre=false)∧Below w.heap.size w W∧W0.heap.size≤W.heap.size))
  (λcd pre W=>((W.heap[w.heap.size+1]? =some (.cells #[.bool true] 4 (0,0))∧cd=.ret∧Je pre=true)∧Below w.heap.size w W∧W0.heap.size≤W.heap.size))
  (OwnFrom.and (OwnFrom.and (Own.from (nw _ (λ_=> #[.bool false]) _ _) _) (ownFrom_pure _ _)) (OwnFrom.and (ownFrom_below (nl _) nB) (BI _ _)))
  (λ_=>OwnFrom.and (OwnFrom.and (Own.from (nw _ (λ_=> #[.bool true]) _ _) _) (ownFrom_pure _ _)) (OwnFrom.and (ownFrom_below (nl _) nB) (BI _ _)))
  ⟨⟨hr2,rfl⟩,hb0,nl _⟩
  (λx a' W=>∃Bx,W0.heap.size≤Bx∧W.heap[Bx]? =some (.cells #[.int .u8 x.1.1.k,str x.1.1.n,x.1.2] 174 (0,0))∧
   a'={tmps:= #[.agg #[.int .u8 t.k,str t.n,.slice p t.sub.len c],.pointer (some ⟨w.heap.size,0,none⟩),.pointer (some ⟨w.heap.size+1,0,none⟩),.pointer (some ⟨Bx,0,none⟩),.agg #[.int .u8 t.k,str t.n,.slice p t.sub.len c],.func (.func 213) #[] #[.pointer (some ⟨w.heap.size+1+1,0,none⟩)],.agg #[.int .u8 x.1.1.k,str x.1.1.n,x.1.2],undef,undef,undef],defers:=[] })
  (λx a' _ W W' row ⟨Bx,h1,h2,h3⟩ hg hr=>⟨Bx,h1,(nw (β:=Unit) Bx (λ_=> #[.int .u8 x.1.1.k,str x.1.1.n,x.1.2]) _ _) () W W' row h2 hg (λr e=>(hr r e).2),h3⟩) ?assign ?body ?done ?stop
 case assign=>
  rintro l pre ⟨⟨u,vu⟩,hu,KG⟩ W K ⟨⟨hc,hp⟩,hB,hS⟩ hK;obtain⟨pu,cu,e,_⟩:=eX.shape (fo:=u.sub) (v:=vu) hu;subst e;dsimp only at hK ⊢;have hsz:=hB.size;have hlt:=(Array.getElem?_eq_some_iff.1 hc).1
  gi_wp2
  exact hK _ _ ((KeepsOthers.alloc _ _).from _) ((jP.refl _ _ _).alloc (by omega) _) ⟨⟨aH _ hc,hp⟩,hB.alloc hsz _,by simp;omega⟩ ⟨W.heap.size,hS,heap_alloc_new W _,rfl⟩
 case body=>
  rintro l pre ⟨⟨u,vu⟩,hu,KG⟩ a' W hl ⟨r,hr⟩ ⟨⟨hc,hp⟩,hB,hS⟩ ⟨Bx,CD,hX,rfl⟩ hlt;obtain⟨pu,cu,e,_⟩:=eX.shape (fo:=u.sub) (v:=vu) hu;subst e;dsimp only at hX ⊢;have c0:=(ak hX 0).trans rfl;have c1:=(ak hc 0).trans rfl;have f1:=aC hc 0
  by_cases h8:u.k=8
  · have e8:((u.k:Int)==8)=true:=by rw[h8];rfl
    have H8:=Lib.hid h8;clear h8
    gi_wp2
    exact⟨(KeepsOthers.setCell _ _ _).from _,⟨ep hc 0 (.bool true),rfl,by rw[xV];simp only[H8.out];simp⟩,hB.setCell (p:=⟨w.heap.size+1,0,none⟩) (by simp) _,by simpa[World.setCell] using hS⟩
  · have e8:((u.k:Int)==8)=false:=by rw[beq_eq_false_iff_ne];omega
    have H8:=Lib.hid h8;clear h8
    gi_wp2
    exact⟨KeepsFrom.refl _ _,jP.refl _ _ _,⟨hc,by rw[xV,hp,Bool.false_or,decide_eq_false_iff_not];exact H8.out⟩,hB,hS⟩
 case done=>
  rintro D' xs W hD hxs ⟨⟨hc,hp⟩,hB,hS⟩ hK;have hop:t.pS=false:=by
   rw[←Tr.oc,←hxs,List.any_map];exact hp
  have HP:=Lib.hid hop;clear hop;have c1:=(ak hc 0).trans rfl;have f1:=aC hc 0
  gi_wp2
  have TP:=(KeepsOthers.setCell W ⟨w.heap.size+1,0,none⟩ (.bool false)).same D' _ hK rfl;refine⟨by simp,.inl ⟨_,_,rfl,run_takeDeferred TP,?_⟩⟩;have rC:=cell_kept ((ak (ep hc 0 (.bool false)) 0).trans rfl) (grownBy_putObj' _ D' (.deferred none)) (λr e=>by cases e;exact⟨_,TP,rfl⟩);refine⟨.bool false,?_,by rw[HP.out],?_⟩
  · simp[results,Tryz.f174,go_sem,rC]
  · exact(hB.setCell (p:=⟨w.heap.size+1,0,none⟩) (by simp) _).trans (belowK_b (w:=w) (nl _) _ D' _ _ (by omega) TP rfl rfl)
 case stop=>
  rintro D' cd pre W hD hxs ⟨⟨hc,rfl,hp⟩,hB,hS⟩ hK;have hop:t.pS=true:=by
   rw[←Tr.oc];obtain⟨r,hr⟩:=hxs;rw[←hr,List.any_append,List.any_map];rw[show pre.any ((λt=>decide (t.k=8)) ∘ λx=>x.1.1)=true from hp]
   rfl
  have HP:=Lib.hid hop;clear hop
  gi_wp2
  refine⟨by simp,.inl ⟨_,_,rfl,run_takeDeferred hK,?_⟩⟩;have rC:=cell_kept ((ak hc 0).trans rfl) (grownBy_putObj' _ D' (.deferred none)) (λr e=>by cases e;exact⟨_,hK,rfl⟩);refine⟨.bool true,?_,by rw[HP.out],?_⟩
  · simp[results,Tryz.f174,go_sem,rC]
  · exact hB.trans (belowK_b (w:=w) (nl _) _ D' _ _ (by omega) hK rfl rfl)
end Go.Proofs.YtakgjcfkdemipaaGreatDoor
