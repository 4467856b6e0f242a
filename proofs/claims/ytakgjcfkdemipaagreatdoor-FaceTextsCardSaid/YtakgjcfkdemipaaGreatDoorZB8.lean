/-
  Lemmas for the statement: contract: the program's tree.open: whether the parameter is inside a type. Conditions: bounds of lengths; the variable strings.asciiSpace.
-/
import Derived.Test.YtakgjcfkdemipaaGreatDoorZBn
import Derived.Test.YtakgjcfkdemipaaGreatDoorZB5
import Derived.Test.YtakgjcfkdemipaaGreatDoorZB7
set_option maxHeartbeats 3200000
namespace Go.Proofs.YtakgjcfkdemipaaGreatDoor
open Go.RowKit Go.Shelf
attribute [local go_sem] Oper.semAt_some
theorem gO (m:Nat):Fence.wide.depth.isSome=true→1≤m:=λh=>by simp[Fence.wide] at h
theorem C2 {m:Nat} (m':Nat) {P:Program} {l:Nat} {args:Array Value} {W:World} {R:Ending→World→Prop} (h:YieldAt Fence.wide m P l args W R):YieldAt Fence.wide m' P l args W R:=by
 obtain⟨fn,tmps,assign,body,hy,hR⟩:=h
 exact⟨fn,tmps,assign,body,hy,hR.1,λc cs _=>hR.2 c cs (room_wide _)⟩
section
variable {w₀:World} {n₀ n₁ Y V l N:Nat} {Q:Tr→Prop} {J Jx:List (TV w₀ n₀ Q)→World→Prop}
def lK (w₀:World) (n₀ n₁ Y V l N:Nat) {Q:Tr→Prop} (J Jx:List (TV w₀ n₀ Q)→World→Prop) (t:Tr):Prop:=
 ∀(m:Nat) (v:Value) (pre:List (TV w₀ n₀ Q)) (W:World),dB w₀ (λb=>b<n₀) t.sub v→Q t→kL w₀ n₀ n₁ Y V l W→J pre W→pre.length+t.ins.length≤N→
  CallsIn Fence.wide m Tryz.prog 214 #[.agg #[.int .u8 t.k,str t.n,v],.pointer (some ⟨Y,0,none⟩),.pointer (some ⟨V,0,none⟩)] W (AU n₁ J Jx (· =.returned (.bool true)) (· =.returned (.bool false)) pre t.ins W)
set_option maxRecDepth 4000 in
theorem Oo {t:Tr} (IH:lK w₀ n₀ n₁ Y V l N J Jx t) (hJ:∀pre W o,J pre W→J pre (W.alloc o)) (m:Nat) (pn:List UInt8) (v:Value) (pre:List (TV w₀ n₀ Q)) (W:World) (hv:dB w₀ (λb=>b<n₀) t.sub v) (hQ:Q t) (hE:kL w₀ n₀ n₁ Y V l W) (h0:J pre W) (hN:pre.length+t.ins.length≤N):
 CallsIn Fence.wide m Tryz.prog 216 #[.agg #[str pn,.int .u8 t.k,str t.n,v],.pointer (some ⟨V,0,none⟩)] W (AU n₁ J Jx (· =.returned (.bool false)) (· =.returned (.bool true)) pre t.ins W):=by
 have hp:=(hv.shape)
 obtain⟨p,c,rfl,_⟩:=hp
 have ig:=hE.alloc (.cells #[str pn,.int .u8 t.k,str t.n,.slice p t.sub.len c] 192)
 have QF:=IH (m - 1) (.slice p t.sub.len c) pre (W.alloc (.cells #[str pn,.int .u8 t.k,str t.n,.slice p t.sub.len c] 192)) hv hQ ig (hJ _ _ _ h0) hN
 have hk1:=(iK.refl n₀ n₁ W).alloc hE.size (.cells #[str pn,.int .u8 t.k,str t.n,.slice p t.sub.len c] 192)
 have hcv:=ig.cv
 clear IH
 refine callsIn_of_wp Tryz.func216 rfl trivial ?_ rfl
 simp only[Tryz.ntmps216,List.size_toArray,List.length_cons,List.length_nil,Nat.reduceAdd,Nat.reduceSub,Array.replicate_succ,Array.replicate_zero,List.push_toArray,List.append_toArray,List.nil_append,List.cons_append]
 gi_wp2_with (refine⟨trivial,gO _,?_⟩;gi_at_call 214;refine QF.mono ?_;rintro e W2 (⟨rfl,hx,hk⟩|⟨rfl,hx⟩))
 · go_ret
   exact .inl ⟨rfl,hx,hk1.trans hk⟩
 · go_ret
   exact .inr ⟨rfl,hx⟩
def Ib (e:Ending):Prop:=∃i:Nat,e=.returned (.int .i64 i)
set_option maxRecDepth 4000 in
theorem Lj {fo:Fo} (IH:∀pn t i,fo.at i=some (pn,t)→Q t∧lK w₀ n₀ n₁ Y V l N J Jx t) (hJ:∀pre W o,J pre W→J pre (W.alloc o)) (m:Nat) (v:Value) (pre:List (TV w₀ n₀ Q)) (W:World) (hv:dB w₀ (λb=>b<n₀) fo v) (hE:kL w₀ n₀ n₁ Y V l W) (h0:J pre W) (hN:pre.length+fo.ins.length≤N):
 CallsIn Fence.wide m Tryz.prog 256 #[v,.func (.func 216) #[] #[.pointer (some ⟨V,0,none⟩)]] W (AU n₁ J Jx (· =.returned (.int .i64 (-1))) Ib pre fo.ins W):=by
 have hlen:=hv.vn
 obtain⟨p,c,rfl,_⟩:=hv.shape
 have HI:=zh (And.intro IH hJ)
 have HN:=zh hN
 clear IH hJ hN
 unfold maxLen at hlen
 refine callsIn_of_wp Tryz.func256 rfl trivial ?_ rfl
 simp only[Tryz.ntmps256,List.size_toArray,List.length_cons,List.length_nil,Nat.reduceAdd,Nat.reduceSub,Array.replicate_succ,Array.replicate_zero,List.push_toArray,List.append_toArray,List.nil_append,List.cons_append]
 gi_wp2
 gi_loopw [8] (λa wr=>∃i:Nat,i≤fo.len∧a=.int .i64 i∧kL w₀ n₀ n₁ Y V l wr∧iK n₀ n₁ W wr∧∃xs:List (TV w₀ n₀ Q),xs.map (λx=>x.1.1)=fo.jM i∧J (pre++xs) wr) (λa _=>fo.len - (intOf a).toNat)
 case atStart=>exact⟨0,Nat.zero_le _,rfl,hE,iK.refl _ _ _,[],by rw[Fo.qZ];rfl,by rw[List.append_nil];exact h0⟩
 case round=>
  obtain⟨i,hi,rfl,JJ,hkr,xs,hxs,Pe⟩:=hrel
  by_cases hlt:i<fo.len
  case pos=>
   obtain⟨g,c',pn,t,u,e,lp,hg,hat,x0,x1,x2,x3,hu⟩:=hv.at hlt;injection e with e1 _ e2;subst e1 e2;obtain⟨p',c',rfl,_⟩:=hu.shape;have y0:=(JJ.low.cell (p:=⟨g,_,none⟩) (by exact lp)).trans x0;have y1:=(JJ.low.cell (p:=⟨g,_,none⟩) (by exact lp)).trans x1;have y2:=(JJ.low.cell (p:=⟨g,_,none⟩) (by exact lp)).trans x2;have y3:=(JJ.low.cell (p:=⟨g,_,none⟩) (by exact lp)).trans x3;have D4:=fo.qY i pn t hat;have hxl:xs.length=(fo.jM i).length:=by rw[←hxs,List.length_map]
   have hpl:=(fo.oz (i+1)).length_le;rw[D4,List.length_append] at hpl;have Qy:=Oo (HI.out.1 pn t i hat).2 HI.out.2 (m - 1) pn (.slice p' t.sub.len c') (pre++xs) wr hu (HI.out.1 pn t i hat).1 JJ Pe (by have:=HN.out;rw[List.length_append];omega);have HS:=zh D4;have HX:=zh hxs;clear x0 x1 x2 x3 D4 hxl hpl hxs
   gi_wp2_with (refine⟨trivial,gO _,?_⟩;gi_at_call 216;refine Qy.mono ?_;rintro e W2 (⟨rfl,⟨ys,hys,hj⟩,hk⟩|⟨rfl,ys,hys,hj⟩))
   · refine⟨⟨i+1,hlt,by go_num,JJ.kp hk,hkr.trans hk,xs++ys,by rw[List.map_append,HX.out,hys,HS.out],by rw[←List.append_assoc];exact hj⟩,by simp only[intOf];omega⟩
   · go_ret
     refine .inr ⟨⟨i,rfl⟩,xs++ys,?_,by rw[←List.append_assoc];exact hj⟩;rw[List.map_append,HX.out];exact((List.prefix_append_right_inj _).2 hys).trans (by rw[←HS.out];exact fo.oz (i+1))
  case neg=>
   have hie:i=fo.len:=by omega
   have HX:=zh (show xs.map (λx=>x.1.1)=fo.ins by rw[hxs,hie,Fo.tT]);clear hie hxs
   gi_wp2
   go_ret;exact .inl ⟨rfl,⟨xs,HX.out,Pe⟩,hkr⟩
set_option maxRecDepth 4000 in
theorem On {fo:Fo} (IH:∀pn t i,fo.at i=some (pn,t)→Q t∧lK w₀ n₀ n₁ Y V l N J Jx t) (hJ:∀pre W o,J pre W→J pre (W.alloc o)) (m:Nat) (v:Value) (pre:List (TV w₀ n₀ Q)) (W:World) (hv:dB w₀ (λb=>b<n₀) fo v) (hE:kL w₀ n₀ n₁ Y V l W) (h0:J pre W) (hN:pre.length+fo.ins.length≤N):
 CallsIn Fence.wide m Tryz.prog 215 #[v,.func (.func 216) #[] #[.pointer (some ⟨V,0,none⟩)]] W (AU n₁ J Jx (· =.returned (.bool false)) (· =.returned (.bool true)) pre fo.ins W):=by
 have H:=Lj IH hJ (m - 1) v pre W hv hE h0 hN
 clear IH hJ
 obtain⟨p,c,rfl,_⟩:=hv.shape
 refine callsIn_of_wp Tryz.func215 rfl trivial ?_ rfl
 simp only[Tryz.ntmps215,List.size_toArray,List.length_cons,List.length_nil,Nat.reduceAdd,Nat.reduceSub,Array.replicate_succ,Array.replicate_zero,List.push_toArray,List.append_toArray,List.nil_append,List.cons_append]
 gi_wp2_with (refine⟨trivial,gO _,?_⟩;gi_at_call 256;refine H.mono ?_;clear H;rintro e W2 (⟨rfl,hx,hk⟩|⟨⟨i,rfl⟩,hx⟩))
 · go_ret
   exact .inl ⟨rfl,hx,hk⟩
 · go_ret
   exact .inr ⟨by simp,hx⟩
set_option maxRecDepth 4000 in
theorem Om (t:Tr) (IH:∀pn u i,t.sub.at i=some (pn,u)→Q u∧lK w₀ n₀ n₁ Y V l N J Jx u) (hJ:∀pre W o,J pre W→J pre (W.alloc o))
 (hY:∀(m:Nat) (pre:List (TV w₀ n₀ Q)) (x:TV w₀ n₀ Q) (W:World),J pre W→pre.length<N→YieldAt Fence.wide m Tryz.prog l #[.agg #[.int .u8 x.1.1.k,str x.1.1.n,x.1.2]] W λe W'=>
  (e=.returned (.bool true)∧J (pre++[x]) W'∧iK n₀ n₁ W W')∨(e=.returned (.bool false)∧Jx (pre++[x]) W')):lK w₀ n₀ n₁ Y V l N J Jx t:=by
 intro m v pre W hv hQ hE h0 hN
 obtain⟨p,c,rfl,_⟩:=hv.shape
 have ig:=hE.alloc (.cells #[.int .u8 t.k,str t.n,.slice p t.sub.len c] 174)
 have hrow:=heap_alloc_new W (.cells #[.int .u8 t.k,str t.n,.slice p t.sub.len c] 174)
 have hk1:=(iK.refl n₀ n₁ W).alloc hE.size (.cells #[.int .u8 t.k,str t.n,.slice p t.sub.len c] 174)
 have Pc:=hJ _ _ (.cells #[.int .u8 t.k,str t.n,.slice p t.sub.len c] 174) h0
 have RZ:=ig.cy
 have hB:n₁≤W.heap.size:=by
  have:=(Array.getElem?_eq_some_iff.1 hE.y).1;have:=hE.ny;omega
 unfold Tr.ins at hN
 rw[List.length_cons] at hN
 obtain⟨fn,tmps,assign,body,hy,hR⟩:=hY (m - 1) pre ⟨(t,.slice p t.sub.len c),hv,hQ⟩ (W.alloc (.cells #[.int .u8 t.k,str t.n,.slice p t.sub.len c] 174)) Pc (by omega)
 dsimp only at hy
 have HI:=zh (And.intro IH hJ)
 clear IH hJ hY
 refine callsIn_of_wp Tryz.func214 rfl trivial ?_ rfl
 simp only[Tryz.ntmps214,List.size_toArray,List.length_cons,List.length_nil,Nat.reduceAdd,Nat.reduceSub,Array.replicate_succ,Array.replicate_zero,List.push_toArray,List.append_toArray,List.nil_append,List.cons_append]
 gi_wp2
 refine⟨gO _,?_⟩
 refine hR.mono ?_
 clear hR hy
 rintro e W2 (⟨rfl,Pd,hk2⟩|⟨rfl,Nb⟩)
 · have qd:=ig.kp hk2
   have nM:=hk2.high _ _ _ _ hB hrow (by decide);have c2:=(ak nM 2).trans rfl;have OJ:=On HI.out.1 HI.out.2 (m - 1) (.slice p t.sub.len c) (pre++[⟨(t,.slice p t.sub.len c),hv,hQ⟩]) W2 hv qd Pd (by rw[List.length_append,List.length_singleton];omega);clear qd nM ig hrow RZ Pc Pd
   gi_wp2_with (refine⟨trivial,gO _,?_⟩;gi_at_call 215;refine OJ.mono ?_;clear OJ;rintro e W3 (⟨rfl,⟨ys,hys,hj⟩,yW⟩|⟨rfl,ys,hys,hj⟩))
   · go_ret
     refine .inl ⟨rfl,⟨⟨(t,.slice p t.sub.len c),hv,hQ⟩::ys,by rw[List.map_cons,hys];rfl,?_⟩,(hk1.trans hk2).trans yW⟩;rw[List.append_assoc] at hj;exact hj
   · go_ret
     refine .inr ⟨rfl,⟨(t,.slice p t.sub.len c),hv,hQ⟩::ys,?_,?_⟩
     · rw[List.map_cons];exact(List.prefix_cons_inj _).2 hys
     · rw[List.append_assoc] at hj
       exact hj
 · gi_wp2
   go_ret;exact .inr ⟨rfl,[⟨(t,.slice p t.sub.len c),hv,hQ⟩],by rw[List.map_cons,List.map_nil];exact(List.prefix_cons_inj _).2 List.nil_prefix,Nb⟩
theorem CW (hH:AR Q) (hJ:∀pre W o,J pre W→J pre (W.alloc o))
 (hY:∀(m:Nat) (pre:List (TV w₀ n₀ Q)) (x:TV w₀ n₀ Q) (W:World),J pre W→pre.length<N→YieldAt Fence.wide m Tryz.prog l #[.agg #[.int .u8 x.1.1.k,str x.1.1.n,x.1.2]] W λe W'=>
  (e=.returned (.bool true)∧J (pre++[x]) W'∧iK n₀ n₁ W W')∨(e=.returned (.bool false)∧Jx (pre++[x]) W')):
 ∀(k:Nat) (t:Tr),t.sub.level<k→lK w₀ n₀ n₁ Y V l N J Jx t:=by
 intro k
 induction k with
 | zero=>intro t h;omega
 | succ k ih=>
  intro t h m v pre W hv hQ hE h0 hN;exact Om t (λpn u i hat=>⟨hH t i pn u hQ hat,ih u (by have:=t.sub.jG i pn u hat;omega)⟩) hJ hY m v pre W hv hQ hE h0 hN
set_option maxRecDepth 4000 in
theorem Ol (hH:AR Q) (t:Tr) (hQ:Q t) (hJ:∀pre W o,J pre W→J pre (W.alloc o))
 (hY:∀(m:Nat) (pre:List (TV w₀ n₀ Q)) (x:TV w₀ n₀ Q) (W:World),J pre W→pre.length<t.ins.length→YieldAt Fence.wide m Tryz.prog l #[.agg #[.int .u8 x.1.1.k,str x.1.1.n,x.1.2]] W λe W'=>
  (e=.returned (.bool true)∧J (pre++[x]) W'∧iK n₀ n₁ W W')∨(e=.returned (.bool false)∧Jx (pre++[x]) W')) (m:Nat) (v:Value) (B:Nat) (W:World)
 (hb:Below n₀ w₀ W) (MR:n₀≤n₁) (h1:n₁≤W.heap.size) (hv:dB w₀ (λb=>b<n₀) t.sub v) (hB:W.heap[B]? =some (.cells #[.int .u8 t.k,str t.n,v] 174 (0,0))) (h0:J [] W):
 CallsIn Fence.wide m Tryz.prog 213 #[.func (.yield l) #[] #[],.pointer (some ⟨B,0,none⟩)] W λe W'=>(∃v,e=.returned v)∧((∃xs:List (TV w₀ n₀ Q),xs.map (λx=>x.1.1)=t.ins∧J xs W')∨(∃xs:List (TV w₀ n₀ Q),xs.map (λx=>x.1.1)<+:t.ins∧Jx xs W')):=by
 obtain⟨p,c,rfl,_⟩:=hv.shape
 have HV:=zh (CW (Y:=W.heap.size) (V:=W.heap.size+1) hH hJ hY (t.sub.level+1) t (Nat.lt_succ_self _))
 clear hY
 have cD:=aD (.cells #[.func (.func 214) #[] #[.pointer (some ⟨W.heap.size,0,none⟩),.pointer (some ⟨W.heap.size+1,0,none⟩)]] 220) (aD (.cells #[.func (.yield l) #[] #[]] 220) hB)
 have c0:=(ak cD 0).trans rfl
 have c1:=(ak cD 1).trans rfl
 have c2:=(ak cD 2).trans rfl
 have hE:kL w₀ n₀ n₁ W.heap.size (W.heap.size+1) l ((W.alloc (.cells #[.func (.yield l) #[] #[]] 220)).alloc (.cells #[.func (.func 214) #[] #[.pointer (some ⟨W.heap.size,0,none⟩),.pointer (some ⟨W.heap.size+1,0,none⟩)]] 220)):=
  ⟨(hb.alloc (by omega) _).alloc (by simp;omega) _,aD _ (heap_alloc_new W _),cI (by simp) _ _,by omega,by omega,MR⟩
 have OH:=HV.out m.pred (.slice p t.sub.len c) [] _ hv hQ hE (hJ _ _ _ (hJ _ _ _ h0)) (by rw[List.length_nil,Nat.zero_add];exact nl _)
 clear hE hB cD hb
 refine callsIn_of_wp Tryz.func213 rfl trivial ?_ rfl
 simp only[Tryz.ntmps213,List.size_toArray,List.length_cons,List.length_nil,Nat.reduceAdd,Nat.reduceSub,Array.replicate_succ,Array.replicate_zero,List.push_toArray,List.append_toArray,List.nil_append,List.cons_append]
 gi_wp2_with (refine⟨trivial,gO _,?_⟩;gi_at_call 214;refine OH.mono ?_;clear OH;rintro e W3 (⟨rfl,⟨ys,hys,hj⟩,yW⟩|⟨rfl,ys,hys,hj⟩))
 · go_end0
   exact⟨⟨_,rfl⟩,.inl ⟨ys,hys,hj⟩⟩
 · go_end0
   exact⟨⟨_,rfl⟩,.inr ⟨ys,hys,hj⟩⟩
end
theorem j9 {w₀ w:World} {n₀ n₁ B:Nat} {Q:Tr→Prop} (hH:AR Q) (t:Tr) (hQ:Q t) (v:Value) (n:Nat) (hb:Below n₀ w₀ w) (MR:n₀≤n₁) (h1:n₁≤w.heap.size) (hv:dB w₀ (λb=>b<n₀) t.sub v) (hB:w.heap[B]? =some (.cells #[.int .u8 t.k,str t.n,v] 174 (0,0))):
 SeqStopsK Fence.wide n Tryz.prog 213 #[.pointer (some ⟨B,0,none⟩)] (λx:TV w₀ n₀ Q=> #[Value.agg #[.int .u8 x.1.1.k,str x.1.1.n,x.1.2]]) (iK n₀ n₁) (λxs=>xs.map (λx=>x.1.1)=t.ins) (λxs=>xs.map (λx=>x.1.1)<+:t.ins) t.ins.length w:=
 λl J Jx W hW hJ _ hY h0=>
  Ol hH t hQ (λpre W' o h=>hJ pre W' _ none h (World.grownBy_alloc W' o none) (λr e=>by cases e)) (λm pre x W' hj hl=>C2 m (hY pre x W' hj hl)) n v B W (hb.trans (hW.mono (by omega))) MR (Nat.le_trans h1 hW.size) hv ((hW.block B (Array.getElem?_eq_some_iff.1 hB).1).trans hB) h0
theorem mW (k:Nat) (n:List UInt8) (p:Option Addr) (l c:Nat) (m:Nat) (w:World):CallsIn Fence.wide m Tryz.prog 158 #[.agg #[.int .u8 k,str n,.slice p l c]] w λe w'=>e=.returned (.func (.func 213) #[] #[.pointer (some ⟨w.heap.size,0,none⟩)])∧w'=w.alloc (.cells #[.int .u8 k,str n,.slice p l c] 174):=by
 refine callsIn_of_wp Tryz.func158 rfl trivial ?_ rfl
 simp only[Tryz.ntmps158,List.size_toArray,List.length_cons,List.length_nil,Nat.reduceAdd,Nat.reduceSub,Array.replicate_succ,Array.replicate_zero,List.push_toArray,List.append_toArray,List.nil_append,List.cons_append]
 gi_wp2
 go_ret
 exact⟨rfl,rfl⟩
attribute [local go_sem] Oper.semAt_some
theorem Fo.lW:∀fo:Fo,fo.ins.any (λt=>decide (t.k=8))=fo.oF
 | .nil=>rfl
 | .cons pn k n sub rest=>by
  rw[Fo.ins,List.any_cons,List.any_append,Fo.lW sub,Fo.lW rest,Fo.oF,Bool.or_assoc]
theorem Tr.lW (t:Tr):t.ins.any (λt=>decide (t.k=8))=t.oF:=by
 rw[Tr.ins,List.any_cons,Fo.lW,Tr.oF]
def Ev {w₀:World} {n₀:Nat} {Q:Tr→Prop} (pre:List (TV w₀ n₀ Q)):Bool:=pre.any (λx=>decide (x.1.1.k=8))
theorem uo {w₀:World} {n₀:Nat} {Q:Tr→Prop} (pre:List (TV w₀ n₀ Q)) (x:TV w₀ n₀ Q):Ev (pre++[x])=(Ev pre||decide (x.1.1.k=8)):=by simp[Ev]
theorem lg {β:Type} (B:Nat) (cs:β→Array Value) (t:TypeId) (z:Nat×Nat):Own (λs W=>W.heap[B]? =some (.cells (cs s) t z)):=λs X Y row hs hg hrow=>
 (hg.block B (Array.getElem?_eq_some_iff.1 hs).1 (λe=>by
  obtain⟨o,ho,hc⟩:=hrow B e.symm;rw[hs] at ho;cases ho;cases hc)).trans hs
theorem yH {β:Type} (B k:Nat):OwnFrom B (λ(_:β) W=>k≤W.heap.size):=λ_ _ _ _ hs hg _=>Nat.le_trans hs hg.size
theorem xU {β:Type}:Own (λ(_:β) (_:World)=>False):=λ_ _ _ _ hs _ _=>hs
set_option maxRecDepth 4000 in
theorem Er (t:Tr) (w:World) (D:Nat→Prop) (v:Value) (hv:dB w D t.sub v):
 Calls Tryz.prog 174 #[.agg #[.int .u8 t.k,str t.n,v]] w λe w'=>e=.returned (.bool t.oF)∧Below w.heap.size w w':=by
 have P4:=hv.mono (D':=λb=>b<w.heap.size) λ_ _ h=>h
 obtain⟨p,c,rfl,_⟩:=hv.shape
 refine(callsIn_wide (n:=6)).1 ?_
 refine callsIn_of_wp_marks Tryz.func174 rfl trivial ?_ rfl
 simp only[Tryz.ntmps174,List.size_toArray,List.length_cons,List.length_nil,Nat.reduceAdd,Nat.reduceSub,Array.replicate_succ,Array.replicate_zero,List.push_toArray,List.append_toArray,List.nil_append,List.cons_append]
 gi_wp2_with (refine⟨trivial,?_⟩;gi_at_call 158;refine(mW _ _ _ _ _ _ _).mono ?_;rintro e w' ⟨rfl,rfl⟩)
 have hz1:(w.alloc (.cells #[.int .u8 t.k,str t.n,.slice p t.sub.len c] 174)).heap.size=w.heap.size+1:=by simp
 have hz2:((w.alloc (.cells #[.int .u8 t.k,str t.n,.slice p t.sub.len c] 174)).alloc (.cells #[.bool false] 4)).heap.size=w.heap.size+1+1:=by simp
 have hb0:Below w.heap.size w (((w.alloc (.cells #[.int .u8 t.k,str t.n,.slice p t.sub.len c] 174)).alloc (.cells #[.bool false] 4)).alloc (.cells #[.int .u8 t.k,str t.n,.slice p t.sub.len c] 174)):=(((zb w).alloc zr _).alloc (by simp) _).alloc (by simp;omega) _
 have hr2:=aD (.cells #[.int .u8 t.k,str t.n,.slice p t.sub.len c] 174) (cI hz1 #[.bool false] 4)
 have hr3:=cI hz2 #[.int .u8 t.k,str t.n,.slice p t.sub.len c] 174
 have zG:(((w.alloc (.cells #[.int .u8 t.k,str t.n,.slice p t.sub.len c] 174)).alloc (.cells #[.bool false] 4)).alloc (.cells #[.int .u8 t.k,str t.n,.slice p t.sub.len c] 174)).heap.size=w.heap.size+3:=by simp
 clear hz1 hz2
 generalize ((w.alloc (.cells #[.int .u8 t.k,str t.n,.slice p t.sub.len c] 174)).alloc (.cells #[.bool false] 4)).alloc (.cells #[.int .u8 t.k,str t.n,.slice p t.sub.len c] 174)=W0 at *
 have lu:w.heap.size≤W0.heap.size:=by omega
 have Se:w.heap.size+3≤W0.heap.size:=by omega
 clear zG
 refine wpIn_rangeFunc_ownH (α:=TV w w.heap.size (λ_=>True)) rfl (show 1≤6 by decide) (gf:=213) (lb:= #[.pointer (some ⟨w.heap.size+1+1,0,none⟩)]) rfl trivial (enters_of Tryz.func213 (by kernel_rfl) rfl)
  (j9 (w₀:=w) (n₀:=w.heap.size) (n₁:=W0.heap.size) (λ_ _ _ _ _ _=>trivial) t trivial _ 5 hb0 lu zr P4 hr3) (λh k=>h.trans k) (iK.book lu) (zb _) (λ_=>rfl)
  (λpre W=>((W.heap[w.heap.size+1]? =some (.cells #[.bool false] 4 (0,0))∧Ev pre=false)∧Below w.heap.size w W∧W0.heap.size≤W.heap.size))
  (λcd pre W=>((W.heap[w.heap.size+1]? =some (.cells #[.bool true] 4 (0,0))∧cd=.ret∧Ev pre=true)∧Below w.heap.size w W∧W0.heap.size≤W.heap.size))
  (OwnFrom.and (OwnFrom.and (Own.from (lg _ (λ_=> #[.bool false]) _ _) _) (ownFrom_pure _ _)) (OwnFrom.and (ownFrom_below zr lu) (yH _ _)))
  (λ_=>OwnFrom.and (OwnFrom.and (Own.from (lg _ (λ_=> #[.bool true]) _ _) _) (ownFrom_pure _ _)) (OwnFrom.and (ownFrom_below zr lu) (yH _ _)))
  ⟨⟨hr2,rfl⟩,hb0,nl _⟩
  (λx a' W=>∃Bx,W0.heap.size≤Bx∧W.heap[Bx]? =some (.cells #[.int .u8 x.1.1.k,str x.1.1.n,x.1.2] 174 (0,0))∧
   a'={tmps:= #[.agg #[.int .u8 t.k,str t.n,.slice p t.sub.len c],.pointer (some ⟨w.heap.size,0,none⟩),.pointer (some ⟨w.heap.size+1,0,none⟩),.pointer (some ⟨Bx,0,none⟩),.agg #[.int .u8 t.k,str t.n,.slice p t.sub.len c],.func (.func 213) #[] #[.pointer (some ⟨w.heap.size+1+1,0,none⟩)],.agg #[.int .u8 x.1.1.k,str x.1.1.n,x.1.2],undef,undef,undef],defers:=[] })
  (λx a' _ W W' row ⟨Bx,h1,h2,h3⟩ hg hr=>⟨Bx,h1,(lg (β:=Unit) Bx (λ_=> #[.int .u8 x.1.1.k,str x.1.1.n,x.1.2]) _ _) () W W' row h2 hg (λr e=>(hr r e).2),h3⟩) ?assign ?body ?done ?stop
 case assign=>
  rintro l pre ⟨⟨u,vu⟩,hu,FT⟩ W K ⟨⟨hc,hp⟩,hB,hS⟩ hK;obtain⟨pu,cu,e,_⟩:=dB.shape (fo:=u.sub) (v:=vu) hu;subst e;dsimp only at hK ⊢;have hsz:=hB.size;have hlt:=(Array.getElem?_eq_some_iff.1 hc).1
  gi_wp2
  exact hK _ _ ((KeepsOthers.alloc _ _).from _) ((iK.refl _ _ _).alloc (by omega) _) ⟨⟨aD _ hc,hp⟩,hB.alloc hsz _,by simp;omega⟩ ⟨W.heap.size,hS,heap_alloc_new W _,rfl⟩
 case body=>
  rintro l pre ⟨⟨u,vu⟩,hu,FT⟩ a' W hl ⟨r,hr⟩ ⟨⟨hc,hp⟩,hB,hS⟩ ⟨Bx,zw,hX,rfl⟩ hlt;obtain⟨pu,cu,e,_⟩:=dB.shape (fo:=u.sub) (v:=vu) hu;subst e;dsimp only at hX ⊢;have c0:=(ak hX 0).trans rfl;have c1:=(ak hc 0).trans rfl;have f1:=az hc 0
  by_cases h8:u.k=8
  · have e8:((u.k:Int)==8)=true:=by rw[h8];rfl
    have H8:=zh h8;clear h8
    gi_wp2
    exact⟨(KeepsOthers.setCell _ _ _).from _,⟨cK hc 0 (.bool true),rfl,by rw[uo];simp only[H8.out];simp⟩,hB.setCell (p:=⟨w.heap.size+1,0,none⟩) (by simp) _,by simpa[World.setCell] using hS⟩
  · have e8:((u.k:Int)==8)=false:=by rw[beq_eq_false_iff_ne];omega
    have H8:=zh h8;clear h8
    gi_wp2
    exact⟨KeepsFrom.refl _ _,iK.refl _ _ _,⟨hc,by rw[uo,hp,Bool.false_or,decide_eq_false_iff_not];exact H8.out⟩,hB,hS⟩
 case done=>
  rintro D' xs W hD hxs ⟨⟨hc,hp⟩,hB,hS⟩ hK;have hop:t.oF=false:=by
   rw[←Tr.lW,←hxs,List.any_map];exact hp
  have HP:=zh hop;clear hop;have c1:=(ak hc 0).trans rfl;have f1:=az hc 0
  gi_wp2
  have Nc:=(KeepsOthers.setCell W ⟨w.heap.size+1,0,none⟩ (.bool false)).same D' _ hK rfl;refine⟨by simp,.inl ⟨_,_,rfl,run_takeDeferred Nc,?_⟩⟩;have Iw:=cell_kept ((ak (cK hc 0 (.bool false)) 0).trans rfl) (grownBy_putObj' _ D' (.deferred none)) (λr e=>by cases e;exact⟨_,Nc,rfl⟩);refine⟨.bool false,?_,by rw[HP.out],?_⟩
  · simp[results,Tryz.f174,go_sem,Iw]
  · exact(hB.setCell (p:=⟨w.heap.size+1,0,none⟩) (by simp) _).trans (belowK_b (w:=w) zr _ D' _ _ (by omega) Nc rfl rfl)
 case stop=>
  rintro D' cd pre W hD hxs ⟨⟨hc,rfl,hp⟩,hB,hS⟩ hK;have hop:t.oF=true:=by
   rw[←Tr.lW];obtain⟨r,hr⟩:=hxs;rw[←hr,List.any_append,List.any_map];rw[show pre.any ((λt=>decide (t.k=8)) ∘ λx=>x.1.1)=true from hp]
   rfl
  have HP:=zh hop;clear hop
  gi_wp2
  refine⟨by simp,.inl ⟨_,_,rfl,run_takeDeferred hK,?_⟩⟩;have Iw:=cell_kept ((ak hc 0).trans rfl) (grownBy_putObj' _ D' (.deferred none)) (λr e=>by cases e;exact⟨_,hK,rfl⟩);refine⟨.bool true,?_,by rw[HP.out],?_⟩
  · simp[results,Tryz.f174,go_sem,Iw]
  · exact hB.trans (belowK_b (w:=w) zr _ D' _ _ (by omega) hK rfl rfl)
end Go.Proofs.YtakgjcfkdemipaaGreatDoor
