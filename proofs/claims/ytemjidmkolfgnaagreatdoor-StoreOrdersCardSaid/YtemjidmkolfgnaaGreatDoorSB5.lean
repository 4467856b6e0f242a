/-
  Lemmas for the statement: contract: the program's tree.open: whether the parameter is inside a type. Conditions: bounds of lengths; the variable strings.asciiSpace.
-/
import Derived.Test.YtemjidmkolfgnaaGreatDoorSBn
import Derived.Test.YtemjidmkolfgnaaGreatDoorSB3
import Derived.Test.YtemjidmkolfgnaaGreatDoorSB4
set_option maxHeartbeats 3200000
namespace Go.Proofs.YtemjidmkolfgnaaGreatDoor
open Go.RowKit Go.Shelf
attribute [local go_sem] Oper.semAt_some
theorem cQ (m:Nat):Fence.wide.depth.isSome=true→1≤m:=λh=>by simp[Fence.wide] at h
theorem Cv {m:Nat} (m':Nat) {P:Program} {l:Nat} {args:Array Value} {W:World} {R:Ending→World→Prop} (h:YieldAt Fence.wide m P l args W R):YieldAt Fence.wide m' P l args W R:=by
 obtain⟨fn,tmps,assign,body,hy,hR⟩:=h
 exact⟨fn,tmps,assign,body,hy,hR.1,λc cs _=>hR.2 c cs (room_wide _)⟩
section
variable {w₀:World} {n₀ n₁ Y V l N:Nat} {Q:Tr→Prop} {J Jx:List (TV w₀ n₀ Q)→World→Prop}
def kj (w₀:World) (n₀ n₁ Y V l N:Nat) {Q:Tr→Prop} (J Jx:List (TV w₀ n₀ Q)→World→Prop) (t:Tr):Prop:=
 ∀(m:Nat) (v:Value) (pre:List (TV w₀ n₀ Q)) (W:World),ff w₀ (λb=>b<n₀) t.sub v→Q t→jC w₀ n₀ n₁ Y V l W→J pre W→pre.length+t.ins.length≤N→
  CallsIn Fence.wide m Tryz.prog 239 #[.agg #[.int .u8 t.k,str t.n,v],.pointer (some ⟨Y,0,none⟩),.pointer (some ⟨V,0,none⟩)] W (zV n₁ J Jx (· =.returned (.bool true)) (· =.returned (.bool false)) pre t.ins W)
set_option maxRecDepth 4000 in
theorem QG {t:Tr} (IH:kj w₀ n₀ n₁ Y V l N J Jx t) (hJ:∀pre W o,J pre W→J pre (W.alloc o)) (m:Nat) (pn:List UInt8) (v:Value) (pre:List (TV w₀ n₀ Q)) (W:World) (hv:ff w₀ (λb=>b<n₀) t.sub v) (hQ:Q t) (hE:jC w₀ n₀ n₁ Y V l W) (h0:J pre W) (hN:pre.length+t.ins.length≤N):
 CallsIn Fence.wide m Tryz.prog 241 #[.agg #[str pn,.int .u8 t.k,str t.n,v],.pointer (some ⟨V,0,none⟩)] W (zV n₁ J Jx (· =.returned (.bool false)) (· =.returned (.bool true)) pre t.ins W):=by
 have hp:=(hv.shape)
 obtain⟨p,c,rfl,_⟩:=hp
 have o6:=hE.alloc (.cells #[str pn,.int .u8 t.k,str t.n,.slice p t.sub.len c] 321)
 have S9:=IH (m - 1) (.slice p t.sub.len c) pre (W.alloc (.cells #[str pn,.int .u8 t.k,str t.n,.slice p t.sub.len c] 321)) hv hQ o6 (hJ _ _ _ h0) hN
 have hk1:=(mV.refl n₀ n₁ W).alloc hE.size (.cells #[str pn,.int .u8 t.k,str t.n,.slice p t.sub.len c] 321)
 have hcv:=o6.cv
 clear IH
 refine callsIn_of_wp Tryz.func241 rfl trivial ?_ rfl
 simp only[Tryz.ntmps241,List.size_toArray,List.length_cons,List.length_nil,Nat.reduceAdd,Nat.reduceSub,Array.replicate_succ,Array.replicate_zero,List.push_toArray,List.append_toArray,List.nil_append,List.cons_append]
 gi_wp2_with (refine⟨trivial,cQ _,?_⟩;gi_at_call 239;refine S9.mono ?_;rintro e W2 (⟨rfl,hx,hk⟩|⟨rfl,hx⟩))
 · go_ret
   exact .inl ⟨rfl,hx,hk1.trans hk⟩
 · go_ret
   exact .inr ⟨rfl,hx⟩
def IK (e:Ending):Prop:=∃i:Nat,e=.returned (.int .i64 i)
set_option maxRecDepth 4000 in
theorem M3 {fo:Fo} (IH:∀pn t i,fo.at i=some (pn,t)→Q t∧kj w₀ n₀ n₁ Y V l N J Jx t) (hJ:∀pre W o,J pre W→J pre (W.alloc o)) (m:Nat) (v:Value) (pre:List (TV w₀ n₀ Q)) (W:World) (hv:ff w₀ (λb=>b<n₀) fo v) (hE:jC w₀ n₀ n₁ Y V l W) (h0:J pre W) (hN:pre.length+fo.ins.length≤N):
 CallsIn Fence.wide m Tryz.prog 244 #[v,.func (.func 241) #[] #[.pointer (some ⟨V,0,none⟩)]] W (zV n₁ J Jx (· =.returned (.int .i64 (-1))) IK pre fo.ins W):=by
 have hlen:=hv.Et
 obtain⟨p,c,rfl,_⟩:=hv.shape
 have HI:=zh (And.intro IH hJ)
 have HN:=zh hN
 clear IH hJ hN
 unfold maxLen at hlen
 refine callsIn_of_wp Tryz.func244 rfl trivial ?_ rfl
 simp only[Tryz.ntmps244,List.size_toArray,List.length_cons,List.length_nil,Nat.reduceAdd,Nat.reduceSub,Array.replicate_succ,Array.replicate_zero,List.push_toArray,List.append_toArray,List.nil_append,List.cons_append]
 gi_wp2
 gi_loopw [8] (λa wr=>∃i:Nat,i≤fo.len∧a=.int .i64 i∧jC w₀ n₀ n₁ Y V l wr∧mV n₀ n₁ W wr∧∃xs:List (TV w₀ n₀ Q),xs.map (λx=>x.1.1)=fo.iG i∧J (pre++xs) wr) (λa _=>fo.len - (intOf a).toNat)
 case atStart=>exact⟨0,Nat.zero_le _,rfl,hE,mV.refl _ _ _,[],by rw[Fo.qm];rfl,by rw[List.append_nil];exact h0⟩
 case round=>
  obtain⟨i,hi,rfl,Kh,hkr,xs,hxs,CD⟩:=hrel
  by_cases hlt:i<fo.len
  case pos=>
   obtain⟨g,c',pn,t,u,e,vU,hg,hat,x0,x1,x2,x3,hu⟩:=hv.at hlt;injection e with e1 _ e2;subst e1 e2;obtain⟨p',c',rfl,_⟩:=hu.shape;have y0:=(Kh.low.cell (p:=⟨g,_,none⟩) (by exact vU)).trans x0;have y1:=(Kh.low.cell (p:=⟨g,_,none⟩) (by exact vU)).trans x1;have y2:=(Kh.low.cell (p:=⟨g,_,none⟩) (by exact vU)).trans x2;have y3:=(Kh.low.cell (p:=⟨g,_,none⟩) (by exact vU)).trans x3;have Ea:=fo.qj i pn t hat;have hxl:xs.length=(fo.iG i).length:=by rw[←hxs,List.length_map]
   have hpl:=(fo.nK (i+1)).length_le;rw[Ea,List.length_append] at hpl;have SZ:=QG (HI.out.1 pn t i hat).2 HI.out.2 (m - 1) pn (.slice p' t.sub.len c') (pre++xs) wr hu (HI.out.1 pn t i hat).1 Kh CD (by have:=HN.out;rw[List.length_append];omega);have HS:=zh Ea;have HX:=zh hxs;clear x0 x1 x2 x3 Ea hxl hpl hxs
   gi_wp2_with (refine⟨trivial,cQ _,?_⟩;gi_at_call 241;refine SZ.mono ?_;rintro e W2 (⟨rfl,⟨ys,hys,hj⟩,hk⟩|⟨rfl,ys,hys,hj⟩))
   · refine⟨⟨i+1,hlt,by go_num,Kh.kp hk,hkr.trans hk,xs++ys,by rw[List.map_append,HX.out,hys,HS.out],by rw[←List.append_assoc];exact hj⟩,by simp only[intOf];omega⟩
   · go_ret
     refine .inr ⟨⟨i,rfl⟩,xs++ys,?_,by rw[←List.append_assoc];exact hj⟩;rw[List.map_append,HX.out];exact((List.prefix_append_right_inj _).2 hys).trans (by rw[←HS.out];exact fo.nK (i+1))
  case neg=>
   have hie:i=fo.len:=by omega
   have HX:=zh (show xs.map (λx=>x.1.1)=fo.ins by rw[hxs,hie,Fo.sH]);clear hie hxs
   gi_wp2
   go_ret;exact .inl ⟨rfl,⟨xs,HX.out,CD⟩,hkr⟩
set_option maxRecDepth 4000 in
theorem QF {fo:Fo} (IH:∀pn t i,fo.at i=some (pn,t)→Q t∧kj w₀ n₀ n₁ Y V l N J Jx t) (hJ:∀pre W o,J pre W→J pre (W.alloc o)) (m:Nat) (v:Value) (pre:List (TV w₀ n₀ Q)) (W:World) (hv:ff w₀ (λb=>b<n₀) fo v) (hE:jC w₀ n₀ n₁ Y V l W) (h0:J pre W) (hN:pre.length+fo.ins.length≤N):
 CallsIn Fence.wide m Tryz.prog 240 #[v,.func (.func 241) #[] #[.pointer (some ⟨V,0,none⟩)]] W (zV n₁ J Jx (· =.returned (.bool false)) (· =.returned (.bool true)) pre fo.ins W):=by
 have H:=M3 IH hJ (m - 1) v pre W hv hE h0 hN
 clear IH hJ
 obtain⟨p,c,rfl,_⟩:=hv.shape
 refine callsIn_of_wp Tryz.func240 rfl trivial ?_ rfl
 simp only[Tryz.ntmps240,List.size_toArray,List.length_cons,List.length_nil,Nat.reduceAdd,Nat.reduceSub,Array.replicate_succ,Array.replicate_zero,List.push_toArray,List.append_toArray,List.nil_append,List.cons_append]
 gi_wp2_with (refine⟨trivial,cQ _,?_⟩;gi_at_call 244;refine H.mono ?_;clear H;rintro e W2 (⟨rfl,hx,hk⟩|⟨⟨i,rfl⟩,hx⟩))
 · go_ret
   exact .inl ⟨rfl,hx,hk⟩
 · go_ret
   exact .inr ⟨by simp,hx⟩
set_option maxRecDepth 4000 in
theorem QE (t:Tr) (IH:∀pn u i,t.sub.at i=some (pn,u)→Q u∧kj w₀ n₀ n₁ Y V l N J Jx u) (hJ:∀pre W o,J pre W→J pre (W.alloc o))
 (hY:∀(m:Nat) (pre:List (TV w₀ n₀ Q)) (x:TV w₀ n₀ Q) (W:World),J pre W→pre.length<N→YieldAt Fence.wide m Tryz.prog l #[.agg #[.int .u8 x.1.1.k,str x.1.1.n,x.1.2]] W λe W'=>
  (e=.returned (.bool true)∧J (pre++[x]) W'∧mV n₀ n₁ W W')∨(e=.returned (.bool false)∧Jx (pre++[x]) W')):kj w₀ n₀ n₁ Y V l N J Jx t:=by
 intro m v pre W hv hQ hE h0 hN
 obtain⟨p,c,rfl,_⟩:=hv.shape
 have o6:=hE.alloc (.cells #[.int .u8 t.k,str t.n,.slice p t.sub.len c] 282)
 have hrow:=heap_alloc_new W (.cells #[.int .u8 t.k,str t.n,.slice p t.sub.len c] 282)
 have hk1:=(mV.refl n₀ n₁ W).alloc hE.size (.cells #[.int .u8 t.k,str t.n,.slice p t.sub.len c] 282)
 have NN:=hJ _ _ (.cells #[.int .u8 t.k,str t.n,.slice p t.sub.len c] 282) h0
 have Ux:=o6.cy
 have hB:n₁≤W.heap.size:=by
  have:=(Array.getElem?_eq_some_iff.1 hE.y).1;have:=hE.ny;omega
 unfold Tr.ins at hN
 rw[List.length_cons] at hN
 obtain⟨fn,tmps,assign,body,hy,hR⟩:=hY (m - 1) pre ⟨(t,.slice p t.sub.len c),hv,hQ⟩ (W.alloc (.cells #[.int .u8 t.k,str t.n,.slice p t.sub.len c] 282)) NN (by omega)
 dsimp only at hy
 have HI:=zh (And.intro IH hJ)
 clear IH hJ hY
 refine callsIn_of_wp Tryz.func239 rfl trivial ?_ rfl
 simp only[Tryz.ntmps239,List.size_toArray,List.length_cons,List.length_nil,Nat.reduceAdd,Nat.reduceSub,Array.replicate_succ,Array.replicate_zero,List.push_toArray,List.append_toArray,List.nil_append,List.cons_append]
 gi_wp2
 refine⟨cQ _,?_⟩
 refine hR.mono ?_
 clear hR hy
 rintro e W2 (⟨rfl,F3,hk2⟩|⟨rfl,O0⟩)
 · have NK:=o6.kp hk2
   have kW:=hk2.high _ _ _ _ hB hrow (by decide);have c2:=(af kW 2).trans rfl;have QV:=QF HI.out.1 HI.out.2 (m - 1) (.slice p t.sub.len c) (pre++[⟨(t,.slice p t.sub.len c),hv,hQ⟩]) W2 hv NK F3 (by rw[List.length_append,List.length_singleton];omega);clear NK kW o6 hrow Ux NN F3
   gi_wp2_with (refine⟨trivial,cQ _,?_⟩;gi_at_call 240;refine QV.mono ?_;clear QV;rintro e W3 (⟨rfl,⟨ys,hys,hj⟩,vV⟩|⟨rfl,ys,hys,hj⟩))
   · go_ret
     refine .inl ⟨rfl,⟨⟨(t,.slice p t.sub.len c),hv,hQ⟩::ys,by rw[List.map_cons,hys];rfl,?_⟩,(hk1.trans hk2).trans vV⟩;rw[List.append_assoc] at hj;exact hj
   · go_ret
     refine .inr ⟨rfl,⟨(t,.slice p t.sub.len c),hv,hQ⟩::ys,?_,?_⟩
     · rw[List.map_cons];exact(List.prefix_cons_inj _).2 hys
     · rw[List.append_assoc] at hj
       exact hj
 · gi_wp2
   go_ret;exact .inr ⟨rfl,[⟨(t,.slice p t.sub.len c),hv,hQ⟩],by rw[List.map_cons,List.map_nil];exact(List.prefix_cons_inj _).2 List.nil_prefix,O0⟩
theorem Cg (hH:CN Q) (hJ:∀pre W o,J pre W→J pre (W.alloc o))
 (hY:∀(m:Nat) (pre:List (TV w₀ n₀ Q)) (x:TV w₀ n₀ Q) (W:World),J pre W→pre.length<N→YieldAt Fence.wide m Tryz.prog l #[.agg #[.int .u8 x.1.1.k,str x.1.1.n,x.1.2]] W λe W'=>
  (e=.returned (.bool true)∧J (pre++[x]) W'∧mV n₀ n₁ W W')∨(e=.returned (.bool false)∧Jx (pre++[x]) W')):
 ∀(k:Nat) (t:Tr),t.sub.level<k→kj w₀ n₀ n₁ Y V l N J Jx t:=by
 intro k
 induction k with
 | zero=>intro t h;omega
 | succ k ih=>
  intro t h m v pre W hv hQ hE h0 hN;exact QE t (λpn u i hat=>⟨hH t i pn u hQ hat,ih u (by have:=t.sub.pK i pn u hat;omega)⟩) hJ hY m v pre W hv hQ hE h0 hN
set_option maxRecDepth 4000 in
theorem QD (hH:CN Q) (t:Tr) (hQ:Q t) (hJ:∀pre W o,J pre W→J pre (W.alloc o))
 (hY:∀(m:Nat) (pre:List (TV w₀ n₀ Q)) (x:TV w₀ n₀ Q) (W:World),J pre W→pre.length<t.ins.length→YieldAt Fence.wide m Tryz.prog l #[.agg #[.int .u8 x.1.1.k,str x.1.1.n,x.1.2]] W λe W'=>
  (e=.returned (.bool true)∧J (pre++[x]) W'∧mV n₀ n₁ W W')∨(e=.returned (.bool false)∧Jx (pre++[x]) W')) (m:Nat) (v:Value) (B:Nat) (W:World)
 (hb:Below n₀ w₀ W) (Ow:n₀≤n₁) (h1:n₁≤W.heap.size) (hv:ff w₀ (λb=>b<n₀) t.sub v) (hB:W.heap[B]? =some (.cells #[.int .u8 t.k,str t.n,v] 282 (0,0))) (h0:J [] W):
 CallsIn Fence.wide m Tryz.prog 238 #[.func (.yield l) #[] #[],.pointer (some ⟨B,0,none⟩)] W λe W'=>(∃v,e=.returned v)∧((∃xs:List (TV w₀ n₀ Q),xs.map (λx=>x.1.1)=t.ins∧J xs W')∨(∃xs:List (TV w₀ n₀ Q),xs.map (λx=>x.1.1)<+:t.ins∧Jx xs W')):=by
 obtain⟨p,c,rfl,_⟩:=hv.shape
 have HV:=zh (Cg (Y:=W.heap.size) (V:=W.heap.size+1) hH hJ hY (t.sub.level+1) t (Nat.lt_succ_self _))
 clear hY
 have lQ:=aK (.cells #[.func (.func 239) #[] #[.pointer (some ⟨W.heap.size,0,none⟩),.pointer (some ⟨W.heap.size+1,0,none⟩)]] 322) (aK (.cells #[.func (.yield l) #[] #[]] 322) hB)
 have c0:=(af lQ 0).trans rfl
 have c1:=(af lQ 1).trans rfl
 have c2:=(af lQ 2).trans rfl
 have hE:jC w₀ n₀ n₁ W.heap.size (W.heap.size+1) l ((W.alloc (.cells #[.func (.yield l) #[] #[]] 322)).alloc (.cells #[.func (.func 239) #[] #[.pointer (some ⟨W.heap.size,0,none⟩),.pointer (some ⟨W.heap.size+1,0,none⟩)]] 322)):=
  ⟨(hb.alloc (by omega) _).alloc (by simp;omega) _,aK _ (heap_alloc_new W _),gV (by simp) _ _,by omega,by omega,Ow⟩
 have QU:=HV.out m.pred (.slice p t.sub.len c) [] _ hv hQ hE (hJ _ _ _ (hJ _ _ _ h0)) (by rw[List.length_nil,Nat.zero_add];exact nl _)
 clear hE hB lQ hb
 refine callsIn_of_wp Tryz.func238 rfl trivial ?_ rfl
 simp only[Tryz.ntmps238,List.size_toArray,List.length_cons,List.length_nil,Nat.reduceAdd,Nat.reduceSub,Array.replicate_succ,Array.replicate_zero,List.push_toArray,List.append_toArray,List.nil_append,List.cons_append]
 gi_wp2_with (refine⟨trivial,cQ _,?_⟩;gi_at_call 239;refine QU.mono ?_;clear QU;rintro e W3 (⟨rfl,⟨ys,hys,hj⟩,vV⟩|⟨rfl,ys,hys,hj⟩))
 · go_end0
   exact⟨⟨_,rfl⟩,.inl ⟨ys,hys,hj⟩⟩
 · go_end0
   exact⟨⟨_,rfl⟩,.inr ⟨ys,hys,hj⟩⟩
end
theorem um {w₀ w:World} {n₀ n₁ B:Nat} {Q:Tr→Prop} (hH:CN Q) (t:Tr) (hQ:Q t) (v:Value) (n:Nat) (hb:Below n₀ w₀ w) (Ow:n₀≤n₁) (h1:n₁≤w.heap.size) (hv:ff w₀ (λb=>b<n₀) t.sub v) (hB:w.heap[B]? =some (.cells #[.int .u8 t.k,str t.n,v] 282 (0,0))):
 SeqStopsK Fence.wide n Tryz.prog 238 #[.pointer (some ⟨B,0,none⟩)] (λx:TV w₀ n₀ Q=> #[Value.agg #[.int .u8 x.1.1.k,str x.1.1.n,x.1.2]]) (mV n₀ n₁) (λxs=>xs.map (λx=>x.1.1)=t.ins) (λxs=>xs.map (λx=>x.1.1)<+:t.ins) t.ins.length w:=
 λl J Jx W hW hJ _ hY h0=>
  QD hH t hQ (λpre W' o h=>hJ pre W' _ none h (World.grownBy_alloc W' o none) (λr e=>by cases e)) (λm pre x W' hj hl=>Cv m (hY pre x W' hj hl)) n v B W (hb.trans (hW.mono (by omega))) Ow (Nat.le_trans h1 hW.size) hv ((hW.block B (Array.getElem?_eq_some_iff.1 hB).1).trans hB) h0
theorem yL (k:Nat) (n:List UInt8) (p:Option Addr) (l c:Nat) (m:Nat) (w:World):CallsIn Fence.wide m Tryz.prog 227 #[.agg #[.int .u8 k,str n,.slice p l c]] w λe w'=>e=.returned (.func (.func 238) #[] #[.pointer (some ⟨w.heap.size,0,none⟩)])∧w'=w.alloc (.cells #[.int .u8 k,str n,.slice p l c] 282):=by
 refine callsIn_of_wp Tryz.func227 rfl trivial ?_ rfl
 simp only[Tryz.ntmps227,List.size_toArray,List.length_cons,List.length_nil,Nat.reduceAdd,Nat.reduceSub,Array.replicate_succ,Array.replicate_zero,List.push_toArray,List.append_toArray,List.nil_append,List.cons_append]
 gi_wp2
 go_ret
 exact⟨rfl,rfl⟩
attribute [local go_sem] Oper.semAt_some
theorem Fo.kF:∀fo:Fo,fo.ins.any (λt=>decide (t.k=8))=fo.Av
 | .nil=>rfl
 | .cons pn k n sub rest=>by
  rw[Fo.ins,List.any_cons,List.any_append,Fo.kF sub,Fo.kF rest,Fo.Av,Bool.or_assoc]
theorem Tr.kF (t:Tr):t.ins.any (λt=>decide (t.k=8))=t.Av:=by
 rw[Tr.ins,List.any_cons,Fo.kF,Tr.Av]
def EP {w₀:World} {n₀:Nat} {Q:Tr→Prop} (pre:List (TV w₀ n₀ Q)):Bool:=pre.any (λx=>decide (x.1.1.k=8))
theorem sQ {w₀:World} {n₀:Nat} {Q:Tr→Prop} (pre:List (TV w₀ n₀ Q)) (x:TV w₀ n₀ Q):EP (pre++[x])=(EP pre||decide (x.1.1.k=8)):=by simp[EP]
theorem p8 {β:Type} (B:Nat) (cs:β→Array Value) (t:TypeId) (z:Nat×Nat):Own (λs W=>W.heap[B]? =some (.cells (cs s) t z)):=λs X Y row hs hg hrow=>
 (hg.block B (Array.getElem?_eq_some_iff.1 hs).1 (λe=>by
  obtain⟨o,ho,hc⟩:=hrow B e.symm;rw[hs] at ho;cases ho;cases hc)).trans hs
theorem xz {β:Type} (B k:Nat):OwnFrom B (λ(_:β) W=>k≤W.heap.size):=λ_ _ _ _ hs hg _=>Nat.le_trans hs hg.size
theorem EH {β:Type}:Own (λ(_:β) (_:World)=>False):=λ_ _ _ _ hs _ _=>hs
set_option maxRecDepth 4000 in
theorem EJ (t:Tr) (w:World) (D:Nat→Prop) (v:Value) (hv:ff w D t.sub v):
 Calls Tryz.prog 220 #[.agg #[.int .u8 t.k,str t.n,v]] w λe w'=>e=.returned (.bool t.Av)∧Below w.heap.size w w':=by
 have MT:=hv.mono (D':=λb=>b<w.heap.size) λ_ _ h=>h
 obtain⟨p,c,rfl,_⟩:=hv.shape
 refine(callsIn_wide (n:=6)).1 ?_
 refine callsIn_of_wp_marks Tryz.func220 rfl trivial ?_ rfl
 simp only[Tryz.ntmps220,List.size_toArray,List.length_cons,List.length_nil,Nat.reduceAdd,Nat.reduceSub,Array.replicate_succ,Array.replicate_zero,List.push_toArray,List.append_toArray,List.nil_append,List.cons_append]
 gi_wp2_with (refine⟨trivial,?_⟩;gi_at_call 227;refine(yL _ _ _ _ _ _ _).mono ?_;rintro e w' ⟨rfl,rfl⟩)
 have hz1:(w.alloc (.cells #[.int .u8 t.k,str t.n,.slice p t.sub.len c] 282)).heap.size=w.heap.size+1:=by simp
 have hz2:((w.alloc (.cells #[.int .u8 t.k,str t.n,.slice p t.sub.len c] 282)).alloc (.cells #[.bool false] 4)).heap.size=w.heap.size+1+1:=by simp
 have hb0:Below w.heap.size w (((w.alloc (.cells #[.int .u8 t.k,str t.n,.slice p t.sub.len c] 282)).alloc (.cells #[.bool false] 4)).alloc (.cells #[.int .u8 t.k,str t.n,.slice p t.sub.len c] 282)):=(((zb w).alloc zr _).alloc (by simp) _).alloc (by simp;omega) _
 have hr2:=aK (.cells #[.int .u8 t.k,str t.n,.slice p t.sub.len c] 282) (gV hz1 #[.bool false] 4)
 have hr3:=gV hz2 #[.int .u8 t.k,str t.n,.slice p t.sub.len c] 282
 have SA:(((w.alloc (.cells #[.int .u8 t.k,str t.n,.slice p t.sub.len c] 282)).alloc (.cells #[.bool false] 4)).alloc (.cells #[.int .u8 t.k,str t.n,.slice p t.sub.len c] 282)).heap.size=w.heap.size+3:=by simp
 clear hz1 hz2
 generalize ((w.alloc (.cells #[.int .u8 t.k,str t.n,.slice p t.sub.len c] 282)).alloc (.cells #[.bool false] 4)).alloc (.cells #[.int .u8 t.k,str t.n,.slice p t.sub.len c] 282)=W0 at *
 have Gi:w.heap.size≤W0.heap.size:=by omega
 have UM:w.heap.size+3≤W0.heap.size:=by omega
 clear SA
 refine wpIn_rangeFunc_ownH (α:=TV w w.heap.size (λ_=>True)) rfl (show 1≤6 by decide) (gf:=238) (lb:= #[.pointer (some ⟨w.heap.size+1+1,0,none⟩)]) rfl trivial (enters_of Tryz.func238 (by kernel_rfl) rfl)
  (um (w₀:=w) (n₀:=w.heap.size) (n₁:=W0.heap.size) (λ_ _ _ _ _ _=>trivial) t trivial _ 5 hb0 Gi zr MT hr3) (λh k=>h.trans k) (mV.book Gi) (zb _) (λ_=>rfl)
  (λpre W=>((W.heap[w.heap.size+1]? =some (.cells #[.bool false] 4 (0,0))∧EP pre=false)∧Below w.heap.size w W∧W0.heap.size≤W.heap.size))
  (λcd pre W=>((W.heap[w.heap.size+1]? =some (.cells #[.bool true] 4 (0,0))∧cd=.ret∧EP pre=true)∧Below w.heap.size w W∧W0.heap.size≤W.heap.size))
  (OwnFrom.and (OwnFrom.and (Own.from (p8 _ (λ_=> #[.bool false]) _ _) _) (ownFrom_pure _ _)) (OwnFrom.and (ownFrom_below zr Gi) (xz _ _)))
  (λ_=>OwnFrom.and (OwnFrom.and (Own.from (p8 _ (λ_=> #[.bool true]) _ _) _) (ownFrom_pure _ _)) (OwnFrom.and (ownFrom_below zr Gi) (xz _ _)))
  ⟨⟨hr2,rfl⟩,hb0,nl _⟩
  (λx a' W=>∃Bx,W0.heap.size≤Bx∧W.heap[Bx]? =some (.cells #[.int .u8 x.1.1.k,str x.1.1.n,x.1.2] 282 (0,0))∧
   a'={tmps:= #[.agg #[.int .u8 t.k,str t.n,.slice p t.sub.len c],.pointer (some ⟨w.heap.size,0,none⟩),.pointer (some ⟨w.heap.size+1,0,none⟩),.pointer (some ⟨Bx,0,none⟩),.agg #[.int .u8 t.k,str t.n,.slice p t.sub.len c],.func (.func 238) #[] #[.pointer (some ⟨w.heap.size+1+1,0,none⟩)],.agg #[.int .u8 x.1.1.k,str x.1.1.n,x.1.2],undef,undef,undef],defers:=[] })
  (λx a' _ W W' row ⟨Bx,h1,h2,h3⟩ hg hr=>⟨Bx,h1,(p8 (β:=Unit) Bx (λ_=> #[.int .u8 x.1.1.k,str x.1.1.n,x.1.2]) _ _) () W W' row h2 hg (λr e=>(hr r e).2),h3⟩) ?assign ?body ?done ?stop
 case assign=>
  rintro l pre ⟨⟨u,vu⟩,hu,TZ⟩ W K ⟨⟨hc,hp⟩,hB,hS⟩ hK;obtain⟨pu,cu,e,_⟩:=ff.shape (fo:=u.sub) (v:=vu) hu;subst e;dsimp only at hK ⊢;have hsz:=hB.size;have hlt:=(Array.getElem?_eq_some_iff.1 hc).1
  gi_wp2
  exact hK _ _ ((KeepsOthers.alloc _ _).from _) ((mV.refl _ _ _).alloc (by omega) _) ⟨⟨aK _ hc,hp⟩,hB.alloc hsz _,by simp;omega⟩ ⟨W.heap.size,hS,heap_alloc_new W _,rfl⟩
 case body=>
  rintro l pre ⟨⟨u,vu⟩,hu,TZ⟩ a' W hl ⟨r,hr⟩ ⟨⟨hc,hp⟩,hB,hS⟩ ⟨Bx,cN,hX,rfl⟩ hlt;obtain⟨pu,cu,e,_⟩:=ff.shape (fo:=u.sub) (v:=vu) hu;subst e;dsimp only at hX ⊢;have c0:=(af hX 0).trans rfl;have c1:=(af hc 0).trans rfl;have f1:=au hc 0
  by_cases h8:u.k=8
  · have e8:((u.k:Int)==8)=true:=by rw[h8];rfl
    have H8:=zh h8;clear h8
    gi_wp2
    exact⟨(KeepsOthers.setCell _ _ _).from _,⟨cC hc 0 (.bool true),rfl,by rw[sQ];simp only[H8.out];simp⟩,hB.setCell (p:=⟨w.heap.size+1,0,none⟩) (by simp) _,by simpa[World.setCell] using hS⟩
  · have e8:((u.k:Int)==8)=false:=by rw[beq_eq_false_iff_ne];omega
    have H8:=zh h8;clear h8
    gi_wp2
    exact⟨KeepsFrom.refl _ _,mV.refl _ _ _,⟨hc,by rw[sQ,hp,Bool.false_or,decide_eq_false_iff_not];exact H8.out⟩,hB,hS⟩
 case done=>
  rintro D' xs W hD hxs ⟨⟨hc,hp⟩,hB,hS⟩ hK;have hop:t.Av=false:=by
   rw[←Tr.kF,←hxs,List.any_map];exact hp
  have HP:=zh hop;clear hop;have c1:=(af hc 0).trans rfl;have f1:=au hc 0
  gi_wp2
  have nC:=(KeepsOthers.setCell W ⟨w.heap.size+1,0,none⟩ (.bool false)).same D' _ hK rfl;refine⟨by simp,.inl ⟨_,_,rfl,run_takeDeferred nC,?_⟩⟩;have PJ:=cell_kept ((af (cC hc 0 (.bool false)) 0).trans rfl) (grownBy_putObj' _ D' (.deferred none)) (λr e=>by cases e;exact⟨_,nC,rfl⟩);refine⟨.bool false,?_,by rw[HP.out],?_⟩
  · simp[results,Tryz.f220,go_sem,PJ]
  · exact(hB.setCell (p:=⟨w.heap.size+1,0,none⟩) (by simp) _).trans (belowK_b (w:=w) zr _ D' _ _ (by omega) nC rfl rfl)
 case stop=>
  rintro D' cd pre W hD hxs ⟨⟨hc,rfl,hp⟩,hB,hS⟩ hK;have hop:t.Av=true:=by
   rw[←Tr.kF];obtain⟨r,hr⟩:=hxs;rw[←hr,List.any_append,List.any_map];rw[show pre.any ((λt=>decide (t.k=8)) ∘ λx=>x.1.1)=true from hp]
   rfl
  have HP:=zh hop;clear hop
  gi_wp2
  refine⟨by simp,.inl ⟨_,_,rfl,run_takeDeferred hK,?_⟩⟩;have PJ:=cell_kept ((af hc 0).trans rfl) (grownBy_putObj' _ D' (.deferred none)) (λr e=>by cases e;exact⟨_,hK,rfl⟩);refine⟨.bool true,?_,by rw[HP.out],?_⟩
  · simp[results,Tryz.f220,go_sem,PJ]
  · exact hB.trans (belowK_b (w:=w) zr _ D' _ _ (by omega) hK rfl rfl)
end Go.Proofs.YtemjidmkolfgnaaGreatDoor
