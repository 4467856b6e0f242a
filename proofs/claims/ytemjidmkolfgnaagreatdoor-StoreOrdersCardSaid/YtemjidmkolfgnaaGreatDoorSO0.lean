/-
  Lemmas: sorting texts by insertion. Conditions: bounds of lengths; the variable strings.asciiSpace.
-/
import Derived.Test.YtemjidmkolfgnaaGreatDoorSB42
import Derived.Test.YtemjidmkolfgnaaGreatDoorSBn
set_option maxHeartbeats 12800000
set_option maxRecDepth 8000
namespace Go.Proofs.YtemjidmkolfgnaaGreatDoor
section
open Go Go.RowKit Go.Maps
section
variable {w w':World} {m r:Nat} {L:List (List UInt8×Value)} {S:List (List UInt8)}
end
section
variable {w:World} {ops:Array Oper} {rest:List Oper} {o:Oper} {a:Act} {Q:Exit→Act→World→Prop} {m r:Nat} {L:List (List UInt8×Value)} {S:List (List UInt8)}
end
theorem vcc {l:List (List UInt8)} (h:l.Nodup):(gH l).Nodup:=(eO l).nodup_iff.2 h
end
section
open Go.ChangeShapes Go.WideShapes Go.RowKit Go.Deep
section
variable {H:Type} {enc:TypeId×Value→H} {W:World}
theorem vb7:Tryz.prog.cellsOf 9=1:=by kernel_rfl
theorem vci:Tryz.prog.cellsOf 31=1:=by kernel_rfl
theorem ve6 {fuel:Nat} {v:Value} {x:DataW H×List MemPlace} (h:DataW.trod enc Tryz.prog W 0 (λ_=>true) true fuel 31 [v]=some x):∃ss,SS Any W v ss:=by
 rcases open_slice Tryz.underlying31 h with⟨e,_⟩|⟨a,len,cap,m,n,D,Pl,e,hb,hl,hm,hmm,_,hx⟩
 · simp only[List.cons.injEq,and_true] at e
   subst e;exact⟨[],SS.nil _ _ _ _⟩
 · simp only[List.cons.injEq,and_true] at e
   subst e
   by_cases h0:len=0
   · subst h0
     exact⟨[],SS.nil _ _ _ _⟩
   · have vaf:m=cap:=by rw[hmm];simp
     have each:∀i,i<len→∃s:List UInt8,W.cell? (a.add i)=some (str s)∧s.length≤maxLen:=by
      intro i hi;obtain⟨cs',h1,h2⟩:=hx i (by omega);rw[vb7,Nat.mul_one] at h1;obtain⟨_,hlen,hcell⟩:=World.cells?_some h1;obtain⟨s,rfl,_,hs⟩:=DataW.trod_string Tryz.underlying9 h2;refine⟨s.data.toList,?_,by rw[Array.length_toList];exact hs⟩;have:=hcell 0 (by omega);rw[add_add] at this
      simpa using this
     obtain⟨f,hf⟩:=choose_lt each;obtain⟨blk,off,spot⟩:=a;have hsp:spot=none:=by
      have:=(hf 0 (by omega)).1
      simpa[Addr.add] using World.cell?_spot this
     subst hsp;have hcell:∀i,i<len→W.cell? ⟨blk,off+i,none⟩=some (str (f i)):=λi hi=>by
      have:=(hf i hi).1
      rwa [Go.WideShapes.add_plain] at this
     refine⟨(List.range len).map f,some ⟨blk,off,none⟩,cap,by simp,by simpa using hl,by simp;omega,?_,.inr ⟨blk,off,rfl,trivial,?_,λj hj=>?_⟩⟩
     · intro s hs
       obtain⟨i,hi,rfl⟩:=List.mem_map.1 hs;exact(hf i (List.mem_range.1 hi)).2
     · have:=World.block_lt_of_cell? _ _ (hcell 0 (by omega))
       simpa using this
     · have hj':j<len:=by simpa using hj
       rw[hcell j hj'];simp
end
end
section
open Go Go.RowKit
section
variable {P:Program} {md:Region.Mode} {ops:Array Oper} {Q:Exit→Act→World→Prop} {S:Array Bool→(Nat→Value)→World→Prop} {a0:Act}
end
structure vf6 (L:List (Option Value)) (T:Array Bool→(Nat→Value)→World→Prop) (listed:Array Bool) (vals:Nat→Value) (w:World):Prop where
 c:∀j v,L[j]? =some (some v)→listed.getD j false=true→vals j=v
 t:T listed vals w
theorem vf6.step {L:List (Option Value)} {T:Array Bool→(Nat→Value)→World→Prop} {listed:Array Bool} {vals:Nat→Value} {w w':World} (h:vf6 L T listed vals w) {i:Nat} {v:Value} (hv:∀u,L[i]? =some (some u)→v=u) (hT:T (listed.setIfInBounds i true) (Fa vals i v) w'):vf6 L T (listed.setIfInBounds i true) (Fa vals i v) w':=
 ⟨fun j u hj hl => by
  by_cases hij:j=i
  · subst hij
    rw[iR];exact hv u hj
  · rw[fE vals v hij]
    rw[getD_set_ne false (λe=>hij e.symm)] at hl;exact h.c j u hj hl,hT⟩
section
variable {P:Program} {ops:Array Oper} {Q:Exit→Act→World→Prop} {a0:Act} {L:List (Option Value)} {T:Array Bool→(Nat→Value)→World→Prop}
theorem vb3 {i:Nat} {o:Oper} (s:Nat) {x v:Value} (hs:Nc ops s=true) (h0:a0.eval (.tmp s)=x) (hL:L[i]? =some (some v)) (hT:∀listed vals w u,T listed vals w→T (listed.setIfInBounds i true) (Fa vals i u) w) (hrun:∀(ev:Operand→Value) w,ev (.tmp s)=x→(execOp ev o).run P w=.ok (.value v) w):CY P .any ops Q (vf6 L T) a0 i o:=by
 intro listed vals a w hsz hl hS hcl DR hd ho next hnx
 exact aR (hrun a.eval w ((ho s (bG hs)).trans h0)) (hnx v w (hS.step (λu hu=>by rw[hL] at hu;exact Option.some.inj (Option.some.inj hu)) (hT _ _ _ _ hS.t)))
end
theorem vak {listed:Array Bool} {i:Nat} (h:i<listed.size):(listed.setIfInBounds i true).getD i false=true:=by simp[Array.getD_eq_getD_getElem?,h]
theorem CV.fresh {D:Nat→Prop} {w:World} {v:Value} {cs:List Value} (h:CV D w v cs):CV (λb=>D b∧b<w.heap.size) w v cs:=by
 obtain⟨p,c,h1,h2,h3,h4⟩:=h
 refine⟨p,c,h1,h2,h3,?_⟩
 rcases h4 with h4|⟨b,o,e1,h5,h6,h7⟩
 · exact .inl h4
 · exact .inr ⟨b,o,e1,⟨h5,h6⟩,h6,h7⟩
theorem vcd (l:List (List UInt8×List UInt8)):(l9 l).length=l.length * 2:=by
 induction l with
 | nil=>rfl
 | cons x l ih=>
  show([str x.1,str x.2]++l9 l).length=_
  rw[List.length_append,ih,List.length_cons];simp;omega
section
variable {D D':Nat→Prop} {w w':World} {v:Value} {l:List (List UInt8×List UInt8)}
end
theorem dI.trans {a b c:World} (h:dI a b) (h':dI b c):dI a c:=λx o e ho=>h' x o (h x o e ho) ho
end
section
theorem vbe:∀l:List (List UInt8),l≠[]→(∀a∈l,44∉a)→aN 44 (di l)=l
 | [],h,_=>absurd rfl h
 | [a],_,h=>by
  have:=j5 a [] (h a (by simp));rw[List.append_nil] at this;rw[di,this];simp[aN,rq]
 | a::b::l,_,h=>by
  rw[di,j5 a _ (h a (by simp)),aN,if_pos rfl,vbe (b::l) (by simp) λx hx=>h x (by simp[hx])];simp[rq]
end
section
open Go Go.RowKit
theorem vck {D:Nat→Prop} (v:Value) (l:List (List UInt8×List UInt8)) (w:World) (hv:ck D w v l) (hn:l.length≤100000):
 Calls Tryz.prog 23 #[v] w λe w'=>∃v',e=.returned v'∧w'.ownsRow w.heap.size 55 2 v' l.length (l9 l)∧Below w.heap.size w w':=by
 obtain⟨i0,kN,hz0,hz1,hz2⟩:=aV Gq
 obtain⟨p,c,rfl,hc,hm,hle,h4⟩:=hv
 have Bj:=λ(w:World) (a:Option Addr) (n c:Nat)=>Lib.run_eql_slice_nil (P:=Tryz.prog) w 39 55 a n c 0 0 (by kernel_rfl)
 cases p with
 | none=>
  obtain rfl:l=[]:=by
   rcases h4 with h4|⟨b,o,e,_⟩
   · exact h4
   · cases e
  clear hc hm h4 hn;go_enter Tryz.func23,Tryz.ntmps23;go_wp2_with fail;go_ret;exact⟨_,rfl,World.ownsRow_nil _ _ _ _,zb _⟩
 | some a=>
  have hnew : ∀ j u, (l9 l)[j]? = some u → w.cell? (a.add j) = some u := by
   intro j u hu;rcases h4 with rfl|⟨b,o,e,_,_,hcell⟩
   · simp[l9] at hu
   · injection e with e
     subst e;rw[eH];have hj:=(List.getElem?_eq_some_iff.1 hu).1;rw[vcd] at hj;obtain⟨k,hk|hk⟩:∃k,j=k * 2∨j=k * 2+1:=⟨j / 2,by omega⟩
     · subst hk
       obtain⟨g1,_⟩:=qT l k (by omega);rw[g1] at hu;cases hu;exact(hcell k (by omega)).1
     · subst hk
       obtain⟨_,g2⟩:=qT l k (by omega);rw[g2] at hu;cases hu;have:=(hcell k (by omega)).2
       rwa [Nat.add_assoc] at this
  clear h4;have hE:(w.alloc (.cells #[] 55)).ownsRow w.heap.size 55 2 (.slice (some ⟨w.heap.size,0,none⟩) 0 0) 0 []:=
   ⟨rfl,.inr ⟨w.heap.size,0,#[],rfl,nl _,heap_alloc_new w _,nl _,Nat.zero_le _,rfl,rfl⟩⟩
  have DU:∀(j:Nat) (u:Value),(l9 l)[j]? =some u→(w.alloc (.cells #[] 55)).cell? (a.add j)=some u:=λj u hj=>
   Below.keep ((zb w).alloc zr _) (hnew j u hj)
  have hone:∀u∈l9 l,u.oneCell'=true:=λu hu=>by
   unfold l9 at hu;obtain⟨x,_,hx⟩:=List.mem_flatMap.1 hu;simp only[List.mem_cons,List.not_mem_nil,or_false] at hx;rcases hx with rfl|rfl<;>rfl
  have CJ:=vcd l;clear hnew hm hc hle;generalize l9 l=cs at *;generalize hnn:l.length=n at *;go_enter Tryz.func23,Tryz.ntmps23;go_wp2_with (at_builtin;refine wpList_append_own (w.alloc (.cells #[] 55)) rfl _ _ 39 rfl w.heap.size 55 i0 _ 2 32 (by kernel_rfl) kN hz0 hz1 hz2 rfl (by decide) (.slice (some ⟨w.heap.size,0,none⟩) 0 0) 0 [] rfl hE a n c cs rfl CJ DU hone (by unfold maxLen;omega) (by omega) (by simp) ?_;intro v' w3 ew hgr _);go_ret;rw[List.nil_append,Nat.zero_add] at ew;exact⟨v',rfl,ew,((zb w).alloc zr _).grown hgr (by simp) (λb e=>by cases e;exact nl _)⟩
structure vap (K t6:Nat) (w0:World) (x0 x1 x2 x3 x5 a c d:Value) (u:az) (q4 q6 q7 p2 p5 vko:Bool) (v2 v5 vl0:Value) (w:World):Prop where
 cV:Below t6 w0 w
 le:K≤w.heap.size
 head:w.heap[t6]? =some (.cells #[x0,x1,x2,x3,if q4=true then v2 else a,x5,if q6=true then v5 else c,if q7=true then vl0 else d] 41 (0,0))
 o2:p2=true→w.ownsRow K 9 1 v2 u.uses.length (aA u.uses)
 o5:p5=true→w.ownsRow K 5 1 v5 u.code.length (aH u.code)
 vkm:vko=true→w.ownsRow K 55 2 vl0 u.used.length (l9 u.used)
section
variable {K t6:Nat} {w0 w w':World} {x0 x1 x2 x3 x5 a c d:Value} {u:az} {q4 q6 q7 p2 p5 vko:Bool} {v2 v5 vl0:Value}
theorem vap.below (h:vap K t6 w0 x0 x1 x2 x3 x5 a c d u q4 q6 q7 p2 p5 vko v2 v5 vl0 w) (hb:Below w.heap.size w w') (hK:t6<K):vap K t6 w0 x0 x1 x2 x3 x5 a c d u q4 q6 q7 p2 p5 vko v2 v5 vl0 w':=
 ⟨h.cV.trans (aa hb (by have:=h.le;omega)),Nat.le_trans h.le hb.size,ag h.head hb,λhp=>aT (h.o2 hp) hb zr,λhp=>aT (h.o5 hp) hb zr,λhp=>aT (h.vkm hp) hb zr⟩
theorem vap.put (h:vap K t6 w0 x0 x1 x2 x3 x5 a c d u q4 q6 q7 p2 p5 vko v2 v5 vl0 w) (hK:t6<K) {r4 vks vkt:Bool} (k:Nat) (z:Value) (hz:(#[x0,x1,x2,x3,if q4=true then v2 else a,x5,if q6=true then v5 else c,if q7=true then vl0 else d]:Array Value).setIfInBounds k z= #[x0,x1,x2,x3,if r4=true then v2 else a,x5,if vks=true then v5 else c,if vkt=true then vl0 else d]):vap K t6 w0 x0 x1 x2 x3 x5 a c d u r4 vks vkt p2 p5 vko v2 v5 vl0 (w.setCell ⟨t6,k,none⟩ z):=by
 have key:∀{t:TypeId} {n m:Nat} {v:Value} {cs:List Value},w.ownsRow K t n v m cs→(w.setCell ⟨t6,k,none⟩ z).ownsRow K t n v m cs:=λho=>aG ho λg hg=>heap_setCell_other w ⟨t6,k,none⟩ g z λe=>by
  subst e;have:=(ho.lt g hg).1;omega
 refine⟨h.cV.setCell (p:=⟨t6,k,none⟩) zr z,by simpa[World.setCell] using h.le,?_,λhp=>key (h.o2 hp),λhp=>key (h.o5 hp),λhp=>key (h.vkm hp)⟩
 rw[←hz]
 exact heap_setCell_same w t6 k _ _ z h.head
end
theorem vax {w:World} {b:Nat} {a0 a1 a2 a3 a4 a5 a6 a7:Value} {t:TypeId} (h:w.heap[b]? =some (.cells #[a0,a1,a2,a3,a4,a5,a6,a7] t (0,0))):
 (w.cell? ⟨b,0,none⟩=some a0∧w.cell? ⟨b,1,none⟩=some a1∧w.cell? ⟨b,2,none⟩=some a2∧w.cell? ⟨b,3,none⟩=some a3∧w.cell? ⟨b,4,none⟩=some a4∧w.cell? ⟨b,5,none⟩=some a5∧w.cell? ⟨b,6,none⟩=some a6∧w.cell? ⟨b,7,none⟩=some a7)∧
 w.frozen? ⟨b,0,none⟩=false∧w.frozen? ⟨b,1,none⟩=false∧w.frozen? ⟨b,2,none⟩=false∧w.frozen? ⟨b,3,none⟩=false∧w.frozen? ⟨b,4,none⟩=false∧w.frozen? ⟨b,5,none⟩=false∧w.frozen? ⟨b,6,none⟩=false∧w.frozen? ⟨b,7,none⟩=false:=
 ⟨⟨(af h 0).trans rfl,(af h 1).trans rfl,(af h 2).trans rfl,(af h 3).trans rfl,(af h 4).trans rfl,(af h 5).trans rfl,(af h 6).trans rfl,(af h 7).trans rfl⟩,au h 0,au h 1,au h 2,au h 3,au h 4,au h 5,au h 6,au h 7⟩
theorem vbb {n j:Nat}:(Array.replicate n false).getD j false=false:=by
 rcases hq:(Array.replicate n false).getD j false with _|_
 · rfl
 · exact(kI hq).elim
theorem vgb {w W:World} {b:Nat} {a0 a1 a2 a3 a4 a5 a6 a7 z0 z1 z2 z3 z4 z5 vl5 vl6:Value} {t:TypeId} (h:w.heap[b]? =some (.cells #[a0,a1,a2,a3,a4,a5,a6,a7] t (0,0)))
 (hW:((((((((w.setCell ⟨b,0,none⟩ z0).setCell ⟨b,1,none⟩ z1).setCell ⟨b,2,none⟩ z2).setCell ⟨b,3,none⟩ z3).setCell ⟨b,4,none⟩ z4).setCell ⟨b,5,none⟩ z5).setCell ⟨b,6,none⟩ vl5).setCell ⟨b,7,none⟩ vl6)=W):
 W.heap[b]? =some (.cells #[z0,z1,z2,z3,z4,z5,vl5,vl6] t (0,0))∧Below b w W∧∀g,g≠b→W.heap[g]? =w.heap[g]? :=by
 rw[←hW]
 clear hW
 obtain⟨w0,e0⟩:∃w0,w.setCell ⟨b,0,none⟩ z0=w0:=⟨_,rfl⟩
 rw[e0]
 have h0:w0.heap[b]? =some (.cells #[z0,a1,a2,a3,a4,a5,a6,a7] t (0,0)):=by rw[←e0];exact heap_setCell_same w b 0 _ _ z0 h
 have g0:Below b w w0:=by rw[←e0];exact(Below.refl b w).setCell (p:=⟨b,0,none⟩) zr z0
 have i0:∀g,g≠b→w0.heap[g]? =w.heap[g]? :=λg hg=>by rw[←e0];exact(heap_setCell_other w ⟨b,0,none⟩ g z0 hg)
 clear e0
 obtain⟨w1,e1⟩:∃w1,w0.setCell ⟨b,1,none⟩ z1=w1:=⟨_,rfl⟩
 rw[e1]
 have h1:w1.heap[b]? =some (.cells #[z0,z1,a2,a3,a4,a5,a6,a7] t (0,0)):=by rw[←e1];exact heap_setCell_same w0 b 1 _ _ z1 h0
 have g1:Below b w w1:=by rw[←e1];exact g0.setCell (p:=⟨b,1,none⟩) zr z1
 have i1:∀g,g≠b→w1.heap[g]? =w.heap[g]? :=λg hg=>by rw[←e1];exact(heap_setCell_other w0 ⟨b,1,none⟩ g z1 hg).trans (i0 g hg)
 clear e1
 obtain⟨w2,e2⟩:∃w2,w1.setCell ⟨b,2,none⟩ z2=w2:=⟨_,rfl⟩
 rw[e2]
 have h2:w2.heap[b]? =some (.cells #[z0,z1,z2,a3,a4,a5,a6,a7] t (0,0)):=by rw[←e2];exact heap_setCell_same w1 b 2 _ _ z2 h1
 have g2:Below b w w2:=by rw[←e2];exact g1.setCell (p:=⟨b,2,none⟩) zr z2
 have i2:∀g,g≠b→w2.heap[g]? =w.heap[g]? :=λg hg=>by rw[←e2];exact(heap_setCell_other w1 ⟨b,2,none⟩ g z2 hg).trans (i1 g hg)
 clear e2
 obtain⟨w3,e3⟩:∃w3,w2.setCell ⟨b,3,none⟩ z3=w3:=⟨_,rfl⟩
 rw[e3]
 have h3:w3.heap[b]? =some (.cells #[z0,z1,z2,z3,a4,a5,a6,a7] t (0,0)):=by rw[←e3];exact heap_setCell_same w2 b 3 _ _ z3 h2
 have g3:Below b w w3:=by rw[←e3];exact g2.setCell (p:=⟨b,3,none⟩) zr z3
 have i3:∀g,g≠b→w3.heap[g]? =w.heap[g]? :=λg hg=>by rw[←e3];exact(heap_setCell_other w2 ⟨b,3,none⟩ g z3 hg).trans (i2 g hg)
 clear e3
 obtain⟨w4,e4⟩:∃w4,w3.setCell ⟨b,4,none⟩ z4=w4:=⟨_,rfl⟩
 rw[e4]
 have h4:w4.heap[b]? =some (.cells #[z0,z1,z2,z3,z4,a5,a6,a7] t (0,0)):=by rw[←e4];exact heap_setCell_same w3 b 4 _ _ z4 h3
 have g4:Below b w w4:=by rw[←e4];exact g3.setCell (p:=⟨b,4,none⟩) zr z4
 have i4:∀g,g≠b→w4.heap[g]? =w.heap[g]? :=λg hg=>by rw[←e4];exact(heap_setCell_other w3 ⟨b,4,none⟩ g z4 hg).trans (i3 g hg)
 clear e4
 obtain⟨w5,e5⟩:∃w5,w4.setCell ⟨b,5,none⟩ z5=w5:=⟨_,rfl⟩
 rw[e5]
 have h5:w5.heap[b]? =some (.cells #[z0,z1,z2,z3,z4,z5,a6,a7] t (0,0)):=by rw[←e5];exact heap_setCell_same w4 b 5 _ _ z5 h4
 have g5:Below b w w5:=by rw[←e5];exact g4.setCell (p:=⟨b,5,none⟩) zr z5
 have i5:∀g,g≠b→w5.heap[g]? =w.heap[g]? :=λg hg=>by rw[←e5];exact(heap_setCell_other w4 ⟨b,5,none⟩ g z5 hg).trans (i4 g hg)
 clear e5
 obtain⟨w6,e6⟩:∃w6,w5.setCell ⟨b,6,none⟩ vl5=w6:=⟨_,rfl⟩
 rw[e6]
 have h6:w6.heap[b]? =some (.cells #[z0,z1,z2,z3,z4,z5,vl5,a7] t (0,0)):=by rw[←e6];exact heap_setCell_same w5 b 6 _ _ vl5 h5
 have g6:Below b w w6:=by rw[←e6];exact g5.setCell (p:=⟨b,6,none⟩) zr vl5
 have i6:∀g,g≠b→w6.heap[g]? =w.heap[g]? :=λg hg=>by rw[←e6];exact(heap_setCell_other w5 ⟨b,6,none⟩ g vl5 hg).trans (i5 g hg)
 clear e6
 obtain⟨w7,e7⟩:∃w7,w6.setCell ⟨b,7,none⟩ vl6=w7:=⟨_,rfl⟩
 rw[e7]
 have h7:w7.heap[b]? =some (.cells #[z0,z1,z2,z3,z4,z5,vl5,vl6] t (0,0)):=by rw[←e7];exact heap_setCell_same w6 b 7 _ _ vl6 h6
 have g7:Below b w w7:=by rw[←e7];exact g6.setCell (p:=⟨b,7,none⟩) zr vl6
 have i7:∀g,g≠b→w7.heap[g]? =w.heap[g]? :=λg hg=>by rw[←e7];exact(heap_setCell_other w6 ⟨b,7,none⟩ g vl6 hg).trans (i6 g hg)
 clear e7
 exact⟨h7,g7,i7⟩
def vat (w:World) (b:Nat):Prop:=∃cs t,w.heap[b]? =some (.cells cs t (0,0))∧t≠111∧t≠133∧t≠145∧t≠147∧t≠198
theorem vat.keep {w w':World} {b:Nat} (h:vat w b) (hb:w'.heap[b]? =w.heap[b]?):vat w' b:=by
 obtain⟨cs,t,e,ht⟩:=h
 exact⟨cs,t,hb.trans e,ht⟩
theorem vat.below {w w':World} {b K:Nat} (h:vat w b) (hb:Below K w w') (hK:w.heap.size≤K):vat w' b:=h.keep (hb.block b (by obtain⟨cs,t,e,_⟩:=h;have:=aj e;omega))
theorem vat.own {w:World} {K n m:Nat} {t:TypeId} {v:Value} {cs:List Value} (h:w.ownsRow K t n v m cs) (ht:t≠111∧t≠133∧t≠145∧t≠147∧t≠198):∀b,v.ownBlock=some b→K≤b∧vat w b:=λb hb=>by
 rcases h.2 with⟨rfl,h0⟩|⟨g,cap,cur,rfl,hg,hh,h1,h2,h3,h4⟩
 · cases hb
 · cases hb
   exact⟨hg,_,_,hh,ht⟩
def vav (us:List (List UInt8×az)) (name:List UInt8):Nat:=if(aq us name).isSome then 0 else 5
def van (us:List (List UInt8×az)) (name:List UInt8):az:=(aq us name).getD .zero
theorem vd9 {R : Nat → Prop} {sb mu : Nat} {us : List (List UInt8 × az)} (name : List UInt8) (hn : name.length ≤ maxLen) (w : World) (h : tJ R w sb mu us) (hlen : (van us name).uses.length ≤ 100000 ∧ (van us name).code.length ≤ 100000 ∧ (van us name).used.length ≤ 100000) :
 Calls Tryz.prog 27 #[.pointer (some ⟨sb,0,none⟩),str name] w λe w'=>(∃v,e=.returned (.tuple #[v,.int .i64 (vav us name)])∧dN (λb=>w.heap.size≤b∧vat w' b) w' v (van us name))∧Below w.heap.size w w':=by
 obtain⟨vu,hlk,oP⟩:=h.units.iL hn
 unfold vav van at *
 obtain⟨lu,v8⟩:∃lu,aq us name=lu:=⟨_,rfl⟩
 rw[v8] at hlk oP hlen ⊢
 clear v8
 obtain⟨ua,uc,ud,rfl,wm,kO,nH,nI⟩:=oP
 obtain⟨q1,q2,rfl,_⟩:=kO.shape
 obtain⟨q3,q4,rfl,_⟩:=nH.shape
 obtain⟨q5,q6,rfl,_⟩:=nI.shape
 have hA:Below w.heap.size w (w.alloc (.cells #[.string ⟨#[]⟩,.int .i64 0,.string ⟨#[]⟩,.string ⟨#[]⟩,.slice none 0 0,.bool false,.slice none 0 0,.slice none 0 0] 41)):=(zb w).alloc zr _
 have vi0:=heap_alloc_new w (.cells #[.string ⟨#[]⟩,.int .i64 0,.string ⟨#[]⟩,.string ⟨#[]⟩,.slice none 0 0,.bool false,.slice none 0 0,.slice none 0 0] 41)
 have hs1:(w.alloc (.cells #[.string ⟨#[]⟩,.int .i64 0,.string ⟨#[]⟩,.string ⟨#[]⟩,.slice none 0 0,.bool false,.slice none 0 0,.slice none 0 0] 41)).heap.size=w.heap.size+1:=by simp
 have hc:=Below.keep hA h.cell
 have veo:=h.wX
 rcases lu with _|u
 · dsimp only[Option.getD_none,Option.isSome_none] at hlk ⊢
   obtain⟨vl7,vga⟩:∃vl7,(Value.agg #[str az.zero.name,.int .i64 (az.zero.version:Int),str az.zero.source,str az.zero.aO,.slice q1 az.zero.uses.length q2,.bool az.zero.built,.slice q3 (aH az.zero.code).length q4,.slice q5 az.zero.used.length q6])=.agg #[.string ⟨#[]⟩,.int .i64 0,.string ⟨#[]⟩,.string ⟨#[]⟩,.slice q1 0 q2,.bool false,.slice q3 0 q4,vl7]:=⟨_,rfl⟩
   rw[vga] at hlk;have hzs:∃x:Option Addr×Nat,vl7=.slice x.1 0 x.2:=⟨(q5,q6),by injection vga with vga;exact(congrArg (λz:Array Value=>z[7]!) vga).symm⟩
   obtain⟨⟨q7,vkp⟩,rfl⟩:=hzs;clear vga;go_enter Tryz.func27,Tryz.ntmps27;go_upto_region 1 with fail;generalize w.alloc (.cells #[.string ⟨#[]⟩,.int .i64 0,.string ⟨#[]⟩,.string ⟨#[]⟩,.slice none 0 0,.bool false,.slice none 0 0,.slice none 0 0] 41)=W1 at *;have j1:=hlk W1 true (hA.block mu veo);clear hlk;go_upto_region 4 with fail;have Cz:Below W1.heap.size W1 (W1.alloc (.cells #[.string ⟨#[]⟩,.int .i64 0,.string ⟨#[]⟩,.string ⟨#[]⟩,.slice q1 0 q2,.bool false,.slice q3 0 q4,.slice q7 0 vkp] 41)):=(zb W1).alloc zr _;generalize W1.alloc (.cells #[.string ⟨#[]⟩,.int .i64 0,.string ⟨#[]⟩,.string ⟨#[]⟩,.slice q1 0 q2,.bool false,.slice q3 0 q4,.slice q7 0 vkp] 41)=W2 at *;have Fu:=(Cz.block w.heap.size (by omega)).trans vi0;have vk2:=vax Fu;have lQ:=hA.trans (aa Cz (by omega));go_wp2_with fail;generalize L4:World.setCell _ _ _=W9;obtain⟨h1,h2,_⟩:=vgb Fu L4;clear L4;have h3:=run_loadVar_row (P:=Tryz.prog) _ w.heap.size 41 41 _ (0,0) _ h1 Tryz.underlying41 rfl (by kernel_rfl);refine bodyPost_ret (v:=.tuple #[xG,.int .i64 5]) ((results_cell_tmp (fn:=Tryz.f27) (p:=4) (u:=5) (ty:=41) rfl _ _ _).trans ?_) rfl ⟨⟨_,rfl,dN.zero _ _⟩,lQ.trans h2⟩
   show((loadVar 41 ⟨w.heap.size,0,none⟩).run Tryz.prog _).andThen _=_
   rw[h3]
   rfl
 · dsimp only[Option.getD_some,Option.isSome_some] at hlk ⊢ kO nH nI hlen
   go_enter Tryz.func27,Tryz.ntmps27;go_upto_region 1 with fail;generalize w.alloc (.cells #[.string ⟨#[]⟩,.int .i64 0,.string ⟨#[]⟩,.string ⟨#[]⟩,.slice none 0 0,.bool false,.slice none 0 0,.slice none 0 0] 41)=W1 at *;have j1:=hlk W1 true (hA.block mu veo);clear hlk;go_upto_region 6 with fail;have Cz:Below W1.heap.size W1 (W1.alloc (.cells #[.string ⟨u.name.toArray⟩,.int .i64 (u.version:Int),.string ⟨u.source.toArray⟩,.string ⟨u.aO.toArray⟩,.slice q1 u.uses.length q2,.bool u.built,.slice q3 (aH u.code).length q4,.slice q5 u.used.length q6] 41)):=(zb W1).alloc zr _;have vem:=heap_alloc_new W1 (.cells #[.string ⟨u.name.toArray⟩,.int .i64 (u.version:Int),.string ⟨u.source.toArray⟩,.string ⟨u.aO.toArray⟩,.slice q1 u.uses.length q2,.bool u.built,.slice q3 (aH u.code).length q4,.slice q5 u.used.length q6] 41);have hs2:(W1.alloc (.cells #[.string ⟨u.name.toArray⟩,.int .i64 (u.version:Int),.string ⟨u.source.toArray⟩,.string ⟨u.aO.toArray⟩,.slice q1 u.uses.length q2,.bool u.built,.slice q3 (aH u.code).length q4,.slice q5 u.used.length q6] 41)).heap.size=W1.heap.size+1:=by simp
   rw[hs1] at vem hs2;generalize W1.alloc (.cells #[.string ⟨u.name.toArray⟩,.int .i64 (u.version:Int),.string ⟨u.source.toArray⟩,.string ⟨u.aO.toArray⟩,.slice q1 u.uses.length q2,.bool u.built,.slice q3 (aH u.code).length q4,.slice q5 u.used.length q6] 41)=W2 at *;have Fu:=(Cz.block w.heap.size (by omega)).trans vi0;have lQ:=hA.trans (aa Cz (by omega));have vh4:(aH u.code).length=u.code.length:=ak _;clear hA Cz hc veo j1;have vif:=enters_of Tryz.func19 (by kernel_rfl) rfl;have vig:=enters_of Tryz.func20 (by kernel_rfl) rfl;have vih:=enters_of Tryz.func23 (by kernel_rfl) rfl;have hK:w.heap.size+1<w.heap.size+2:=by omega
   let T:Array Bool→(Nat→Value)→World→Prop:=λlisted vals W=>vap (w.heap.size+2) (w.heap.size+1) W2 (.string ⟨u.name.toArray⟩) (.int .i64 (u.version:Int)) (.string ⟨u.source.toArray⟩) (.string ⟨u.aO.toArray⟩) (.bool u.built) (.slice q1 u.uses.length q2) (.slice q3 (aH u.code).length q4) (.slice q5 u.used.length q6) u (listed.getD 10 false) (listed.getD 12 false) (listed.getD 14 false) (listed.getD 2 false) (listed.getD 5 false) (listed.getD 8 false) (vals 2) (vals 5) (vals 8) W
   have hT:∀i,(i≠2∧i≠5∧i≠8∧i≠10∧i≠12∧i≠14)→∀(listed:Array Bool) (vals:Nat→Value) (W:World) (z:Value),T listed vals W→T (listed.setIfInBounds i true) (Fa vals i z) W:=λi hi listed vals W z h=>by
    simp only[T] at *;rw[getD_set_ne false hi.1,getD_set_ne false hi.2.1,getD_set_ne false hi.2.2.1,getD_set_ne false hi.2.2.2.1,getD_set_ne false hi.2.2.2.2.1,getD_set_ne false hi.2.2.2.2.2,fE vals z (λe=>hi.1 e.symm),fE vals z (λe=>hi.2.1 e.symm),fE vals z (λe=>hi.2.2.1 e.symm)];exact h
   refine rT (vf6 [some (.pointer (some ⟨w.heap.size+1,4,none⟩)),some (.slice q1 u.uses.length q2),none,some (.pointer (some ⟨w.heap.size+1,6,none⟩)),some (.slice q3 (aH u.code).length q4),none,some (.pointer (some ⟨w.heap.size+1,7,none⟩)),some (.slice q5 u.used.length q6),none,some (.pointer (some ⟨w.heap.size+1,4,none⟩)),none,some (.pointer (some ⟨w.heap.size+1,6,none⟩)),none,some (.pointer (some ⟨w.heap.size+1,7,none⟩)),none] T) (by kernel_rfl) (by kernel_rfl) (by kernel_rfl) ⟨λj v _ h=>(kI h).elim,?_⟩ ⟨?_,?_,?_,?_,?_,?_,?_,?_,?_,?_,?_,?_,?_,?_,?_,trivial⟩ ?_
   · have hdr:Below W2.heap.size W2 W2.drew:=(zb W2).drew
     simp only[T];rw[vbb,vbb,vbb,vbb,vbb,vbb];exact⟨aa hdr (by omega),by have:=hdr.size;omega,ag vem hdr,(λh=>by cases h),(λh=>by cases h),(λh=>by cases h)⟩
   · exact vb3 6 (by kernel_rfl) rfl rfl (hT 0 (by decide)) λev w h=>by unfold execOp;simp only[h];simp[go_sem]
   · intro listed vals ax wx hsz hl hS hcl DR hd ho next hnx
     have e:=(vF hd 0 (by kernel_rfl) rfl).trans (hS.c 0 _ rfl (wR DR 0 (by kernel_rfl)));have hq:listed.getD 10 false=false:=by
      rcases hq:listed.getD 10 false with _|_
      · rfl
      · have:=bl hcl (i:=2) (j:=1) rfl (by kernel_rfl) (bl hcl (i:=10) (j:=2) rfl (by kernel_rfl) hq)
        rw[qz hl] at this;cases this
     have xQ:=(vax hS.t.head).1.2.2.2.2.1;rw[hq,if_neg (by decide)] at xQ;refine aR (v:=.slice q1 u.uses.length q2) ?_ (hnx _ _ (hS.step (λu h=>Option.some.inj (Option.some.inj h)) (hT 1 (by decide) _ _ _ _ hS.t)));unfold execOp;simp only[e];simp[go_sem,xQ]
   · intro listed vals ax wx hsz hl hS hcl DR hd ho next hnx
     have vdi:listed.size=15:=hsz;have e:=(vF hd 1 (by kernel_rfl) rfl).trans (hS.c 1 _ rfl (wR DR 1 (by kernel_rfl)));have hq:listed.getD 10 false=false:=by
      rcases hq:listed.getD 10 false with _|_
      · rfl
      · have:=bl hcl (i:=10) (j:=2) rfl (by kernel_rfl) hq
        rw[qz hl] at this;cases this
     have RW:vap _ _ _ _ _ _ _ _ _ _ _ _ _ _ _ _ _ _ _ _ _ _:=hS.t;have gN:=lQ.trans (aa RW.cV (by omega));refine xK (R:=λv w'=>w'.ownsRow wx.heap.size 9 1 v u.uses.length (aA u.uses)∧Below wx.heap.size wx w') rfl vif e ((Dj _ u.uses wx (kO.below gN zr) hlen.1).mono λe w' ⟨v',h1,h2,h3⟩=>⟨v',h1,h2,h3⟩) λv w' hu=>hnx v w' (hS.step (λu h=>by cases h) ?_)
     have h2:=RW.below hu.2 hK;simp only[T];rw[getD_set_ne false (by decide),getD_set_ne false (by decide),getD_set_ne false (by decide),vak (by omega),getD_set_ne false (by decide),getD_set_ne false (by decide),hq,iR,fE vals _ (by decide),fE vals _ (by decide)];rw[hq] at h2;exact⟨h2.cV,h2.le,h2.head,λ_=>ef hu.1 RW.le,h2.o5,h2.vkm⟩
   · exact vb3 6 (by kernel_rfl) rfl rfl (hT 3 (by decide)) λev w h=>by unfold execOp;simp only[h];simp[go_sem]
   · intro listed vals ax wx hsz hl hS hcl DR hd ho next hnx
     have e:=(vF hd 3 (by kernel_rfl) rfl).trans (hS.c 3 _ rfl (wR DR 3 (by kernel_rfl)));have hq:listed.getD 12 false=false:=by
      rcases hq:listed.getD 12 false with _|_
      · rfl
      · have:=bl hcl (i:=5) (j:=4) rfl (by kernel_rfl) (bl hcl (i:=12) (j:=5) rfl (by kernel_rfl) hq)
        rw[qz hl] at this;cases this
     have xQ:=(vax hS.t.head).1.2.2.2.2.2.2.1;rw[hq,if_neg (by decide)] at xQ;refine aR (v:=.slice q3 (aH u.code).length q4) ?_ (hnx _ _ (hS.step (λu h=>Option.some.inj (Option.some.inj h)) (hT 4 (by decide) _ _ _ _ hS.t)));unfold execOp;simp only[e];simp[go_sem,xQ]
   · intro listed vals ax wx hsz hl hS hcl DR hd ho next hnx
     have vdi:listed.size=15:=hsz;have e:=(vF hd 4 (by kernel_rfl) rfl).trans (hS.c 4 _ rfl (wR DR 4 (by kernel_rfl)));have hq:listed.getD 12 false=false:=by
      rcases hq:listed.getD 12 false with _|_
      · rfl
      · have:=bl hcl (i:=12) (j:=5) rfl (by kernel_rfl) hq
        rw[qz hl] at this;cases this
     have RW:vap _ _ _ _ _ _ _ _ _ _ _ _ _ _ _ _ _ _ _ _ _ _:=hS.t;have gN:=lQ.trans (aa RW.cV (by omega));refine xK (R:=λv w'=>w'.ownsRow wx.heap.size 5 1 v u.code.length (aH u.code)∧Below wx.heap.size wx w') rfl vig e ((vr _ _ wx (nH.below gN zr) (bF.u8 _) (by rw[vh4];exact hlen.2.1)).mono λe w' ⟨v',h1,h2,h3⟩=>⟨v',h1,by rw[vh4] at h2;exact h2,h3⟩) λv w' hu=>hnx v w' (hS.step (λu h=>by cases h) ?_)
     have h2:=RW.below hu.2 hK;simp only[T];rw[getD_set_ne false (by decide),getD_set_ne false (by decide),getD_set_ne false (by decide),vak (by omega),getD_set_ne false (by decide),getD_set_ne false (by decide),hq,iR,fE vals _ (by decide),fE vals _ (by decide)];rw[hq] at h2;exact⟨h2.cV,h2.le,h2.head,h2.o2,λ_=>ef hu.1 RW.le,h2.vkm⟩
   · exact vb3 6 (by kernel_rfl) rfl rfl (hT 6 (by decide)) λev w h=>by unfold execOp;simp only[h];simp[go_sem]
   · intro listed vals ax wx hsz hl hS hcl DR hd ho next hnx
     have e:=(vF hd 6 (by kernel_rfl) rfl).trans (hS.c 6 _ rfl (wR DR 6 (by kernel_rfl)));have hq:listed.getD 14 false=false:=by
      rcases hq:listed.getD 14 false with _|_
      · rfl
      · have:=bl hcl (i:=8) (j:=7) rfl (by kernel_rfl) (bl hcl (i:=14) (j:=8) rfl (by kernel_rfl) hq)
        rw[qz hl] at this;cases this
     have xQ:=(vax hS.t.head).1.2.2.2.2.2.2.2;rw[hq,if_neg (by decide)] at xQ;refine aR (v:=.slice q5 u.used.length q6) ?_ (hnx _ _ (hS.step (λu h=>Option.some.inj (Option.some.inj h)) (hT 7 (by decide) _ _ _ _ hS.t)));unfold execOp;simp only[e];simp[go_sem,xQ]
   · intro listed vals ax wx hsz hl hS hcl DR hd ho next hnx
     have vdi:listed.size=15:=hsz;have e:=(vF hd 7 (by kernel_rfl) rfl).trans (hS.c 7 _ rfl (wR DR 7 (by kernel_rfl)));have hq:listed.getD 14 false=false:=by
      rcases hq:listed.getD 14 false with _|_
      · rfl
      · have:=bl hcl (i:=14) (j:=8) rfl (by kernel_rfl) hq
        rw[qz hl] at this;cases this
     have RW:vap _ _ _ _ _ _ _ _ _ _ _ _ _ _ _ _ _ _ _ _ _ _:=hS.t;have gN:=lQ.trans (aa RW.cV (by omega));refine xK (R:=λv w'=>w'.ownsRow wx.heap.size 55 2 v u.used.length (l9 u.used)∧Below wx.heap.size wx w') rfl vih e ((vck _ u.used wx (nI.below gN zr) hlen.2.2).mono λe w' ⟨v',h1,h2,h3⟩=>⟨v',h1,h2,h3⟩) λv w' hu=>hnx v w' (hS.step (λu h=>by cases h) ?_)
     have h2:=RW.below hu.2 hK;simp only[T];rw[getD_set_ne false (by decide),getD_set_ne false (by decide),getD_set_ne false (by decide),vak (by omega),getD_set_ne false (by decide),getD_set_ne false (by decide),hq,iR,fE vals _ (by decide),fE vals _ (by decide)];rw[hq] at h2;exact⟨h2.cV,h2.le,h2.head,h2.o2,h2.o5,λ_=>ef hu.1 RW.le⟩
   · exact vb3 6 (by kernel_rfl) rfl rfl (hT 9 (by decide)) λev w h=>by unfold execOp;simp only[h];simp[go_sem]
   · intro listed vals ax wx hsz hl hS hcl DR hd ho next hnx
     have vdi:listed.size=15:=hsz;have e:=(vF hd 9 (by kernel_rfl) rfl).trans (hS.c 9 _ rfl (wR DR 9 (by kernel_rfl)));have e2:=vF hd 2 (by kernel_rfl) rfl;have RW:vap _ _ _ _ _ _ _ _ _ _ _ _ _ _ _ _ _ _ _ _ _ _:=hS.t;have cc:=vax RW.head;obtain⟨q,cq,hq⟩:=aJ (RW.o2 (wR DR 2 (by kernel_rfl)));refine aY rfl e e2 (w':=wx.setCell ⟨w.heap.size+1,4,none⟩ (vals 2)) (by rw[hq];simp[go_sem,cc]) (hnx _ _ (hS.step (λu h=>by cases h) ?_));have h2:=RW.put hK (r4:=true) (vks:=listed.getD 12 false) (vkt:=listed.getD 14 false) 4 (vals 2) rfl;simp only[T];rw[vak (by omega),getD_set_ne false (by decide),getD_set_ne false (by decide),getD_set_ne false (by decide),getD_set_ne false (by decide),getD_set_ne false (by decide),fE vals _ (by decide),fE vals _ (by decide),fE vals _ (by decide)];exact h2
   · exact vb3 6 (by kernel_rfl) rfl rfl (hT 11 (by decide)) λev w h=>by unfold execOp;simp only[h];simp[go_sem]
   · intro listed vals ax wx hsz hl hS hcl DR hd ho next hnx
     have vdi:listed.size=15:=hsz;have e:=(vF hd 11 (by kernel_rfl) rfl).trans (hS.c 11 _ rfl (wR DR 11 (by kernel_rfl)));have e2:=vF hd 5 (by kernel_rfl) rfl;have RW:vap _ _ _ _ _ _ _ _ _ _ _ _ _ _ _ _ _ _ _ _ _ _:=hS.t;have cc:=vax RW.head;obtain⟨q,cq,hq⟩:=aJ (RW.o5 (wR DR 5 (by kernel_rfl)));refine aY rfl e e2 (w':=wx.setCell ⟨w.heap.size+1,6,none⟩ (vals 5)) (by rw[hq];simp[go_sem,cc]) (hnx _ _ (hS.step (λu h=>by cases h) ?_));have h2:=RW.put hK (r4:=listed.getD 10 false) (vks:=true) (vkt:=listed.getD 14 false) 6 (vals 5) rfl;simp only[T];rw[getD_set_ne false (by decide),vak (by omega),getD_set_ne false (by decide),getD_set_ne false (by decide),getD_set_ne false (by decide),getD_set_ne false (by decide),fE vals _ (by decide),fE vals _ (by decide),fE vals _ (by decide)];exact h2
   · exact vb3 6 (by kernel_rfl) rfl rfl (hT 13 (by decide)) λev w h=>by unfold execOp;simp only[h];simp[go_sem]
   · intro listed vals ax wx hsz hl hS hcl DR hd ho next hnx
     have vdi:listed.size=15:=hsz;have e:=(vF hd 13 (by kernel_rfl) rfl).trans (hS.c 13 _ rfl (wR DR 13 (by kernel_rfl)));have e2:=vF hd 8 (by kernel_rfl) rfl;have RW:vap _ _ _ _ _ _ _ _ _ _ _ _ _ _ _ _ _ _ _ _ _ _:=hS.t;have cc:=vax RW.head;obtain⟨q,cq,hq⟩:=aJ (RW.vkm (wR DR 8 (by kernel_rfl)));refine aY rfl e e2 (w':=wx.setCell ⟨w.heap.size+1,7,none⟩ (vals 8)) (by rw[hq];simp[go_sem,cc]) (hnx _ _ (hS.step (λu h=>by cases h) ?_));have h2:=RW.put hK (r4:=listed.getD 10 false) (vks:=listed.getD 12 false) (vkt:=true) 7 (vals 8) rfl;simp only[T];rw[getD_set_ne false (by decide),getD_set_ne false (by decide),vak (by omega),getD_set_ne false (by decide),getD_set_ne false (by decide),getD_set_ne false (by decide),fE vals _ (by decide),fE vals _ (by decide),fE vals _ (by decide)];exact h2
   intro ax w5 hdf iw hout ⟨listed,vals,hall,Pr,_⟩;have RW:vap _ _ _ _ _ _ _ _ _ _ _ _ _ _ _ _ _ _ _ _ _ _:=Pr.t;rw[hall 10 (by decide),hall 12 (by decide),hall 14 (by decide),hall 2 (by decide),hall 5 (by decide),hall 8 (by decide)] at RW;rw[dO hdf iw hout];simp only[JW,pz,pw];generalize vals 2=v2 at RW;generalize vals 5=v5 at RW;generalize vals 8=vl0 at RW;clear hdf iw hout hall Pr;obtain⟨r2,s2,rfl⟩:=aJ (RW.o2 rfl);obtain⟨vkr,vkv,rfl⟩:=aJ (RW.o5 rfl);obtain⟨vku,vkx,rfl⟩:=aJ (RW.vkm rfl);have Uc:=RW.head;rw[if_pos rfl,if_pos rfl,if_pos rfl] at Uc;have b6:=vax Uc;have vhs:=(RW.cV.block w.heap.size (by omega)).trans Fu;have b4:=vax vhs;clear hT;go_wp2_with fail;generalize L4:World.setCell _ _ _=W9;obtain⟨h1,h2,h3⟩:=vgb vhs L4;clear L4;have hl:=run_loadVar_row (P:=Tryz.prog) _ w.heap.size 41 41 _ (0,0) _ h1 Tryz.underlying41 rfl (by kernel_rfl);have vdm:∀{t:TypeId} {n m:Nat} {v:Value} {cs:List Value},w5.ownsRow (w.heap.size+2) t n v m cs→W9.ownsRow (w.heap.size+2) t n v m cs:=λho=>aG ho λg hg=>h3 g (by have:=(ho.lt g hg).1;omega)
   have NI:∀{t:TypeId} {n m:Nat} {v:Value} {cs:List Value},W9.ownsRow (w.heap.size+2) t n v m cs→(t≠111∧t≠133∧t≠145∧t≠147∧t≠198)→∀b,v.ownBlock=some b→w.heap.size≤b∧vat W9 b:=λho ht b hb=>⟨by have:=(ho.lt b hb).1;omega,(vat.own ho ht b hb).2⟩
   have k2:=vdm (RW.o2 rfl);have k5:=vdm (RW.o5 rfl);have k8:=vdm (RW.vkm rfl);refine bodyPost_ret (v:=.tuple #[.agg #[.string ⟨u.name.toArray⟩,.int .i64 (u.version:Int),.string ⟨u.source.toArray⟩,.string ⟨u.aO.toArray⟩,.slice r2 u.uses.length s2,.bool u.built,.slice vkr u.code.length vkv,.slice vku u.used.length vkx],.int .i64 0]) ((results_cell_tmp (fn:=Tryz.f27) (p:=4) (u:=5) (ty:=41) rfl _ _ _).trans ?_) rfl ⟨⟨_,rfl,?_⟩,lQ.trans (aa (RW.cV) (by omega) |>.trans h2)⟩
   · show((loadVar 41 ⟨w.heap.size,0,none⟩).run Tryz.prog _).andThen _=_
     rw[hl]
     rfl
   · refine⟨_,_,_,rfl,wm,SS.eZ k2 kO.le (NI k2 (by decide)),CV.eZ (by rw[vh4];exact k5) (NI k5 (by decide)),ck.eZ k8 nI.le (NI k8 (by decide))⟩
theorem vaj {n:List UInt8} (h:isName n=true):n≠[]∧n.length≤12∧∀c∈n,dK c=true:=by
 rcases n with _|⟨c,r⟩
 · cases h
 · unfold isName at h
   simp only[Bool.and_eq_true,decide_eq_true_eq] at h;refine⟨by simp,h.1.1.1,λd hd=>?_⟩;obtain⟨k,hk,rfl⟩:=List.getElem_of_mem hd;exact vz _ k hk (by rw[h.1.2];exact hk)
theorem vcn {n:List UInt8} (h:isName n=true):(44:UInt8)∉n:=λhc=>by
 have:=(vaj h).2.2 44 hc
 revert this
 decide
theorem ve1 (l:List (List UInt8)):di l=aU 44 l:=(join_eq l).symm.trans (iH 44 l)
theorem vcu {l:List (List UInt8)} (h:∀u∈l,isName u=true):qV (aU 44 l)=l:=by
 unfold qV
 rcases l with _|⟨a,l⟩
 · rfl
 · have hne:aU 44 (a::l)≠[]:=by
    have ha:=(vaj (h a (by simp))).1;cases l with
    | nil=>exact ha
    | cons b l=>
     intro e;exact ha (List.append_eq_nil_iff.1 e).1
   rw[if_neg hne,←ve1];exact vbe _ (by simp) λx hx=>vcn (h x hx)
structure vdc (n:List UInt8) (u:az):Prop where
 name:u.name=n
 nm:isName n=true
 nu:u.uses.length≤20
 un:∀x∈u.uses,isName x=true∧x≠n
 vie:∀i a b,u.uses[i]? =some a→u.uses[i+1]? =some b→Op.bytesLess a b=true
 le:u.source.length≤3000∧u.aO.length≤3000∧u.code.length≤3000
 vk3:u.built=true→u.used.map (·.1)=u.uses
 nb:u.built=false→u.used=[]∧u.code=[]
structure vau (L:bh) (j:Nat):Prop where
 units:∀n u,aq L.units n=some u→vdc n u
 nd:(L.units.map (·.1)).Nodup
 vkl:L.units.length≤20
 last:L.last.length≤j
 num:∀n,(aq L.last n).getD 0≤j
theorem vau.new:vau .new 0:=⟨(λn u h=>by cases h),List.nodup_nil,Nat.zero_le _,Nat.zero_le _,λ_=>nl _⟩
theorem vau.mono {L:bh} {j k:Nat} (h:vau L j) (hk:j≤k):vau L k:=⟨h.units,h.nd,h.vkl,Nat.le_trans h.last hk,λn=>Nat.le_trans (h.num n) hk⟩
theorem vau.b {L:bh} {j:Nat} (h:vau L j) (hj:j≤100):AM L:=by
 refine⟨by have:=h.vkl;omega,by have:=h.last;omega,λn=>by have:=h.num n;omega,λn=>?_⟩
 rcases hq:aq L.units n with _|u
 · exact Nat.zero_le _
 · have:=(h.units n u hq).nu
   show u.uses.length≤1000
   omega
theorem vau.ub {L:bh} {j:Nat} (h:vau L j):∀n u,aq L.units n=some u→zU u:=λn u hu=>by
 have hi:=h.units n u hu
 refine⟨by have:=hi.nu;omega,λhb=>?_⟩
 have:=congrArg List.length (hi.vk3 hb)
 rw[List.length_map] at this
 omega
theorem vd7 {L:bh} {name src text:List UInt8} {uses:List (List UInt8)} (h:jg L name src text uses=0):isName name=true∧j7 src=true∧uses.length≤20∧mg name uses=true∧text.length≤3000∧((aq L.units name).isSome=true∨L.units.length<20):=by
 unfold jg at h
 split at h
 · cases h
 · rename_i h1
   split at h
   · cases h
   · rename_i h2
     split at h
     · cases h
     · rename_i h3
       split at h
       · cases h
       · rename_i h4
         simp only[Bool.not_eq_false,Bool.and_eq_true,Bool.or_eq_true,decide_eq_true_eq] at h1 h2 h3 h4;exact⟨h1.1.1,h1.1.2,h1.2,h2,h3.2,h4⟩
theorem vau.put {L:bh} {j:Nat} (h:vau L j) {name src text:List UInt8} {uses:List (List UInt8)} (hE:jg L name src text uses=0):vau (ep L name src text (aU 44 uses)) (j+1):=by
 obtain⟨h1,h2,h3,h4,h5,h6⟩:=vd7 hE
 have hok:=qU.1 h4
 have hun:∀x∈uses,isName x=true∧x≠name:=λx hx=>by
  obtain⟨i,hi⟩:=List.getElem?_of_mem hx;have:=hok i (List.getElem?_eq_some_iff.1 hi).1;rw[EI hi] at this;simp only[Bool.and_eq_true,bne_iff_ne] at this;exact this.1
 have vj9:=vcu λu hu=>(hun u hu).1
 unfold ep
 rw[vj9]
 refine⟨λn u hu=>?_,zi h.nd _ _,?_,?_,λn=>?_⟩
 · dsimp only at hu
   rw[kG] at hu;split at hu
   · rename_i e
     subst e;cases hu;refine⟨rfl,h1,h3,hun,λi a b ha hb=>?_,⟨?_,h5,Nat.zero_le _⟩,(λh=>by cases h),λ_=>⟨rfl,rfl⟩⟩
     · have:=hok (i+1) (List.getElem?_eq_some_iff.1 hb).1
       rw[EI hb] at this;simp only[Bool.and_eq_true,Bool.or_eq_true,beq_iff_eq,Nat.add_sub_cancel,ha] at this;exact this.2.resolve_left (by omega)
     · unfold j7 at h2
       rw[Bool.and_eq_true,decide_eq_true_eq] at h2;exact h2.1
   · exact h.units n u hu
 · dsimp only
   rw[xm];split
   · exact h.vkl
   · rename_i hn
     have:=h6.resolve_left hn;omega
 · dsimp only
   rw[xm];have:=h.last;split<;>omega
 · dsimp only
   rw[kG];have h7:=h.num name;have h8:=h.num n;split
   · show(aq L.last name).getD 0+1≤j+1
     omega
   · omega
theorem vau.drop {L:bh} {j:Nat} (h:vau L j) (name:List UInt8):vau (o8 L name) j:=
 ⟨fun n u hu => by
  unfold o8 at hu;rw[sM] at hu;split at hu
  · cases hu
  · exact h.units n u hu,yb h.nd _,Nat.le_trans (FQ _ _) h.vkl,h.last,h.num⟩
theorem vau.built {L:bh} {j:Nat} (h:vau L j) {name code:List UInt8} {version:Int} {used:List (List UInt8×List UInt8)} (hE:iu L name version code used=0):vau (ez L name code) j:=by
 unfold iu at hE
 rcases hq:aq L.units name with _|u
 · rw[hq] at hE
   cases hE
 · rw [hq] at hE
   dsimp only at hE;split at hE
   · cases hE
   · split at hE
     · cases hE
     · rename_i hc
       have hc:code.length≤3000:=by simpa using hc
       have hi:=h.units name u hq;unfold ez;rw[hq];dsimp only[Option.getD_some];refine⟨λn v hv=>?_,zi h.nd _ _,?_,h.last,h.num⟩
       · dsimp only at hv
         rw[kG] at hv;split at hv
         · rename_i e
           rw[hi.name] at e;subst e;cases hv;refine⟨hi.name,hi.nm,hi.nu,hi.un,hi.vie,⟨hi.le.1,hi.le.2.1,hc⟩,λ_=>?_,λh=>by cases h⟩
           show(cM L u).map (·.1)=u.uses
           unfold cM;simp[List.map_map,Function.comp_def]
         · exact h.units n v hv
       · dsimp only
         rw[xm,hi.name,hq];exact h.vkl
end
section
open Go Go.RowKit Go.Maps
theorem vbc {us:List (List UInt8×az)} {f:Nat} (h:∀(out:List (List UInt8)) (n:List UInt8),out.Nodup→(cD us f out n).Nodup):∀(l:List (List UInt8)) (o:List (List UInt8)),o.Nodup→(l.foldl (cD us f) o).Nodup
 | [],_,ho=>ho
 | a::l,o,ho=>vbc h l _ (h o a ho)
theorem vb9 (us:List (List UInt8×az)):∀(f:Nat) (out:List (List UInt8)) (n:List UInt8),out.Nodup→(cD us f out n).Nodup
 | 0,_,_,h=>h
 | f+1,out,n,h=>by
  unfold cD;split
  · exact h
  · split
    · exact h
    · rename_i u _ hn
      exact vbc (vb9 us f) _ _ (List.nodup_append.2 ⟨h,by simp,λa ha b hb e=>hn (by rw[List.mem_singleton.1 hb] at e;rw[←e];exact ha)⟩)
end
open Go Go.RowKit
structure vai (R:Nat→Prop) (w W:World) (l:Loc) (L:bh) (j:Nat):Prop where
 st:∃at_,at_≤300 * j∧bq R w.heap.size W l L at_
 up:∀b,W.heap.size≤b→R b
 cV:Below w.heap.size w W
 tab:gx w
 max:fe w
 inv:vau L j
 dn:l.dn=30000
 pos:0<w.heap.size
def vc0 (w W:World) (l:Loc) (L:bh) (j:Nat):Prop:=vai (λb=>w.heap.size≤b) w W l L j
theorem vai.below {R:Nat→Prop} {w W W':World} {l:Loc} {L:bh} {j:Nat} (h:vai R w W l L j) (hb:Below W.heap.size W W'):vai R w W' l L j:=by
 obtain⟨at_,h1,h2⟩:=h.st
 exact⟨⟨at_,h1,h2.below hb zr h.cV.size⟩,λb hbb=>h.up b (Nat.le_trans hb.size hbb),h.cV.trans (aa hb h.cV.size),h.tab,h.max,h.inv,h.dn,h.pos⟩
theorem vai.mono {R:Nat→Prop} {w W:World} {l:Loc} {L:bh} {j k:Nat} (h:vai R w W l L j) (hk:j≤k):vai R w W l L k:=by
 obtain⟨at_,h1,h2⟩:=h.st
 exact⟨⟨at_,by omega,h2⟩,h.up,h.cV,h.tab,h.max,h.inv.mono hk,h.dn,h.pos⟩
theorem vai.ves {R:Nat→Prop} {w w0 W:World} {l:Loc} {L:bh} {j:Nat} (h:vai R w W l L j) (hb:Below w0.heap.size w0 w) (ht:gx w0) (hm:fe w0) (hp:0<w0.heap.size):vai R w0 W l L j:=by
 obtain⟨at_,h1,h2,h3,h4,⟨pv,S,k1,k2⟩,h5,h6⟩:=h.st
 have hs:=hb.size
 exact⟨⟨at_,h1,h2,h3,h4,⟨pv,S,⟨k1.head,k1.iY,k1.now,k1.ne,k1.ld,k1.ln,ef k1.pend hs,k1.pl,k1.hn,by have:=k1.hB;omega⟩,k2⟩,by omega,h6⟩,h.up,hb.trans (aa h.cV hs),ht,hm,h.inv,h.dn,hp⟩
theorem vai.read {R:Nat→Prop} {w W:World} {l:Loc} {L:bh} {j:Nat} (h:vai R w W l L j):tJ R W l.sb l.mu L.units:=by
 obtain⟨at_,_,h2⟩:=h.st
 exact h2.read h.inv.ub
theorem vbs (c:UInt8) (K:Nat):∀l:List (List UInt8),(∀a∈l,a.length≤K)→(aU c l).length≤(K+1) * l.length
 | [],_=>Nat.zero_le _
 | [a],h=>by
  have:=h a (by simp)
  show a.length≤(K+1) * 1
  omega
 | a::b::l,h=>by
  have h1:=h a (by simp);have h2:=vbs c K (b::l) λx hx=>h x (by simp only[List.mem_cons] at hx ⊢;exact .inr hx)
  show(a++c::aU c (b::l)).length≤(K+1) * ((b::l).length+1)
  rw[List.length_append,List.length_cons,Nat.mul_add];omega
structure vee (name src text:List UInt8) (uses:List (List UInt8)):Prop where
 ln:name.length≤40
 ls:src.length≤3010
 lt:text.length≤3010
 nu:uses.length≤22
 lu:∀u∈uses,u.length≤40
theorem vbl {n k:Nat} (h:n≤27 * k) (hk:1≤k):bV n≤k:=by
 unfold bV
 omega
def vgc (L:bh) (name:List UInt8):Nat:=(aq L.last name).getD 0+1
theorem vai.vhi {R D:Nat→Prop} {w W:World} {l:Loc} {L:bh} {j:Nat} (h:vai R w W l L j) (hj:j≤60) (name src text:List UInt8) (uses:List (List UInt8)) (v:Value) (hv:SS D W v uses) (hl:vee name src text uses):
 Calls Tryz.prog 21 #[.pointer (some ⟨l.sb,0,none⟩),str name,str src,str text,v] W λe W'=>(e=.returned (.tuple #[.int .i64 (if jg L name src text uses=0 then(vgc L name:Int) else 0),.int .i64 (jg L name src text uses:Int)])∧vai R w W' l (if jg L name src text uses=0 then ep L name src text (aU 44 uses) else L) (j+1))∧dI W W':=by
 obtain⟨at_,h1,h2⟩:=h.st
 have e1:=hl.ln
 have e2:=hl.ls
 have e3:=hl.lt
 have e4:=hl.nu
 have e6:=vbs 44 40 uses hl.lu
 have ht:(kH name src text uses).length≤27 * 300:=by
  unfold kH;have:kP.length=3:=by decide
  simp[aU];omega
 have hmk:=vbl ht (by decide)
 have hd:=h.dn
 refine(xB name src text uses v W hv h2 (h.tab.below h.cV zr) (h.max.below h.cV) h.pos ⟨h.inv.b (by omega),by omega,by omega,by omega,by omega,λu hu=>by have:=hl.lu u hu;omega,by omega,by omega,by omega⟩).mono ?_
 intro e W' hQ
 obtain⟨hQ,nC⟩:=hQ
 refine⟨?_,λb x e hx=>nC.keep b x e (.inl hx)⟩
 split at hQ
 · rename_i hE
   rw[if_pos hE,if_pos hE];refine⟨by rw[hQ.1,hE];rfl,⟨_,by omega,hQ.2.mono λb hb=>?_⟩,λb hbb=>h.up b (Nat.le_trans nC.cV.size hbb),h.cV.trans nC.cV,h.tab,h.max,h.inv.put hE,h.dn,h.pos⟩;rcases hb with hb|hb
   · exact hb
   · exact h.up b hb
 · rename_i hE
   rw[if_neg hE,if_neg hE];exact⟨hQ.1,⟨_,by omega,hQ.2⟩,λb hbb=>h.up b (Nat.le_trans nC.cV.size hbb),h.cV.trans nC.cV,h.tab,h.max,h.inv.mono (by omega),h.dn,h.pos⟩
theorem vai.put {R D:Nat→Prop} {w W:World} {l:Loc} {L:bh} {j:Nat} (h:vai R w W l L j) (hj:j≤60) (name src text:List UInt8) (uses:List (List UInt8)) (v:Value) (hv:SS D W v uses) (hl:vee name src text uses):
 Calls Tryz.prog 21 #[.pointer (some ⟨l.sb,0,none⟩),str name,str src,str text,v] W λe W'=>e=.returned (.tuple #[.int .i64 (if jg L name src text uses=0 then(vgc L name:Int) else 0),.int .i64 (jg L name src text uses:Int)])∧vai R w W' l (if jg L name src text uses=0 then ep L name src text (aU 44 uses) else L) (j+1):=(h.vhi hj name src text uses v hv hl).mono λ_ _ h=>h.1
theorem vai.vf8 {R:Nat→Prop} {w W:World} {l:Loc} {L:bh} {j:Nat} (h:vai R w W l L j) (hj:j≤60) (name:List UInt8) (hl:name.length≤40):
 Calls Tryz.prog 28 #[.pointer (some ⟨l.sb,0,none⟩),str name] W λe W'=>(e=.returned (.int .i64 (vJ L name:Int))∧vai R w W' l (if vJ L name=0 then o8 L name else L) (j+1))∧dI W W':=by
 obtain⟨at_,h1,h2⟩:=h.st
 have ht:(mA name).length≤27 * 300:=by
  unfold mA;have:iE.length=4:=by decide
  simp[aU];omega
 have hmk:=vbl ht (by decide)
 have hd:=h.dn
 refine(BV name W h2 (h.max.below h.cV) h.pos (h.inv.b (by omega)) (by omega) (by omega) (by omega)).mono ?_
 intro e W' hQ
 obtain⟨LY,Ht,nC⟩:=hQ
 refine⟨⟨LY,?_⟩,λb x e hx=>nC.keep b x e (.inl hx)⟩
 split at Ht
 · rename_i hE
   rw[if_pos hE];refine⟨⟨_,by omega,Ht.mono λb hb=>?_⟩,λb hbb=>h.up b (Nat.le_trans nC.cV.size hbb),h.cV.trans nC.cV,h.tab,h.max,(h.inv.drop name).mono (by omega),h.dn,h.pos⟩;rcases hb with hb|hb
   · exact hb
   · exact h.up b hb
 · rename_i hE
   rw[if_neg hE];exact⟨⟨_,by omega,Ht⟩,λb hbb=>h.up b (Nat.le_trans nC.cV.size hbb),h.cV.trans nC.cV,h.tab,h.max,h.inv.mono (by omega),h.dn,h.pos⟩
theorem vai.drop {R:Nat→Prop} {w W:World} {l:Loc} {L:bh} {j:Nat} (h:vai R w W l L j) (hj:j≤60) (name:List UInt8) (hl:name.length≤40):
 Calls Tryz.prog 28 #[.pointer (some ⟨l.sb,0,none⟩),str name] W λe W'=>e=.returned (.int .i64 (vJ L name:Int))∧vai R w W' l (if vJ L name=0 then o8 L name else L) (j+1):=(h.vf8 hj name hl).mono λ_ _ h=>h.1
theorem vai.vef {R D D':Nat→Prop} {w W:World} {l:Loc} {L:bh} {j:Nat} (h:vai R w W l L j) (hj:j≤60) (name:List UInt8) (version:Int) (code:List UInt8) (used:List (List UInt8×List UInt8)) (cv uv:Value) (hc:CV D W cv (aH code)) (hv:ck D' W uv used) (hl:name.length≤40∧code.length≤3010∧used.length≤100):
 Calls Tryz.prog 45 #[.pointer (some ⟨l.sb,0,none⟩),str name,.int .i64 version,cv,uv] W λe W'=>(e=.returned (.int .i64 (iu L name version code used:Int))∧vai R w W' l (if iu L name version code used=0 then ez L name code else L) (j+1))∧dI W W':=by
 obtain⟨at_,h1,h2⟩:=h.st
 have ht:(iD name code).length≤27 * 300:=by
  unfold iD;have:eW.length=5:=by decide
  simp[aU];omega
 have hmk:=vbl ht (by decide)
 have hd:=h.dn
 have hnz:∀u,aq L.units name=some u→(0:UInt8)∉name:=λu hu=>(jb (h.inv.units name u hu).nm).not
 refine(zq name version code used cv uv W hc hv h2 (h.max.below h.cV) h.pos ⟨h.inv.b (by omega),by omega,by omega,by omega,hnz,by omega,by omega⟩).mono ?_
 intro e W' hQ
 obtain⟨LY,Ht,nC⟩:=hQ
 refine⟨⟨LY,?_⟩,λb x e hx=>nC.keep b x e (.inl hx)⟩
 split at Ht
 · rename_i hE
   rw[if_pos hE];refine⟨⟨_,by omega,Ht.mono λb hb=>?_⟩,λb hbb=>h.up b (Nat.le_trans nC.cV.size hbb),h.cV.trans nC.cV,h.tab,h.max,(h.inv.built hE).mono (by omega),h.dn,h.pos⟩;rcases hb with hb|hb
   · exact hb
   · exact h.up b hb
 · rename_i hE
   rw[if_neg hE];exact⟨⟨_,by omega,Ht⟩,λb hbb=>h.up b (Nat.le_trans nC.cV.size hbb),h.cV.trans nC.cV,h.tab,h.max,h.inv.mono (by omega),h.dn,h.pos⟩
theorem vai.ved {R:Nat→Prop} {w W:World} {l:Loc} {L:bh} {j:Nat} (h:vai R w W l L j) (name:List UInt8) (hn:name.length≤maxLen):
 Calls Tryz.prog 27 #[.pointer (some ⟨l.sb,0,none⟩),str name] W λe W'=>(∃v,e=.returned (.tuple #[v,.int .i64 (vav L.units name)])∧dN (λb=>W.heap.size≤b∧vat W' b) W' v (van L.units name))∧Below W.heap.size W W':=by
 refine vd9 name hn W h.read ?_
 unfold van
 rcases hq:aq L.units name with _|u
 · exact⟨Nat.zero_le _,Nat.zero_le _,Nat.zero_le _⟩
 · have hi:=h.inv.units name u hq
   have h1:=hi.nu;have h2:=hi.le.2.2;refine⟨by show u.uses.length≤100000;omega,by show u.code.length≤100000;omega,?_⟩
   show u.used.length≤100000
   rcases hb:u.built with _|_
   · rw[(hi.nb hb).1]
     exact Nat.zero_le _
   · have:=congrArg List.length (hi.vk3 hb)
     rw[List.length_map] at this;omega
theorem vai.unit {R:Nat→Prop} {w W:World} {l:Loc} {L:bh} {j:Nat} (h:vai R w W l L j) (name:List UInt8) (hn:name.length≤maxLen):
 Calls Tryz.prog 27 #[.pointer (some ⟨l.sb,0,none⟩),str name] W λe W'=>(∃v,e=.returned (.tuple #[v,.int .i64 (vav L.units name)])∧dN (λb=>W.heap.size≤b) W' v (van L.units name))∧Below W.heap.size W W':=by
 refine(h.ved name hn).mono ?_
 rintro e W' ⟨⟨v,rfl,hv⟩,hb⟩
 exact⟨⟨v,rfl,hv.mono λb hb=>hb.1⟩,hb⟩
theorem vai.names {R:Nat→Prop} {w W:World} {l:Loc} {L:bh} {j:Nat} (h:vai R w W l L j):∀n∈bZ L.units,(aq L.units n).isSome=true∧n.length≤12:=λn hn=>by
 unfold bZ at hn
 rw[kJ] at hn
 have h1:=bJ.2 hn
 obtain⟨u,hu⟩:=Option.isSome_iff_exists.1 h1
 exact⟨h1,(vaj (h.inv.units n u hu).nm).2.1⟩
theorem vc0.new {w w1 w2:World} {a b1 b2 sb lg:Nat} {ds:List UInt8} (ht:gx w) (hm:fe w) (hp:0<w.heap.size) (hD:bw w.heap.size w1 a b1 b2 (.slice none 0 0) (oZ 30000)) (aP:Below w.heap.size w w1) (hh:w2.heap[sb]? =some (.cells #[.map (some w1.heap.size),.map (some (w1.heap.size+1)),.pointer (some ⟨lg,0,none⟩)] 111 (0,0))) (hL:gA (λb=>w.heap.size≤b) w2 w1.heap.size (w1.heap.size+1) .new) (hG:jH w2 lg a ⟨0,ds,false⟩) (h1:w1.heap.size≤sb) (h2:w1.heap.size≤lg) (bO:Below w1.heap.size w1 w2):
 vc0 w w2 ⟨sb,w1.heap.size,w1.heap.size+1,lg,a,b1,b2,30000⟩ .new 0:=by
 have hs:=aP.size
 show vai _ _ _ _ _ _
 refine⟨⟨0,nl _,hh,hL,⟨ds,hG⟩,⟨_,_,hD.below bO zr,rfl,rfl,rfl,nl _,by show(-(2 * ((0:Nat):Int)))≤0;omega,by show(0:Int)≤0;omega⟩,⟨by show _≤sb;omega,hs,by show _≤w1.heap.size+1;omega,by show _≤lg;omega⟩,Nat.zero_le _⟩,λb hbb=>Nat.le_trans hs (Nat.le_trans bO.size hbb),aP.trans (aa bO hs),ht,hm,vau.new,rfl,hp⟩
