/-
  Lemmas for the statement: specifications of integers of which only the kind is told: each operation by one lemma. No condition.
-/
import Derived.Deep.WholeRow
import Derived.Test.YtemjidmkolfgnaaGreatDoorSBn
import Derived.Test.YtemjidmkolfgnaaGreatDoorSB19
namespace Go.Proofs.YtemjidmkolfgnaaGreatDoor
open Go Go.RowKit
def AB (P:Program) (ops:Array Oper) (h n:Nat):Bool:=
 P.follows .mixedOrders&&(gq .any ops&&(decide (ops.size=h+1)&&(iF .any ops h&&(eo ops n&&(decide (Region.ready .any ops (Array.replicate h true++Array.replicate 1 false)=[h])&&decide (Region.ready .any ops ((Array.replicate h true++Array.replicate 1 false).setIfInBounds h true)=[]))))))
theorem E4 {D:Nat→Prop} {P:Program} {ops:Array Oper} {n h:Nat} {V:List VS} {E:List (Nat×VS)} {a0:Act} {S:World→Prop} {Q:Exit→Act→World→Prop} {k:Nat} {o:Oper} (hg:o.guard=none) (hs:bB D P S ops n V E k o) (hn:h≤n):
 rV P .any ops Q (AK D S E a0) (mB D V) a0 h k o:=by
 intro a w hS hd ho next hnx
 obtain⟨s,h1,⟨h2,_⟩|⟨h2,ins,h3,h4⟩⟩:=hs
 · unfold cw at h2
   rw[hg] at h2;cases h2
 · refine h4 a w Q hS.1 (λp hp=>ji (h3 p hp) hS hd λs hs=>ho s λj o hj ho'=>hs j o (Nat.lt_of_lt_of_le hj hn) ho') next λv w' hv hb=>hnx v w' (λs' hs'=>by rw[h1] at hs';cases hs';exact hv) hb
theorem cF {D:Nat→Prop} {P:Program} {ops:Array Oper} {a0:Act} {Q:Exit→Act→World→Prop} {id:Nat} {w:World} {oS:Oper} (h:Nat) (E:List (Nat×VS)) (V:List VS) (S S3:World→Prop)
 (hok:AB P ops h a0.tmps.size=true) (hs:ops[h]? =some oS) (hds:oS.dst=none)
 (fR:∀w w',S w→Below w.heap.size w w'→S w') (hS:S w.drew) (hE:jG D w.drew a0 E) (hst:dJ D P S ops (h+1) V E 0 (ops.toList.take h))
 (DQ:∀a w,S w→(∀(j:Nat) (s:VS) (d:Nat),j<h→V[j]? =some s→(ops[j]?).bind (·.dst)=some d→s.holds D w (a.eval (.tmp d)))→(∀s,jI ops h s→a.eval (.tmp s)=a0.eval (.tmp s))→∀next:Act→World→Prop,(∀v w',S3 w'→next (a.put oS.dst v) w')→oS.wp P a w next Q)
 (hend:∀a w,S3 w→Q .normal (bD a (ops.toList.take h) a0) w):
 (Code.region id ops true).wp P Q a0 w:=by
 unfold AB at hok
 simp only[Bool.and_eq_true,decide_eq_true_eq] at hok
 obtain⟨k1,k2,k3,k4,k5,k6,k7⟩:=hok
 have hgd:∀o∈ops.toList,o.guard=none:=by
  unfold eo at k5;simp only[Bool.and_eq_true,List.all_eq_true,decide_eq_true_eq] at k5;exact λo ho=>(k5.2 o ho).1
 have steps:∀(l:List Oper) (k:Nat),(∀o∈l,o.guard=none)→dJ D P S ops (h+1) V E k l→tM P .any ops Q (AK D S E a0) (mB D V) a0 h k l:=by
  intro l
  induction l with
  | nil=>exact λ_ _ _=>trivial
  | cons o l ih=>exact λk hg hs=>⟨E4 (hg o (by simp)) hs.1 (by omega),ih (k+1) (λx hx=>hg x (by simp[hx])) hs.2⟩
 refine oV (S:=AK D S E a0) (A:=mB D V) h k1 (by omega) k2 k4 k5 (λj v w1 w2 h hb s hs=>(h s hs).below hb) (λw1 w2 h hb=>⟨fR _ _ h.1 hb,λp hp=>(h.2 p hp).below hb⟩) ⟨hS,hE.all⟩
  (xC (steps _ 0 (λo ho=>hgd o (List.mem_of_mem_take ho)) hst)) ?_
 intro a w hdf hsz hout Bb hA
 rw[show ops.size - h=1 by omega]
 have Kt:∀d,a.eval (.tmp d)=a.tmps.getD d undef:=λd=>rfl
 refine wpAny_all (rs:=[h]) k6 (by simp) λi hi=>?_
 obtain rfl:i=h:=by simpa using hi
 unfold wpOp
 simp only[hs]
 rw[if_pos (by simp[Region.wanted,hgd oS (List.mem_of_getElem? (by rw[Array.getElem?_toList];exact hs))])]
 left
 refine DQ a w Bb.1 (λj s d hj hsj hd=>?_) (λs hs=>hout s hs) _ λv w' h3=>?_
 · rw[Option.bind_eq_some_iff] at hd
   obtain⟨oj,jt,rG⟩:=hd;exact hA j oj d hj jt rG s hsj
 · rw[hds]
   refine wpAny_done k7 ?_ 0;have:=hend a w' h3
   rwa [←ng hdf hsz hout] at this
theorem bT {P:Program} {w:World} {g:Nat} {t:TypeId} {c:Array Value} {n:Nat} {e:TypeId} (hg:w.heap[g]? =some (.cells c t (0,0))) (hu:P.underlying t=some (.array n e)) (hi:(P.info? t).map (·.size)=some c.size):
 (Instr.loadAt t (.pointer (some ⟨g,0,none⟩))).run P w=.ok (.agg c) w:=by
 simp only[Instr.loadAt,Instr.sureAddr,Sem.run_bind,Sem.run_pure,Result.andThen]
 exact run_loadVar_row _ _ t t c (0,0) _ hg hu rfl hi
theorem bK {P:Program} {w:World} {g o:Nat} {t T:TypeId} {cur Y:Array Value} (hg:w.heap[g]? =some (.cells cur t (0,0))) (hi:(P.info? T).map (·.size)=some Y.size) (hl:o+Y.size≤cur.size) (h1:∀v∈Y.toList,v.oneCell'=true):
 (Instr.storeAt T (.pointer (some ⟨g,o,none⟩)) (.agg Y)).run P w=.ok () (w.setRow g (cur.toList.take o++Y.toList++cur.toList.drop (o+Y.size)).toArray):=by
 have hst:=run_storeCells_at P g o t Y.toList 0 cur w hg (by simpa using hl) h1
 simp only[Nat.add_zero,Array.length_toList] at hst
 simp only[Instr.storeAt,Instr.sureAddr,Sem.run_bind,Sem.run_pure,Result.andThen]
 cases hq:P.info? T with
 | none=>simp[hq] at hi
 | some i=>
  have hs:i.size=Y.size:=by simpa[hq] using hi
  simpa[storeVar,sizeOf,typeInfo,hq,Value.cells,hs] using hst
theorem aY {P:Program} {o:Oper} {T:TypeId} {x y:Operand} (ho:o.op=.store T x y) {a:Act} {w w':World} {K:Act→World→Prop} {Q:Exit→Act→World→Prop} {p v:Value} (e1:a.eval x=p) (e2:a.eval y=v) (hst:(Instr.storeAt T p v).run P w=.ok () w') (hn:K (a.put o.dst undef) w'):o.wp P a w K Q:=by
 unfold Oper.wp execOp
 simp[ho,e1,e2,hst,Result.andThen]
 exact hn
section
variable {D:Nat→Prop} {ops:Array Oper} {h:Nat} {V:List VS} {E:List (Nat×VS)} {S:World→Prop} {k:Nat} {o:Oper}
theorem ic {x:Operand} {a:Addr} (ho:o.op=.nilCheck x) (hw:cw ops h V o=some true) (hk:V[k]? =some (.eq (.pointer (some a)))) (hx:aL ops h V E o x=some (.eq (.pointer (some a)))):bB D Tryz.prog S ops h V E k o:=
 qM x hw hk hx λev w hS h1=>by unfold execOp;simp[ho,h1,go_sem]
end
section
variable {P:Program} {md:Region.Mode} {ops:Array Oper} {Q:Exit→Act→World→Prop} {S:World→Prop} {A:Nat→Value→World→Prop} {a0:Act} {R:Nat→World→World→Prop} {last:Nat→Option Nat}
structure FF (ops:Array Oper) (S:World→Prop) (A:Nat→Value→World→Prop) (a0:Act) (last:Nat→Option Nat) (listed:Array Bool) (a:Act) (w:World):Prop where
 size:listed.size=ops.size
 defers:a.defers=a0.defers
 tmps:a.tmps.size=a0.tmps.size
 out:∀s,Out ops s→a.tmps.getD s undef=a0.tmps.getD s undef
 s:S w
 at_:∀j o d,ops[j]? =some o→o.dst=some d→listed.getD j false=true→(∀k,last j=some k→listed.getD k true=false)→A j (a.tmps.getD d undef) w
theorem FF.step (hd:eo ops a0.tmps.size=true) (hA:∀i j v w w',i≠j→last j≠some i→A j v w→R i w w'→A j v w') (fR:∀i w w',S w→R i w w'→S w')
 {listed:Array Bool} {a:Act} {w w':World} (h:FF ops S A a0 last listed a w) {i:Nat} {o:Oper} (ho:ops[i]? =some o) {v:Value} (hv:A i v w') (hb:R i w w'):FF ops S A a0 last (listed.setIfInBounds i true) (a.put o.dst v) w':=by
 unfold eo at hd
 rw[Bool.and_eq_true,decide_eq_true_eq,List.all_eq_true] at hd
 have hol:ops.toList[i]? =some o:=by rw[Array.getElem?_toList];exact ho
 have hlt:∀d,o.dst=some d→d<a0.tmps.size:=by
  intro d e;have:=hd.2 o (List.mem_of_getElem? hol);rw[e] at this;simp at this;exact this.2
 refine⟨by simp[h.size],?_,?_,?_,fR _ _ _ h.s hb,?_⟩
 · rw[←h.defers];cases o.dst<;>rfl
 · rw[←h.tmps];cases o.dst<;>simp[Act.put]
 · intro s hs
   rw[←h.out s hs];rcases e:o.dst with _|d
   · rfl
   · exact eY (λe2=>hs o (List.mem_of_getElem? hol) (by rw[e,e2]))
 · intro j oj d hj js hl hk
   have hk2:∀k,last j=some k→k≠i∧listed.getD k true=false:=λk e=>by
    have h2:=hk k e;have hi2:i<listed.size:=by rw[h.size];exact(Array.getElem?_eq_some_iff.1 ho).1
    by_cases hki:k=i
    · subst hki
      simp[Array.getD_eq_getD_getElem?,hi2] at h2
    · exact⟨hki,by rwa [getD_set_ne true (λe=>hki e.symm)] at h2⟩
   by_cases hij:i=j
   · subst hij
     rw[ho] at hj;cases hj;rw[js,dB (by rw[h.tmps];exact hlt d js)];exact hv
   · rw [getD_set_ne false hij] at hl
     have:=hA i _ _ _ _ hij (λe=>(hk2 i e).1 rfl) (h.at_ j oj d hj js hl λk e=>(hk2 k e).2) hb;rcases e:o.dst with _|d2
     · exact this
     · rw[eY]
       · exact this
       · rintro rfl
         exact hij (jU hd.1 hol (by rw[Array.getElem?_toList];exact hj) e js)
def tK (R:Nat→World→World→Prop) (last:Nat→Option Nat) (P:Program) (md:Region.Mode) (ops:Array Oper) (Q:Exit→Act→World→Prop) (S:World→Prop) (A:Nat→Value→World→Prop) (a0:Act) (h i:Nat) (o:Oper):Prop:=
 ∀(a:Act) (w:World),S w→(∀e∈o.after,Region.binds md e=true→∀ok d,ops[e.on]? =some ok→ok.dst=some d→(∀k,last e.on=some k→k=i)→A e.on (a.eval (.tmp d)) w)→(∀s,jI ops h s→a.eval (.tmp s)=a0.eval (.tmp s))→
  ∀next:Act→World→Prop,(∀v w',A i v w'→R i w w'→next (a.put o.dst v) w')→o.wp P a w next Q
structure He (md:Region.Mode) (ops:Array Oper) (h:Nat) (S:World→Prop) (A:Nat→Value→World→Prop) (a0:Act) (last:Nat→Option Nat) (listed:Array Bool) (a:Act) (w:World):Prop where
 inv:FF ops S A a0 last listed a w
 tail:∀j,h≤j→j<ops.size→listed.getD j true=false
 closed:∀j o e,ops[j]? =some o→listed.getD j false=true→e∈o.after→Region.binds md e=true→listed.getD e.on false=true
 qB:∀s,jI ops h s→a.tmps.getD s undef=a0.tmps.getD s undef
theorem xJ {h : Nat} (hh : h < ops.size) (hf : gq md ops = true) (hb : iF md ops h = true) (hd : eo ops a0.tmps.size = true) (hA : ∀ i j v w w', i ≠ j → last j ≠ some i → A j v w → R i w w' → A j v w') (fR : ∀ i w w', S w → R i w w' → S w')
 (hstep:∀i o,i<h→ops[i]? =some o→tK R last P md ops Q S A a0 h i o)
 (hend:∀a w,a.defers=a0.defers→a.tmps.size=a0.tmps.size→(∀s,jI ops h s→a.tmps.getD s undef=a0.tmps.getD s undef)→S w→(∀j o d,j<h→ops[j]? =some o→o.dst=some d→last j=none→A j (a.tmps.getD d undef) w)→wpAny P md ops Q (ops.size - h) (Array.replicate h true++Array.replicate (ops.size - h) false) a w):
 ∀(fuel:Nat) (listed:Array Bool) (a:Act) (w:World),listed.toList.count false=fuel→He md ops h S A a0 last listed a w→wpAny P md ops Q fuel listed a w:=by
 have fin:∀(listed:Array Bool) (a:Act) (w:World),He md ops h S A a0 last listed a w→h∈Region.ready md ops listed→wpAny P md ops Q (listed.toList.count false) listed a w:=by
  intro listed a w hI hr;have hall:=pZ hb hI.closed hr;have vZ:listed=Array.replicate h true++Array.replicate (ops.size - h) false:=by
   apply Array.ext
   · rw[hI.inv.size];simp;omega
   · intro j h1 h2
     rw[Array.getElem_append];split
     · rename_i hj
       have:=hall j (by simpa using hj);simp[Array.getD_eq_getD_getElem?,h1] at this;simp[this]
     · rename_i hj
       have:=hI.tail j (by simpa using hj) (by rw[←hI.inv.size];exact h1);simp[Array.getD_eq_getD_getElem?,h1] at this;simp[this]
  have yq:listed.toList.count false=ops.size - h:=by
   rw[vZ];simp[List.count_append,List.count_replicate]
  rw[yq,vZ];exact hend a w hI.inv.defers hI.inv.tmps hI.qB hI.inv.s λj o d hj JA js hn=>hI.inv.at_ j o d JA js (hall j hj) λk e=>by rw[hn] at e;cases e
 intro fuel
 induction fuel with
 | zero=>
  intro listed a w hc hI;exfalso;have h0:=hI.tail h zr hh;have:=count_set h0;omega
 | succ fuel ih =>
  intro listed a w hc hI
  by_cases hr:h∈Region.ready md ops listed
  · rw[←hc];exact fin listed a w hI hr
  · refine ⟨fun MF => ?_, fun i hi => ?_⟩
    · exfalso
      have:=eM hf hI.inv.size MF h hh;have h0:=hI.tail h zr hh;have Fu:h<listed.size:=by rw[hI.inv.size];exact hh
      simp[Array.getD_eq_getD_getElem?,Fu] at this h0;rw[this] at h0;cases h0
    · obtain⟨hl,o,ho,bE⟩:=mem_ready.1 hi
      have Mn : i < ops.size := (Array.getElem?_eq_some_iff.1 ho).1;have hih : i < h := by
       rcases Nat.lt_trichotomy i h with h'|h'|h'
       · exact h'
       · exact absurd (h'▸hi) hr
       · exfalso
         unfold iF at hb;rw[Bool.and_eq_true,List.all_eq_true,List.all_eq_true] at hb;have:=hb.2 i (List.mem_range.2 Mn);rw[ho] at this;simp only[Option.map_some,Option.getD_some,Bool.or_eq_true,decide_eq_true_eq,Array.any_eq_true,Bool.and_eq_true] at this;rcases this with this|⟨x,hx,gU,hon⟩
         · omega
         · have h1:=bE _ (Array.getElem_mem hx) gU
           have hlt:(o.after[x]).on<ops.size:=by
            rw[←hI.inv.size];rcases Nat.lt_or_ge (o.after[x]).on listed.size with h'|h'
            · exact h'
            · simp[Array.getD_eq_getD_getElem?,Array.getElem?_eq_none h'] at h1
           have h2:=hI.tail _ hon hlt;have hlt2:(o.after[x]).on<listed.size:=by rw[hI.inv.size];exact hlt
           simp[Array.getD_eq_getD_getElem?,hlt2] at h1 h2;rw[h1] at h2;cases h2
      have hg:o.guard=none:=by
       unfold eo at hd;rw[Bool.and_eq_true,List.all_eq_true] at hd;have:=hd.2 o (List.mem_of_getElem? (by rw[Array.getElem?_toList];exact ho));rw[Bool.and_eq_true,decide_eq_true_eq] at this;exact this.1
      unfold wpOp;simp only[ho];rw[if_pos (by simp[Region.wanted,hg])]
      left
      have hcs:=count_set hl;refine hstep i o hih ho a w hI.inv.s (λe he fS ok d hok iZ hk=>?_) (λs hs=>hI.qB s hs) _ λv w' hv Ab=>ih _ _ _ (by omega) ⟨hI.inv.step hd hA fR ho hv Ab,λj hj Mp=>?_,λj oj e hj hlj he fS=>?_,λs hs=>?_⟩
      · exact hI.inv.at_ e.on ok d hok iZ (bE e he fS) λk e=>by rw[hk k e];exact hl
      · rw[getD_set_ne true (by omega)]
        exact hI.tail j hj Mp
      · by_cases hij:i=j
        · subst hij
          rw[ho] at hj;cases hj;exact getD_set_true (bE e he fS)
        · rw[getD_set_ne false hij] at hlj
          exact getD_set_true (hI.closed j oj e hj hlj he fS)
      · rw[←hI.qB s hs]
        rcases e:o.dst with _|d
        · rfl
        · exact eY (λe2=>hs i o hih ho (by rw[e,e2]))
theorem oW {id:Nat} {w:World} (h:Nat) (hm:P.follows .mixedOrders=true) (hh:h<ops.size) (hf:gq .any ops=true) (hb:iF .any ops h=true) (hd:eo ops a0.tmps.size=true) (hA:∀i j v w w',i≠j→last j≠some i→A j v w→R i w w'→A j v w') (fR:∀i w w',S w→R i w w'→S w') (hS:S w.drew)
 (hstep:∀i o,i<h→ops[i]? =some o→tK R last P .any ops Q S A a0 h i o)
 (hend:∀a w,a.defers=a0.defers→a.tmps.size=a0.tmps.size→(∀s,jI ops h s→a.tmps.getD s undef=a0.tmps.getD s undef)→S w→(∀j o d,j<h→ops[j]? =some o→o.dst=some d→last j=none→A j (a.tmps.getD d undef) w)→wpAny P .any ops Q (ops.size - h) (Array.replicate h true++Array.replicate (ops.size - h) false) a w):
 (Code.region id ops true).wp P Q a0 w:=by
 refine wp_region_any hm (xJ hh hf hb hd hA fR hstep hend ops.size _ a0 _ ?_ ⟨⟨by simp,rfl,rfl,λ_ _=>rfl,hS,λj o d hj js hl _=>?_⟩,λj _ hj=>?_,λj o e hj hl=>?_,λ_ _=>rfl⟩)
 · simp
 · exfalso
   have hj2:=(Array.getElem?_eq_some_iff.1 hj).1;simp[Array.getD_eq_getD_getElem?,hj2] at hl
 · simp[Array.getD_eq_getD_getElem?,hj]
 · exfalso
   have hj2:=(Array.getElem?_eq_some_iff.1 hj).1;simp[Array.getD_eq_getD_getElem?,hj2] at hl
end
def FU (L:List (Value→World→Prop)) (j:Nat) (v:Value) (w:World):Prop:=∀F,L[j]? =some F→F v w
def tN (R:Nat→World→World→Prop) (last:Nat→Option Nat) (P:Program) (ops:Array Oper) (Q:Exit→Act→World→Prop) (S:World→Prop) (A:Nat→Value→World→Prop) (a0:Act) (h:Nat):Nat→List Oper→Prop
 | _,[]=>True
 | k,o::l=>tK R last P .any ops Q S A a0 h k o∧tN R last P ops Q S A a0 h (k+1) l
theorem oH {R:Nat→World→World→Prop} {last:Nat→Option Nat} {P:Program} {ops:Array Oper} {Q:Exit→Act→World→Prop} {S:World→Prop} {A:Nat→Value→World→Prop} {a0:Act} {h:Nat}:∀(l:List Oper) (k:Nat),tN R last P ops Q S A a0 h k l→∀i o,l[i]? =some o→tK R last P .any ops Q S A a0 h (k+i) o
 | [],_,_,i,o,ho=>by simp at ho
 | x::l,k,hs,0,o,ho=>by
  simp only[List.getElem?_cons_zero,Option.some.injEq] at ho;subst ho;exact hs.1
 | x::l,k,hs,i+1,o,ho=>by
  rw[List.getElem?_cons_succ] at ho;have:=oH l (k+1) hs.2 i o ho
  rwa [Nat.add_assoc,Nat.add_comm 1 i] at this
theorem fA {ops:Array Oper} {L:List (Value→World→Prop)} {last:Nat→Option Nat} {a:Act} {w:World} {o:Oper} {i:Nat} (hd:∀e∈o.after,Region.binds .any e=true→∀ok d,ops[e.on]? =some ok→ok.dst=some d→(∀k,last e.on=some k→k=i)→FU L e.on (a.eval (.tmp d)) w)
 (j:Nat) {d:Nat} {F:Value→World→Prop} (hj:jr o j=true) (ho:(ops[j]?).bind (·.dst)=some d) (hl:∀k,last j=some k→k=i) (hF:L[j]? =some F):F (a.eval (.tmp d)) w:=by
 obtain⟨e,Bi,yu,rfl⟩:=gC hj
 rw[Option.bind_eq_some_iff] at ho
 obtain⟨oj,jt,rG⟩:=ho
 exact hd e Bi yu oj d jt rG hl F hF
theorem aR {P:Program} {o:Oper} {a:Act} {w:World} {K:Act→World→Prop} {Q:Exit→Act→World→Prop} {v:Value} {w':World} (h:(execOp a.eval o).run P w=.ok (.value v) w') (hn:K (a.put o.dst v) w'):o.wp P a w K Q:=by
 unfold Oper.wp
 rw[h]
 exact hn
theorem aM {L:List (Value→World→Prop)} {j:Nat} {v:Value} {w:World} {F:Value→World→Prop} (hF:L[j]? =some F) (h:F v w):FU L j v w:=λF' Ro=>by
 rw[hF] at Ro
 cases Ro
 exact h
theorem eC {P:Program} {ops:Array Oper} {a0:Act} {Q:Exit→Act→World→Prop} {id:Nat} {w:World} {oS:Oper} (R:Nat→World→World→Prop) (last:Nat→Option Nat) (h:Nat) (L:List (Value→World→Prop)) (S:World→Prop) (S3:Act→World→Prop)
 (hok:AB P ops h a0.tmps.size=true) (hs:ops[h]? =some oS) {d:Option Nat} (hds:oS.dst=d)
 (hL:∀i j F,L[j]? =some F→i≠j→last j≠some i→∀v w w',F v w→R i w w'→F v w') (fR:∀i w w',S w→R i w w'→S w') (hS:S w.drew)
 (hst:tN R last P ops Q S (FU L) a0 h 0 (ops.toList.take h))
 (DQ:∀a w,S w→(∀(j:Nat) (F:Value→World→Prop) (d:Nat),j<h→L[j]? =some F→(ops[j]?).bind (·.dst)=some d→last j=none→F (a.eval (.tmp d)) w)→(∀s,jI ops h s→a.eval (.tmp s)=a0.eval (.tmp s))→∀next:Act→World→Prop,(∀v w',S3 a w'→next (a.put oS.dst v) w')→oS.wp P a w next Q)
 (hend:∀a v w,S3 a w→Q .normal ((bD a (ops.toList.take h) a0).put d v) w):
 (Code.region id ops true).wp P Q a0 w:=by
 unfold AB at hok
 simp only[Bool.and_eq_true,decide_eq_true_eq] at hok
 obtain⟨k1,k2,k3,k4,k5,k6,k7⟩:=hok
 have hgd:∀o∈ops.toList,o.guard=none:=by
  unfold eo at k5;simp only[Bool.and_eq_true,List.all_eq_true,decide_eq_true_eq] at k5;exact λo ho=>(k5.2 o ho).1
 refine oW (R:=R) (last:=last) (S:=S) (A:=FU L) h k1 (by omega) k2 k4 k5 (λi j v w1 w2 hij hj hf hr F hF=>hL i j F hF hij hj v w1 w2 (hf F hF) hr) fR hS (λi o hi ho=>by
  have:=oH (ops.toList.take h) 0 hst i o (by rw[List.getElem?_take_of_lt hi,Array.getElem?_toList];exact ho)
  rwa [Nat.zero_add] at this) ?_
 intro a w hdf hsz hout Bb hA
 rw[show ops.size - h=1 by omega]
 refine wpAny_all (rs:=[h]) k6 (by simp) λi hi=>?_
 obtain rfl:i=h:=by simpa using hi
 unfold wpOp
 simp only[hs]
 rw[if_pos (by simp[Region.wanted,hgd oS (List.mem_of_getElem? (by rw[Array.getElem?_toList];exact hs))])]
 left
 refine DQ a w Bb (λj F d hj hF hd hn=>?_) (λs hs=>hout s hs) _ λv w' h3=>?_
 · rw[Option.bind_eq_some_iff] at hd
   obtain⟨oj,jt,rG⟩:=hd;exact hA j oj d hj jt rG hn F hF
 · rw[hds]
   refine wpAny_done k7 ?_ 0;have:=hend a v w' h3
   rwa [←ng hdf hsz hout] at this
theorem xK {o:Oper} {a:Act} {w:World} {K:Act→World→Prop} {Q:Exit→Act→World→Prop} {f:FuncId} {x:Operand} {tys:Array TypeId} (ho:o.op=.call {callee:=.value (.func f),args:= #[x],argTypes:=tys }) (en:∀args w,(callFunc f args).run Tryz.prog w=.ok (.enter f args) w)
 {v:Value} (e:a.eval x=v) {R:Value→World→Prop} (hc:Calls Tryz.prog f #[v] w λe w'=>∃u,e=.returned u∧R u w') (hn:∀u w',R u w'→K (a.put o.dst u) w'):o.wp Tryz.prog a w K Q:=by
 subst e
 have hrun:(execOp a.eval o).run Tryz.prog w=.ok (.enter f #[a.eval x]) w:=by
  simp[execOp,ho,resolve,Deferred.ofValue,invoke,Act.eval,en]
 unfold Oper.wp
 rw[hrun,Oper.upon_enter]
 refine hc.mono ?_
 rintro e w' ⟨u,rfl,hu⟩
 exact hn u w' hu
def oz:VS→Option IntKind
 | .int k=>some k
 | .eq (.int k _)=>some k
 | _=>none
theorem iJ {D:Nat→Prop} {w:World} {v:Value} {s:VS} {k:IntKind} (h:oz s=some k) (hs:s.holds D w v):∃x,v=.int k x:=by
 unfold oz at h
 split at h
 · cases h;exact hs
 · cases h;exact⟨_,hs⟩
 · cases h
def IU:BinOp→Bool
 | .add|.sub|.mul|.and|.or|.xor|.andNot=>true
 | _=>false
def SI:BinOp→Bool
 | .shl|.shr=>true
 | _=>false
def Gr:Op→Bool
 | .binOp _ _ _ _ _=>true
 | .unOp .xor _ _=>true
 | .convert _ _ _=>true
 | _=>false
def K5:VS→Bool
 | .eq (.int _ c)=>decide (0≤c)
 | _=>false
def Ai (P:Program) (t:TypeId):Option IntKind:=match P.underlying t with
 | some (.int k)=>some k
 | _=>none
def IB (P:Program) (ops:Array Oper) (h:Nat) (V:List VS) (E:List (Nat×VS)) (o:Oper):Option IntKind:=
 if cw ops h V o=some true then match o.op with
  | .binOp b _ x y _=>match (aL ops h V E o x).bind oz,(aL ops h V E o y).bind oz with
   | some k,some k'=>if SI b then(if((aL ops h V E o y).map K5).getD false then some k else none) else if IU b&&decide (k=k') then some k else none
   | _,_=>none
  | .unOp .xor _ x=>(aL ops h V E o x).bind oz
  | .convert c d x=>match (aL ops h V E o x).bind oz with
   | some _=>if(P.underlying c).isSome then Ai P d else none
   | none=>none
  | _=>none
 else none
theorem Df {P:Program} {b:BinOp} (hb:IU b=true) (t:TypeId) (x y:Operand) (k:IntKind) (m n:Int) (w:World):∃z,(do eqGuard b t x y (.int k m) (.int k n);Go.binOp b t (.int k m) (.int k n):Sem Value).run P w=.ok (.int k z) w:=by
 cases b<;>first
  | (refine⟨?_,?_⟩;rotate_left;simp[eqGuard,Go.binOp,Op.intArith,Op.intBits];rfl)
  | (simp[IU] at hb;done)
theorem AV {P:Program} {b:BinOp} (hb:SI b=true) (t:TypeId) (x y:Operand) (k k':IntKind) (m n:Int) (hn:0≤n) (w:World):∃z,(do eqGuard b t x y (.int k m) (.int k' n);Go.binOp b t (.int k m) (.int k' n):Sem Value).run P w=.ok (.int k z) w:=by
 obtain⟨z1,h1⟩:∃z,Op.shift .shl k m k' n=pure (.int k z):=by
  unfold Op.shift;rw[if_neg (by omega)];exact⟨_,rfl⟩
 obtain⟨z2,h2⟩:∃z,Op.shift .shr k m k' n=pure (.int k z):=by
  unfold Op.shift;rw[if_neg (by omega)];exact⟨_,rfl⟩
 cases b<;>first
  | (refine⟨z1,?_⟩;simp[eqGuard,Go.binOp,h1];done)
  | (refine⟨z2,?_⟩;simp[eqGuard,Go.binOp,h2];done)
  | cases hb
section
variable {D:Nat→Prop} {ops:Array Oper} {h:Nat} {V:List VS} {E:List (Nat×VS)} {S:World→Prop} {k:Nat} {o:Oper}
theorem E2 {s:VS} (ins:List (Operand×VS)) (hw:cw ops h V o=some true) (hk:V[k]? =some s) (hi:ins.map (λp=>aL ops h V E o p.1)=ins.map λp=>some p.2)
 (hrun:∀(a:Act) (w:World),S w→(∀p∈ins,p.2.holds D w (a.eval p.1))→∃r,s.holds D w r∧(execOp a.eval o).run Tryz.prog w=.ok (.value r) w):bB D Tryz.prog S ops h V E k o:=
 rQ ins hw hk hi λa w Q hS hi2 next hn=>by
  obtain⟨r,hr,hx⟩:=hrun a w hS hi2;unfold Oper.wp;rw[hx];exact hn r w hr (zb _)
theorem kn {x:Option VS} {k:IntKind} (h:x.bind oz=some k):∃s,x=some s∧oz s=some k:=by
 rcases x with _|s
 · cases h
 · exact⟨s,rfl,h⟩
theorem Nl {kk : IntKind} (_ : Gr o.op = true) (hk : V[k]? = some (.int kk)) (hq : IB Tryz.prog ops h V E o = some kk) : bB D Tryz.prog S ops h V E k o := by
 unfold IB at hq
 split at hq
 · rename_i hw
   split at hq
   · rename_i b t x y t2 ho
     split at hq
     · rename_i k1 k2 h1 h2
       obtain⟨s1,e1,f1⟩:=kn h1;obtain⟨s2,e2,f2⟩:=kn h2;split at hq
       · rename_i hsh
         split at hq
         · rename_i hc
           cases hq;rw[e2] at hc;refine E2 [(x,s1),(y,s2)] hw hk (by simp[e1,e2]) λa w _ hi=>?_
           obtain⟨m,hm⟩:=iJ f1 (hi (x,s1) (by simp));have h4:=hi (y,s2) (by simp);obtain⟨n,hn⟩:=iJ f2 h4;have hn0:0≤n:=by
            simp only[Option.map_some,Option.getD_some] at hc;unfold K5 at hc;split at hc
            · rename_i c
              have h5:a.eval y=.int _ c:=h4;rw[hn] at h5;cases h5;exact of_decide_eq_true hc
            · cases hc
           obtain⟨z,hz⟩:=AV (P:=Tryz.prog) hsh t x y kk k2 m n hn0 w;refine⟨.int kk z,⟨z,rfl⟩,?_⟩;simp only[] at hm hn;unfold execOp;simp only[ho,hm,hn,Sem.run_bind,hz,Result.andThen_ok,Sem.run_pure]
         · cases hq
       · split at hq
         · rename_i hc
           cases hq;simp only[Bool.and_eq_true,decide_eq_true_eq] at hc;obtain⟨hc1,rfl⟩:=hc;refine E2 [(x,s1),(y,s2)] hw hk (by simp[e1,e2]) λa w _ hi=>?_
           obtain⟨m,hm⟩:=iJ f1 (hi (x,s1) (by simp));obtain⟨n,hn⟩:=iJ f2 (hi (y,s2) (by simp));obtain⟨z,hz⟩:=Df (P:=Tryz.prog) hc1 t x y kk m n w;refine⟨.int kk z,⟨z,rfl⟩,?_⟩;simp only[] at hm hn;unfold execOp;simp only[ho,hm,hn,Sem.run_bind,hz,Result.andThen_ok,Sem.run_pure]
         · cases hq
     · cases hq
   · rename_i t x ho
     obtain⟨s1,e1,f1⟩:=kn hq;refine E2 [(x,s1)] hw hk (by simp[e1]) λa w _ hi=>?_
     obtain⟨m,hm⟩:=iJ f1 (hi (x,s1) (by simp));simp only[] at hm;refine⟨.int kk (kk.wrap (BitVec.ofInt kk.bits (if kk.signed then -1 else kk.max) ^^^ BitVec.ofInt kk.bits m).toNat),⟨_,rfl⟩,?_⟩;unfold execOp;simp only[ho,hm]
     rfl
   · rename_i t d x ho
     split at hq
     · rename_i k1 h1
       obtain⟨s1,e1,f1⟩:=kn h1;refine E2 [(x,s1)] hw hk (by simp[e1]) λa w _ hi=>?_
       obtain⟨m,hm⟩:=iJ f1 (hi (x,s1) (by simp));simp only[] at hm;refine⟨.int kk (kk.wrap m),⟨_,rfl⟩,?_⟩;split at hq
       · rename_i hc
         obtain⟨u,Bo⟩:=Option.isSome_iff_exists.1 hc;unfold Ai at hq;split at hq
         · rename_i hu
           cases hq;unfold execOp;simp only[ho,hm];simp[convert,run_underlying hu,run_underlying Bo,Conv.intToInt]
         · cases hq
       · cases hq
     · cases hq
   · cases hq
 · cases hq
theorem lq {t:TypeId} {x:Operand} {a:Addr} {kk:IntKind} (ho:o.op=.load t x) (hw:cw ops h V o=some true) (hk:V[k]? =some (.int kk)) (hx:aL ops h V E o x=some (.eq (.pointer (some a))))
 (hr:∀w,S w→∃m,(Instr.loadAt t (.pointer (some a))).run Tryz.prog w=.ok (.int kk m) w):bB D Tryz.prog S ops h V E k o:=
 E2 [(x,.eq (.pointer (some a)))] hw hk (by simp[hx]) λac w hS hi=>by
  have h1:ac.eval x=.pointer (some a):=hi (x,.eq (.pointer (some a))) (by simp);obtain⟨m,hm⟩:=hr w hS;refine⟨_,⟨m,rfl⟩,?_⟩;unfold execOp;simp[ho,h1,hm]
end
end Go.Proofs.YtemjidmkolfgnaaGreatDoor
