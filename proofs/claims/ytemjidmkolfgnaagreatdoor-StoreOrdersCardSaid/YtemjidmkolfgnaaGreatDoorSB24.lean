/-
  Lemmas for the statement: as RRel, in a round of a range over a function; loads and stores of whole rows there. No condition.
-/
import Derived.Test.YtemjidmkolfgnaaGreatDoorSBn
import Derived.Test.YtemjidmkolfgnaaGreatDoorSB22
import Derived.Test.YtemjidmkolfgnaaGreatDoorSB23
namespace Go.Proofs.YtemjidmkolfgnaaGreatDoor
open Go Go.RowKit
section
variable {P:Program} {md:Region.Mode} {ops:Array Oper} {Q:Exit→Act→World→Prop} {S:World→Prop} {A:Nat→Value→World→Prop} {a0:Act} {R:Nat→World→World→Prop} {last:Nat→Option Nat}
end
section
variable {P:Program} {ops:Array Oper} {Q:Exit→Act→World→Prop} {S:Array Bool→World→Prop} {A:Nat→Value→Prop} {a0:Act}
theorem qG {l n id:Nat} {w:World} (hnd:KM ops=true) (hno:¬LetsOut Q) (hm:P.follows .mixedOrders=true) (hf:gq .any ops=true) (hd:eo ops a0.tmps.size=true) (hS:S (Array.replicate ops.size false) w.drew)
 (hstep:tL P .any ops Q S A a0 0 ops.toList)
 (hend:∀a w,a.defers=a0.defers→a.tmps.size=a0.tmps.size→(∀s,Out ops s→a.tmps.getD s undef=a0.tmps.getD s undef)→(∃listed:Array Bool,(∀j,j<ops.size→listed.getD j false=true)∧S listed w)→(∀j o d,ops[j]? =some o→o.dst=some d→A j (a.tmps.getD d undef))→Q .normal a w):
 (Code.region id ops true).wpIn (Fence.wide.inRound l) n P Q a0 w:=by
 refine wpIn_region_any hm (oJ hnd hno _ _ _ _ (qY hf hd (λi o ho=>?_) hend ops.size _ a0 _ ?_ ⟨⟨by simp,rfl,rfl,λ_ _=>rfl,trivial,λj o d hj js hl=>?_⟩,hS,λj o e hj hl=>?_⟩))
 · have:=l5 ops.toList 0 hstep i o (by rw[Array.getElem?_toList];exact ho)
   rwa [Nat.zero_add] at this
 · simp
 · exfalso
   have hj2:=(Array.getElem?_eq_some_iff.1 hj).1;simp[Array.getD_eq_getD_getElem?,hj2] at hl
 · exfalso
   have hj2:=(Array.getElem?_eq_some_iff.1 hj).1;simp[Array.getD_eq_getD_getElem?,hj2] at hl
theorem IZ {a:Act} {o:Oper} (hd:∀e∈o.after,Region.binds .any e=true→∀ok d,ops[e.on]? =some ok→ok.dst=some d→A e.on (a.eval (.tmp d))) (j:Nat) {d:Nat} (hj:jr o j=true) (ho:(ops[j]?).bind (·.dst)=some d):A j (a.eval (.tmp d)):=by
 obtain⟨e,Bi,yu,rfl⟩:=gC hj
 rw[Option.bind_eq_some_iff] at ho
 obtain⟨oj,jt,rG⟩:=ho
 exact hd e Bi yu oj d jt rG
theorem fh {i:Nat} {o:Oper} {v:Value} (hm:∀listed w,S listed w→S (listed.setIfInBounds i true) w) (hA:A i v)
 (hrun:∀(listed:Array Bool) (a:Act) (w:World),S listed w→(∀(j d:Nat),jr o j=true→(ops[j]?).bind (·.dst)=some d→A j (a.eval (.tmp d)))→(∀s,Out ops s→a.eval (.tmp s)=a0.eval (.tmp s))→(execOp a.eval o).run P w=.ok (.value v) w):rU P .any ops Q S A a0 i o:=by
 intro listed a w _ _ hS _ hd ho next hn
 exact aR (hrun listed a w hS (λj d hj h=>IZ hd j hj h) ho) (hn v w hA (hm _ _ hS))
end
def xe:Op→Bool
 | .defer _=>false
 | _=>true
theorem xg {op:Op} (h:xe op=true) (c:Call):op≠ .defer c:=λe=>by
 rw[e] at h
 cases h
section
variable {P:Program} {ops:Array Oper} {rest:List Oper} {o:Oper} {a:Act} {w:World} {Q:Exit→Act→World→Prop} {l n:Nat}
theorem xq (hnd:xe o.op=true) (hg:o.guard=none) (h:∀K:Act→World→Prop,(∀a w,wpListIn (Fence.wide.inRound l) n P ops Q rest a w→K a w)→o.wp P a w K Q):wpListIn (Fence.wide.inRound l) n P ops Q (o::rest) a w:=
 wpListIn_plain hg λK hK=>qA (xg hnd) (h K hK)
theorem mP (hgd:o.guard=none) {T:TypeId} (x y:Operand) (ho:o.op=.store T x y) {g f:Nat} {t:TypeId} {cur Y:Array Value} (hg:w.heap[g]? =some (.cells cur t (0,0)))
 (e1:a.eval x=.pointer (some ⟨g,f,none⟩)) (e2:a.eval y=.agg Y) (hi:(P.info? T).map (·.size)=some Y.size) (hl:f+Y.size≤cur.size) (h1:∀v∈Y.toList,v.oneCell'=true)
 (h:wpListIn (Fence.wide.inRound l) n P ops Q rest (a.put o.dst undef) (w.setRow g (cur.toList.take f++Y.toList++cur.toList.drop (f+Y.size)).toArray)):wpListIn (Fence.wide.inRound l) n P ops Q (o::rest) a w:=
 xq (by rw[ho];rfl) hgd λK hK=>aY ho e1 e2 (bK hg hi hl h1) (hK _ _ h)
theorem oF (hgd:o.guard=none) {T:TypeId} (x:Operand) (ho:o.op=.load T x) {p:Value} {c:Array Value} (e1:a.eval x=p) (hr:(Instr.loadAt T p).run P w=.ok (.agg c) w)
 (h:wpListIn (Fence.wide.inRound l) n P ops Q rest (a.put o.dst (.agg c)) w):wpListIn (Fence.wide.inRound l) n P ops Q (o::rest) a w:=
 xq (by rw[ho];rfl) hgd λK hK=>by
  unfold Oper.wp execOp;simp only[ho,e1,Sem.run_bind,hr,Result.andThen_ok];exact hK _ _ h
end
def Fa (vals:Nat→Value) (i:Nat) (v:Value):Nat→Value:=λj=>if j=i then v else vals j
theorem iR (vals:Nat→Value) (i:Nat) (v:Value):Fa vals i v i=v:=if_pos rfl
theorem fE (vals:Nat→Value) {i j:Nat} (v:Value) (h:j≠i):Fa vals i v j=vals j:=if_neg h
section
variable {P:Program} {md:Region.Mode} {ops:Array Oper} {Q:Exit→Act→World→Prop} {S:Array Bool→(Nat→Value)→World→Prop} {a0:Act}
def CY (P:Program) (md:Region.Mode) (ops:Array Oper) (Q:Exit→Act→World→Prop) (S:Array Bool→(Nat→Value)→World→Prop) (a0:Act) (i:Nat) (o:Oper):Prop:=
 ∀(listed:Array Bool) (vals:Nat→Value) (a:Act) (w:World),listed.size=ops.size→listed.getD i true=false→S listed vals w→(∀j o e,ops[j]? =some o→listed.getD j false=true→e∈o.after→Region.binds md e=true→listed.getD e.on false=true)→(∀e∈o.after,Region.binds md e=true→listed.getD e.on false=true)→
  (∀e∈o.after,Region.binds md e=true→∀ok d,ops[e.on]? =some ok→ok.dst=some d→a.eval (.tmp d)=vals e.on)→(∀s,Out ops s→a.eval (.tmp s)=a0.eval (.tmp s))→
  ∀next:Act→World→Prop,(∀v w',S (listed.setIfInBounds i true) (Fa vals i v) w'→next (a.put o.dst v) w')→o.wp P a w next Q
def x8 (P:Program) (md:Region.Mode) (ops:Array Oper) (Q:Exit→Act→World→Prop) (S:Array Bool→(Nat→Value)→World→Prop) (a0:Act):Nat→List Oper→Prop
 | _,[]=>True
 | i,o::l=>CY P md ops Q S a0 i o∧x8 P md ops Q S a0 (i+1) l
theorem qO:∀(l:List Oper) (k:Nat),x8 P md ops Q S a0 k l→∀i o,l[i]? =some o→CY P md ops Q S a0 (k+i) o
 | [],_,_,i,o,h=>by simp at h
 | x::l,k,hs,0,o,h=>by
  simp only[List.getElem?_cons_zero,Option.some.injEq] at h;subst h;exact hs.1
 | x::l,k,hs,i+1,o,h=>by
  rw[List.getElem?_cons_succ] at h;have:=qO l (k+1) hs.2 i o h
  rwa [show k+1+i=k+(i+1) by omega] at this
theorem Cm (hf:gq md ops=true) (hd:eo ops a0.tmps.size=true)
 (hstep:∀i o,ops[i]? =some o→CY P md ops Q S a0 i o)
 (hend:∀a w,a.defers=a0.defers→a.tmps.size=a0.tmps.size→(∀s,Out ops s→a.tmps.getD s undef=a0.tmps.getD s undef)→(∃(listed:Array Bool) (vals:Nat→Value),(∀j,j<ops.size→listed.getD j false=true)∧S listed vals w∧(∀j o d,ops[j]? =some o→o.dst=some d→a.tmps.getD d undef=vals j))→Q .normal a w):
 ∀(fuel:Nat) (listed:Array Bool) (vals:Nat→Value) (a:Act) (w:World),listed.toList.count false≤fuel→jA ops (λ_=>True) (λj v _=>v=vals j) a0 listed a w→S listed vals w→(∀j o e,ops[j]? =some o→listed.getD j false=true→e∈o.after→Region.binds md e=true→listed.getD e.on false=true)→wpAny P md ops Q fuel listed a w:=by
 have fin:∀(listed:Array Bool) (vals:Nat→Value) (a:Act) (w:World),jA ops (λ_=>True) (λj v _=>v=vals j) a0 listed a w→S listed vals w→Region.ready md ops listed=[]→Q .normal a w:=by
  intro listed vals a w h hS hr;have hall:=eM hf h.size hr;exact hend a w h.defers h.tmps h.out ⟨listed,vals,hall,hS,λj o d hj js=>h.at_ j o d hj js (hall j (Array.getElem?_eq_some_iff.1 hj).1)⟩
 intro fuel
 induction fuel with
 | zero=>
  intro listed vals a w hc h hS _;have hr:Region.ready md ops listed=[]:=by
   rcases hq:Region.ready md ops listed with _|⟨i,l⟩
   · rfl
   · exfalso
     have hm:i∈Region.ready md ops listed:=by rw[hq];exact List.mem_cons_self ..
     have:=count_set (mem_ready.1 hm).1;omega
  exact⟨hr,fin listed vals a w h hS hr⟩
 | succ fuel ih=>
  intro listed vals a w hc h hS hcl;refine⟨fin listed vals a w h hS,λi hi=>?_⟩;obtain⟨hl,o,ho,bE⟩:=mem_ready.1 hi;have hg:o.guard=none:=by
   have hd2:=hd;unfold eo at hd2;rw[Bool.and_eq_true,List.all_eq_true] at hd2;have:=hd2.2 o (List.mem_of_getElem? (by rw[Array.getElem?_toList];exact ho));rw[Bool.and_eq_true,decide_eq_true_eq] at this;exact this.1
  unfold wpOp;simp only[ho];rw[if_pos (by simp[Region.wanted,hg])]
  left
  have hcs:=count_set hl;refine hstep i o ho listed vals a w h.size hl hS hcl (λe he hb=>bE e he hb) (λe he hb ok d hok iZ=>?_) (λs hs=>h.out s hs) _ λv w' jO=>ih _ _ _ _ (by omega) ?_ jO λj oj e hj hlj he fS=>?_
  · exact h.at_ e.on ok d hok iZ (bE e he hb)
  · have h2:jA ops (λ_=>True) (λj u _=>u=Fa vals i v j) a0 listed a w:=⟨h.size,h.defers,h.tmps,h.out,trivial,λj oj d hj js hlj=>by
     have hij:j≠i:=λe=>by
      subst e;have h1:j<listed.size:=by
       have:=(Array.getElem?_eq_some_iff.1 hj).1;rw[h.size];exact this
      simp[Array.getD_eq_getD_getElem?,h1] at hl hlj;rw[hl] at hlj;cases hlj
     rw[fE vals v hij];exact h.at_ j oj d hj js hlj⟩
    obtain⟨k1,k2,k3,k4,_,k6⟩:=h2.step hd (λ_ _ _ _ h _=>h) (λ_ _ _ _=>trivial) ho (v:=v) (w':=w) (iR vals i v).symm (zb _);exact⟨k1,k2,k3,k4,trivial,k6⟩
  · by_cases hij:i=j
    · subst hij
      rw[ho] at hj;cases hj;exact getD_set_true (bE e he fS)
    · rw[getD_set_ne false hij] at hlj
      exact getD_set_true (hcl j oj e hj hlj he fS)
theorem rT {id:Nat} {w:World} (S:Array Bool→(Nat→Value)→World→Prop) (hm:P.follows .mixedOrders=true) (hf:gq .any ops=true) (hd:eo ops a0.tmps.size=true) (hS:S (Array.replicate ops.size false) (λ_=>undef) w.drew)
 (hstep:x8 P .any ops Q S a0 0 ops.toList)
 (hend:∀a w,a.defers=a0.defers→a.tmps.size=a0.tmps.size→(∀s,Out ops s→a.tmps.getD s undef=a0.tmps.getD s undef)→(∃(listed:Array Bool) (vals:Nat→Value),(∀j,j<ops.size→listed.getD j false=true)∧S listed vals w∧(∀j o d,ops[j]? =some o→o.dst=some d→a.tmps.getD d undef=vals j))→Q .normal a w):
 (Code.region id ops true).wp P Q a0 w:=by
 refine wp_region_any hm (Cm hf hd (λi o ho=>?_) hend ops.size _ _ a0 _ ?_ ⟨by simp,rfl,rfl,λ_ _=>rfl,trivial,λj o d hj js hl=>?_⟩ hS λj o e hj hl=>?_)
 · have:=qO ops.toList 0 hstep i o (by rw[Array.getElem?_toList];exact ho)
   rwa [Nat.zero_add] at this
 · simp
 · exfalso
   have hj2:=(Array.getElem?_eq_some_iff.1 hj).1;simp[Array.getD_eq_getD_getElem?,hj2] at hl
 · exfalso
   have hj2:=(Array.getElem?_eq_some_iff.1 hj).1;simp[Array.getD_eq_getD_getElem?,hj2] at hl
theorem vF {a:Act} {o:Oper} {vals:Nat→Value} (hd:∀e∈o.after,Region.binds .any e=true→∀ok d,ops[e.on]? =some ok→ok.dst=some d→a.eval (.tmp d)=vals e.on) (j:Nat) {d:Nat} (hj:jr o j=true) (ho:(ops[j]?).bind (·.dst)=some d):a.eval (.tmp d)=vals j:=by
 obtain⟨e,Bi,yu,rfl⟩:=gC hj
 rw[Option.bind_eq_some_iff] at ho
 obtain⟨oj,jt,rG⟩:=ho
 exact hd e Bi yu oj d jt rG
theorem wR {o:Oper} {listed:Array Bool} (hl:∀e∈o.after,Region.binds .any e=true→listed.getD e.on false=true) (j:Nat) (hj:jr o j=true):listed.getD j false=true:=by
 obtain⟨e,Bi,yu,rfl⟩:=gC hj
 exact hl e Bi yu
end
theorem kI {n j:Nat} (h:(Array.replicate n false).getD j false=true):False:=by
 simp only[Array.getD_eq_getD_getElem?,Array.getElem?_replicate] at h
 split at h<;>simp at h
theorem qz {listed:Array Bool} {i:Nat} (h:listed.getD i true=false):listed.getD i false=false:=by
 simp only[Array.getD_eq_getD_getElem?] at *
 rcases hq:listed[i]? with _|b
 · rfl
 · rw[hq] at h
   exact h
theorem bl {ops:Array Oper} {listed:Array Bool} (hcl:∀j o e,ops[j]? =some o→listed.getD j false=true→e∈o.after→Region.binds .any e=true→listed.getD e.on false=true) {i j:Nat} {o:Oper} (ho:ops[i]? =some o) (he:jr o j=true) (h:listed.getD i false=true):listed.getD j false=true:=by
 obtain⟨e,h1,h2,rfl⟩:=gC he
 exact hcl i o e ho h h1 h2
section
variable {P:Program} {ops:Array Oper} {Q:Exit→Act→World→Prop} {a0:Act} {L:List (Option Value)} {T:Array Bool→(Nat→Value)→World→Prop}
end
end Go.Proofs.YtemjidmkolfgnaaGreatDoor
