/-
  Lemmas for the statement: a region that draws its order, operation by operation: an operation that yields its value in every world that meets S, or is not wanted, is taken first (the kit's law), its slot written out. No condition.
-/
import Derived.Deep.RegionHeld2
import Derived.Test.YtakgjcfkdemipaaGreatDoorZBn
import Derived.Test.YtakgjcfkdemipaaGreatDoorZB0
namespace Go.Proofs.YtakgjcfkdemipaaGreatDoor
section
open Go
section
variable {P:Program} {ops:Array Oper} {Q:Exit→Act→World→Prop} {md:Region.Mode} {S:World→Prop}
theorem iA {i:Nat} {oi:Oper} {d:Option Nat} {v:Value} {fuel:Nat} {listed:Array Bool} {a:Act} {w:World} (hi:ops[i]? =some oi) (hd:oi.dst=d)
 (hs:Region.noSelect ops=true) (hf:Region.free md ops listed i=true) (hr:(Region.ready md ops listed).contains i=true)
 (hQ:∀c a w,Q (.panic c) (a.put oi.dst v) w→Q (.panic c) a w) (hS:S w) (hw:Region.wanted oi (yielded ops a.tmps)=true) (hy:∀w,S w→(execOp a.eval oi).run P w=.ok (.value v) w)
 (h:wpAnyH P md ops Q S fuel (listed.setIfInBounds i true) (a.put d v) w):wpAnyH P md ops Q S (fuel+1) listed a w:=by
 subst hd
 exact wpAnyH_take hi hs hf hr hQ (.inl ⟨hw,hy⟩) hS h
theorem Lu {i:Nat} {oi:Oper} {d:Option Nat} {fuel:Nat} {listed:Array Bool} {a:Act} {w:World} (hi:ops[i]? =some oi) (hd:oi.dst=d)
 (hs:Region.noSelect ops=true) (hf:Region.free md ops listed i=true) (hr:(Region.ready md ops listed).contains i=true)
 (hQ:∀c a w,Q (.panic c) (a.put oi.dst undef) w→Q (.panic c) a w) (hS:S w) (hw:Region.wanted oi (yielded ops a.tmps)=false)
 (h:wpAnyH P md ops Q S fuel (listed.setIfInBounds i true) (a.put d undef) w):wpAnyH P md ops Q S (fuel+1) listed a w:=by
 subst hd
 exact wpAnyH_take hi hs hf hr hQ (.inr ⟨hw,rfl⟩) hS h
theorem aF (i d:Nat) {oi:Oper} {v:Value} {fuel:Nat} {listed:Array Bool} {a:Act} {w:World} (hy:∀w,S w→(execOp a.eval oi).run P w=.ok (.value v) w) (h:wpAnyH P md ops Q S fuel (listed.setIfInBounds i true) (a.put (some d) v) w)
 (hr:(Region.ready md ops listed).contains i=true:=by kernel_rfl) (hi:ops[i]? =some oi:=by rfl) (hd:oi.dst=some d:=by kernel_rfl)
 (hs:Region.noSelect ops=true:=by kernel_rfl) (hf:Region.free md ops listed i=true:=by kernel_rfl)
 (hQ:∀c a w,Q (.panic c) (a.put oi.dst v) w→Q (.panic c) a w:=by exact λ_ _ _ h=>h) (hS:S w:=by assumption) (hw:Region.wanted oi (yielded ops a.tmps)=true:=by kernel_rfl):wpAnyH P md ops Q S (fuel+1) listed a w:=
 iA hi hd hs hf hr hQ hS hw hy h
theorem bE (i d:Nat) {oi:Oper} {fuel:Nat} {listed:Array Bool} {a:Act} {w:World} (h:wpAnyH P md ops Q S fuel (listed.setIfInBounds i true) (a.put (some d) undef) w)
 (hr:(Region.ready md ops listed).contains i=true:=by kernel_rfl) (hi:ops[i]? =some oi:=by rfl) (hd:oi.dst=some d:=by kernel_rfl)
 (hs:Region.noSelect ops=true:=by kernel_rfl) (hf:Region.free md ops listed i=true:=by kernel_rfl)
 (hQ:∀c a w,Q (.panic c) (a.put oi.dst undef) w→Q (.panic c) a w:=by exact λ_ _ _ h=>h) (hS:S w:=by assumption) (hw:Region.wanted oi (yielded ops a.tmps)=false:=by kernel_rfl):wpAnyH P md ops Q S (fuel+1) listed a w:=
 Lu hi hd hs hf hr hQ hS hw h
end
end
open Go Go.RowKit
section
variable {P:Program} {md:Region.Mode} {ops:Array Oper} {Q:Exit→Act→World→Prop} {S:World→Prop} {A:Nat→Value→World→Prop} {a0:Act}
def sw (md:Region.Mode) (ops:Array Oper):Bool:=(List.range ops.size).all λj=>((ops[j]?).map λo=>o.after.all λe=> !Region.binds md e||decide (e.on<j)).getD true
def wL (ops:Array Oper) (n:Nat):Bool:=decide ((ops.toList.filterMap (·.dst)).Nodup)&&ops.toList.all (λo=>decide (o.guard=none)&&match o.dst with|some d=>decide (d<n)|none=>true)
def Out (ops:Array Oper) (s:Nat):Prop:=∀o∈ops.toList,o.dst≠some s
structure Dc (ops:Array Oper) (S:World→Prop) (A:Nat→Value→World→Prop) (a0:Act) (listed:Array Bool) (a:Act) (w:World):Prop where
 size:listed.size=ops.size
 defers:a.defers=a0.defers
 tmps:a.tmps.size=a0.tmps.size
 out:∀s,Out ops s→a.tmps.getD s undef=a0.tmps.getD s undef
 s:S w
 at_:∀j o d,ops[j]? =some o→o.dst=some d→listed.getD j false=true→A j (a.tmps.getD d undef) w
theorem jI {a:Act} {d d':Nat} {v:Value} (h:d≠d'):(a.put (some d) v).tmps.getD d' undef=a.tmps.getD d' undef:=by
 simp[Act.put,Array.getD_eq_getD_getElem?,Array.getElem?_setIfInBounds_ne h]
theorem jw {a:Act} {d:Nat} {v:Value} (h:d<a.tmps.size):(a.put (some d) v).tmps.getD d undef=v:=by
 simp[Act.put,Array.getD_eq_getD_getElem?,h]
theorem oZ {l:List Oper} (h:(l.filterMap (·.dst)).Nodup):∀{i j:Nat} {o o':Oper} {d:Nat},l[i]? =some o→l[j]? =some o'→o.dst=some d→o'.dst=some d→i=j:=by
 induction l with
 | nil=>intro i j o o' d h1;simp at h1
 | cons x l ih=>
  intro i j o o' d h1 h2 h3 h4;have hx:∀{k:Nat} {u:Oper},l[k]? =some u→u.dst=some d→x.dst=some d→False:=by
   intro k u hk hu SN;rw[List.filterMap_cons,SN,List.nodup_cons] at h;exact h.1 (List.mem_filterMap.2 ⟨u,List.mem_of_getElem? hk,hu⟩)
  have hn:(l.filterMap (·.dst)).Nodup:=by
   rw[List.filterMap_cons] at h;split at h
   · exact h
   · exact(List.nodup_cons.1 h).2
  cases i with
  | zero=>
   cases j with
   | zero=>rfl
   | succ j=>
    simp only[List.getElem?_cons_zero,Option.some.injEq,List.getElem?_cons_succ] at h1 h2;subst h1;exact(hx h2 h4 h3).elim
  | succ i=>
   cases j with
   | zero=>
    simp only[List.getElem?_cons_zero,Option.some.injEq,List.getElem?_cons_succ] at h1 h2;subst h2;exact(hx h1 h3 h4).elim
   | succ j=>
    rw[List.getElem?_cons_succ] at h1 h2;rw[ih hn h1 h2 h3 h4]
theorem Dc.step (hd:wL ops a0.tmps.size=true) (hA:∀j v w w',A j v w→Below w.heap.size w w'→A j v w') (eE:∀w w',S w→Below w.heap.size w w'→S w')
 {listed:Array Bool} {a:Act} {w w':World} (h:Dc ops S A a0 listed a w) {i:Nat} {o:Oper} (ho:ops[i]? =some o) {v:Value} (hv:A i v w') (hb:Below w.heap.size w w'):Dc ops S A a0 (listed.setIfInBounds i true) (a.put o.dst v) w':=by
 unfold wL at hd
 rw[Bool.and_eq_true,decide_eq_true_eq,List.all_eq_true] at hd
 have hol:ops.toList[i]? =some o:=by rw[Array.getElem?_toList];exact ho
 have hlt:∀d,o.dst=some d→d<a0.tmps.size:=by
  intro d e;have:=hd.2 o (List.mem_of_getElem? hol);rw[e] at this;simp at this;exact this.2
 refine⟨by simp[h.size],?_,?_,?_,eE _ _ h.s hb,?_⟩
 · rw[←h.defers];cases o.dst<;>rfl
 · rw[←h.tmps];cases o.dst<;>simp[Act.put]
 · intro s hs
   rw[←h.out s hs];rcases e:o.dst with _|d
   · rfl
   · exact jI (λe2=>hs o (List.mem_of_getElem? hol) (by rw[e,e2]))
 · intro j oj d hj sD hl
   by_cases hij:i=j
   · subst hij
     rw[ho] at hj;cases hj;rw[sD,jw (by rw[h.tmps];exact hlt d sD)];exact hv
   · rw [getD_set_ne false hij] at hl
     have:=hA _ _ _ _ (h.at_ j oj d hj sD hl) hb;rcases e:o.dst with _|d2
     · exact this
     · rw[jI]
       · exact this
       · rintro rfl
         exact hij (oZ hd.1 hol (by rw[Array.getElem?_toList];exact hj) e sD)
theorem mO (hf:sw md ops=true) {listed:Array Bool} (hs:listed.size=ops.size) (h:Region.ready md ops listed=[]):∀j,j<ops.size→listed.getD j false=true:=by
 intro j
 induction j using Nat.strongRecOn with
 | ind j ih =>
  intro hj;rcases hl:listed.getD j false with _|_
  · exfalso
    have hj2:j<listed.size:=by omega
    have hm:j∈Region.ready md ops listed:=by
     rw[mem_ready];refine⟨?_,ops[j],by simp[hj],λe he hb=>?_⟩
     · simp[Array.getD_eq_getD_getElem?,hj2] at hl ⊢;exact hl
     · unfold sw at hf
       rw[List.all_eq_true] at hf;have:=hf j (List.mem_range.2 hj);simp only[hj,Array.getElem?_eq_getElem,Option.map_some,Option.getD_some,Array.all_eq_true_iff_forall_mem] at this;have:=this e he;simp only[hb,Bool.not_true,Bool.false_or,decide_eq_true_eq] at this;exact ih e.on this (by omega)
    rw[h] at hm;cases hm
  · rfl
theorem count_set {listed:Array Bool} {i:Nat} (h:listed.getD i true=false):(listed.setIfInBounds i true).toList.count false+1=listed.toList.count false:=by
 have hi:i<listed.size:=by
  rcases Nat.lt_or_ge i listed.size with h'|h'
  · exact h'
  · simp[Array.getD_eq_getD_getElem?,Array.getElem?_eq_none h'] at h
 have hv:listed.toList[i]? =some false:=by
  simp[Array.getD_eq_getD_getElem?,hi] at h;simp[hi,h]
 rw[Array.toList_setIfInBounds]
 obtain⟨l⟩:=listed
 simp only at hv hi ⊢
 clear h
 induction l generalizing i with
 | nil=>simp at hi
 | cons b l ih=>
  cases i with
  | zero=>
   simp only[List.getElem?_cons_zero,Option.some.injEq] at hv;subst hv;simp
  | succ i=>
   rw[List.getElem?_cons_succ] at hv;have:=ih (by simpa using hi) hv;rw[List.set_cons_succ,List.count_cons,List.count_cons];omega
def nL (md:Region.Mode) (ops:Array Oper) (h:Nat):Bool:=
 (List.range h).all (λj=>(List.range (h+1)).any λk=>decide (j<k)&&((ops[k]?).map λo=>o.after.any λe=>Region.binds md e&&decide (e.on=j)).getD false)&&
 (List.range ops.size).all (λt=>decide (t≤h)||((ops[t]?).map λo=>o.after.any λe=>Region.binds md e&&decide (h≤e.on)).getD false)
theorem xb {h:Nat} (hb:nL md ops h=true) {listed:Array Bool} (hc:∀j o e,ops[j]? =some o→listed.getD j false=true→e∈o.after→Region.binds md e=true→listed.getD e.on false=true) (hr:h∈Region.ready md ops listed):∀j,j<h→listed.getD j false=true:=by
 unfold nL at hb
 rw[Bool.and_eq_true,List.all_eq_true] at hb
 have key:∀n j,j<h→h - j≤n→listed.getD j false=true:=by
  intro n
  induction n with
  | zero=>intro j hj hn;omega
  | succ n ih=>
   intro j hj hn;have:=hb.1 j (List.mem_range.2 hj);rw[List.any_eq_true] at this;obtain⟨k,hk,hkk⟩:=this;rw[Bool.and_eq_true,decide_eq_true_eq] at hkk;have hk':=List.mem_range.1 hk;rcases hok:ops[k]? with _|o
   · rw[hok] at hkk;simp at hkk
   · rw[hok] at hkk
     simp only[Option.map_some,Option.getD_some,Array.any_eq_true,Bool.and_eq_true,decide_eq_true_eq] at hkk;obtain⟨hjk,x,hx,A4,hon⟩:=hkk
     by_cases hkh:k=h
     · subst hkh
       obtain⟨_,o',ho',hall⟩:=mem_ready.1 hr;rw[hok] at ho';cases ho';rw[←hon];exact hall _ (Array.getElem_mem hx) A4
     · have hl:=ih k (by omega) (by omega)
       rw[←hon];exact hc k o _ hok hl (Array.getElem_mem hx) A4
 intro j hj
 exact key (h - j) j hj zr
def Ln (ops:Array Oper) (s:Nat):Bool:=ops.toList.all λo=> !decide (o.dst=some s)
theorem rI {s:Nat} (h:Ln ops s=true):Out ops s:=by
 intro o ho e
 unfold Ln at h
 rw[List.all_eq_true] at h
 have:=h o ho
 simp[e] at this
theorem aR {a:Act} {k:Nat} {x:Value} (h:a.eval (.tmp k)=x):a.tmps[k]?.getD undef=x:=by rw[←h];simp[Act.eval]
def dA (a:Act):List Oper→Act→Act
 | [],b=>b
 | o::l,b=>dA a l (b.put o.dst (match o.dst with|some d=>a.tmps.getD d undef|none=>undef))
theorem pH (a:Act):∀(l:List Oper) (b:Act),(dA a l b).tmps.size=b.tmps.size∧(dA a l b).defers=b.defers
 | [],_=>⟨rfl,rfl⟩
 | o::l,b=>by
  obtain⟨h1,h2⟩:=pH a l (b.put o.dst (match o.dst with|some d=>a.tmps.getD d undef|none=>undef));rw[dA,h1,h2];rcases o.dst with _|d
  · exact⟨rfl,rfl⟩
  · exact⟨by simp[Act.put],rfl⟩
theorem uw (a:Act) (s:Nat):∀(l:List Oper) (b:Act),s<b.tmps.size→((dA a l b).tmps.getD s undef=a.tmps.getD s undef∨((∀o∈l,o.dst≠some s)∧(dA a l b).tmps.getD s undef=b.tmps.getD s undef))∧(b.tmps.getD s undef=a.tmps.getD s undef→(dA a l b).tmps.getD s undef=a.tmps.getD s undef)
 | [],b,_=>⟨.inr ⟨by simp,rfl⟩,λh=>h⟩
 | o :: l, b, hs => by
  have hsz:s<(b.put o.dst (match o.dst with|some d=>a.tmps.getD d undef|none=>undef)).tmps.size:=by
   rcases o.dst with _|d
   · exact hs
   · simpa[Act.put] using hs
  obtain⟨h1,h2⟩:=uw a s l _ hsz;rw[dA]
  by_cases hd:o.dst=some s
  · have hv:(b.put o.dst (match o.dst with|some d=>a.tmps.getD d undef|none=>undef)).tmps.getD s undef=a.tmps.getD s undef:=by
     rw[hd];exact jw hs
    exact⟨.inl (h2 hv),λ_=>h2 hv⟩
  · have hv:(b.put o.dst (match o.dst with|some d=>a.tmps.getD d undef|none=>undef)).tmps.getD s undef=b.tmps.getD s undef:=by
     rcases e:o.dst with _|d
     · rfl
     · exact jI (λe2=>hd (by rw[e,e2]))
    refine⟨?_,λh=>h2 (hv.trans h)⟩;rcases h1 with h1|⟨h1,h3⟩
    · exact .inl h1
    · refine .inr ⟨λo' ho'=>?_,h3.trans hv⟩
      rcases List.mem_cons.1 ho' with rfl|ho'
      · exact hd
      · exact h1 o' ho'
theorem wg {a:Act} (hd:a.defers=a0.defers) (hs:a.tmps.size=a0.tmps.size) (ho:∀s,Out ops s→a.tmps.getD s undef=a0.tmps.getD s undef):a=dA a ops.toList a0:=by
 obtain⟨p1,p2⟩:=pH a ops.toList a0
 have key:∀s,s<a0.tmps.size→(dA a ops.toList a0).tmps.getD s undef=a.tmps.getD s undef:=by
  intro s hlt;rcases(uw a s ops.toList a0 hlt).1 with h|⟨h1,h2⟩
  · exact h
  · rw[h2,ho s h1]
 generalize dA a ops.toList a0=b at p1 p2 key
 obtain⟨t,d⟩:=a
 obtain⟨t',d'⟩:=b
 simp only at *
 subst hd p2
 congr 1
 apply Array.ext
 · omega
 · intro j h1 h2
   have:=key j (by omega);simp[Array.getD_eq_getD_getElem?,h1,h2] at this;exact this.symm
end
section
variable {P:Program} {md:Region.Mode} {ops:Array Oper} {Q:Exit→Act→World→Prop} {S:Array Bool→World→Prop} {A:Nat→Value→Prop} {a0:Act}
def Df (P:Program) (md:Region.Mode) (ops:Array Oper) (Q:Exit→Act→World→Prop) (S:Array Bool→World→Prop) (A:Nat→Value→Prop) (a0:Act) (i:Nat) (o:Oper):Prop:=
 ∀(listed:Array Bool) (a:Act) (w:World),listed.size=ops.size→listed.getD i true=false→S listed w→(∀j o e,ops[j]? =some o→listed.getD j false=true→e∈o.after→Region.binds md e=true→listed.getD e.on false=true)→
  (∀e∈o.after,Region.binds md e=true→∀ok d,ops[e.on]? =some ok→ok.dst=some d→A e.on (a.eval (.tmp d)))→(∀s,Out ops s→a.eval (.tmp s)=a0.eval (.tmp s))→
  ∀next:Act→World→Prop,(∀v w',A i v→S (listed.setIfInBounds i true) w'→next (a.put o.dst v) w')→o.wp P a w next Q
structure J1 (md:Region.Mode) (ops:Array Oper) (S:Array Bool→World→Prop) (A:Nat→Value→Prop) (a0:Act) (listed:Array Bool) (a:Act) (w:World):Prop where
 inv:Dc ops (λ_=>True) (λj v _=>A j v) a0 listed a w
 s:S listed w
 closed:∀j o e,ops[j]? =some o→listed.getD j false=true→e∈o.after→Region.binds md e=true→listed.getD e.on false=true
theorem AN (hf:sw md ops=true) (hd:wL ops a0.tmps.size=true)
 (hstep:∀i o,ops[i]? =some o→Df P md ops Q S A a0 i o)
 (hend:∀a w,a.defers=a0.defers→a.tmps.size=a0.tmps.size→(∀s,Out ops s→a.tmps.getD s undef=a0.tmps.getD s undef)→(∃listed:Array Bool,(∀j,j<ops.size→listed.getD j false=true)∧S listed w)→(∀j o d,ops[j]? =some o→o.dst=some d→A j (a.tmps.getD d undef))→Q .normal a w):
 ∀(fuel:Nat) (listed:Array Bool) (a:Act) (w:World),listed.toList.count false≤fuel→J1 md ops S A a0 listed a w→wpAny P md ops Q fuel listed a w:=by
 have fin:∀(listed:Array Bool) (a:Act) (w:World),J1 md ops S A a0 listed a w→Region.ready md ops listed=[]→Q .normal a w:=by
  intro listed a w h hr;have hall:=mO hf h.inv.size hr;exact hend a w h.inv.defers h.inv.tmps h.inv.out ⟨listed,hall,h.s⟩ λj o d hj sD=>h.inv.at_ j o d hj sD (hall j (Array.getElem?_eq_some_iff.1 hj).1)
 intro fuel
 induction fuel with
 | zero=>
  intro listed a w hc h;have hr:Region.ready md ops listed=[]:=by
   rcases hq:Region.ready md ops listed with _|⟨i,l⟩
   · rfl
   · exfalso
     have hm:i∈Region.ready md ops listed:=by rw[hq];exact List.mem_cons_self ..
     have:=count_set (mem_ready.1 hm).1;omega
  exact⟨hr,fin listed a w h hr⟩
 | succ fuel ih=>
  intro listed a w hc h;refine⟨fin listed a w h,λi hi=>?_⟩;obtain⟨hl,o,ho,iO⟩:=mem_ready.1 hi;have hg:o.guard=none:=by
   have hd2:=hd;unfold wL at hd2;rw[Bool.and_eq_true,List.all_eq_true] at hd2;have:=hd2.2 o (List.mem_of_getElem? (by rw[Array.getElem?_toList];exact ho));rw[Bool.and_eq_true,decide_eq_true_eq] at this;exact this.1
  unfold wpOp;simp only[ho];rw[if_pos (by simp[Region.wanted,hg])]
  left
  have hcs:=count_set hl;refine hstep i o ho listed a w h.inv.size hl h.s h.closed (λe he hb ok d hok DV=>?_) (λs hs=>h.inv.out s hs) _ λv w' hv hS=>ih _ _ _ (by omega) ⟨?_,hS,λj oj e hj hlj he wZ=>?_⟩
  · exact h.inv.at_ e.on ok d hok DV (iO e he hb)
  · obtain⟨k1,k2,k3,k4,_,k6⟩:=h.inv.step hd (λ_ _ _ _ h _=>h) (λ_ _ _ _=>trivial) ho (v:=v) (w':=w) hv (zb _)
    exact⟨k1,k2,k3,k4,trivial,k6⟩
  · by_cases hij:i=j
    · subst hij
      rw[ho] at hj;cases hj;exact getD_set_true (iO e he wZ)
    · rw[getD_set_ne false hij] at hlj
      exact getD_set_true (h.closed j oj e hj hlj he wZ)
def za (P:Program) (md:Region.Mode) (ops:Array Oper) (Q:Exit→Act→World→Prop) (S:Array Bool→World→Prop) (A:Nat→Value→Prop) (a0:Act):Nat→List Oper→Prop
 | _,[]=>True
 | k,o::l=>Df P md ops Q S A a0 k o∧za P md ops Q S A a0 (k+1) l
theorem rX:∀(l:List Oper) (k:Nat),za P md ops Q S A a0 k l→∀i o,l[i]? =some o→Df P md ops Q S A a0 (k+i) o
 | [],k,_,i,o,h=>by simp at h
 | x::l,k,hs,0,o,h=>by
  simp only[List.getElem?_cons_zero,Option.some.injEq] at h;subst h;exact hs.1
 | x::l,k,hs,i+1,o,h=>by
  rw[List.getElem?_cons_succ] at h;have:=rX l (k+1) hs.2 i o h
  rwa [show k+1+i=k+(i+1) by omega] at this
theorem sr {id:Nat} {w:World} (hm:P.follows .mixedOrders=true) (hf:sw .any ops=true) (hd:wL ops a0.tmps.size=true) (hS:S (Array.replicate ops.size false) w.drew)
 (hstep:za P .any ops Q S A a0 0 ops.toList)
 (hend:∀a w,a.defers=a0.defers→a.tmps.size=a0.tmps.size→(∀s,Out ops s→a.tmps.getD s undef=a0.tmps.getD s undef)→(∃listed:Array Bool,(∀j,j<ops.size→listed.getD j false=true)∧S listed w)→(∀j o d,ops[j]? =some o→o.dst=some d→A j (a.tmps.getD d undef))→Q .normal a w):
 (Code.region id ops true).wp P Q a0 w:=by
 refine wp_region_any hm (AN hf hd (λi o ho=>?_) hend ops.size _ a0 _ ?_ ⟨⟨by simp,rfl,rfl,λ_ _=>rfl,trivial,λj o d hj sD hl=>?_⟩,hS,λj o e hj hl=>?_⟩)
 · have:=rX ops.toList 0 hstep i o (by rw[Array.getElem?_toList];exact ho)
   rwa [Nat.zero_add] at this
 · simp
 · exfalso
   have hj2:=(Array.getElem?_eq_some_iff.1 hj).1;simp[Array.getD_eq_getD_getElem?,hj2] at hl
 · exfalso
   have hj2:=(Array.getElem?_eq_some_iff.1 hj).1;simp[Array.getD_eq_getD_getElem?,hj2] at hl
end
section
variable {P:Program} {md:Region.Mode} {ops:Array Oper} {Q:Exit→Act→World→Prop} {S:World→Prop} {A:Nat→Value→World→Prop} {a0:Act}
def qo (ops:Array Oper) (h s:Nat):Prop:=∀j o,j<h→ops[j]? =some o→o.dst≠some s
def Ht (ops:Array Oper) (h s:Nat):Bool:=(ops.toList.take h).all λo=> !decide (o.dst=some s)
theorem fG {h s:Nat} (hb:Ht ops h s=true):qo ops h s:=by
 intro j o hj ho e
 unfold Ht at hb
 rw[List.all_eq_true] at hb
 have:=hb o (List.mem_of_getElem? (i:=j) (by rw[List.getElem?_take_of_lt hj,Array.getElem?_toList];exact ho))
 simp[e] at this
def we (P:Program) (md:Region.Mode) (ops:Array Oper) (Q:Exit→Act→World→Prop) (S:World→Prop) (A:Nat→Value→World→Prop) (a0:Act) (h i:Nat) (o:Oper):Prop:=
 ∀(a:Act) (w:World),S w→(∀e∈o.after,Region.binds md e=true→∀ok d,ops[e.on]? =some ok→ok.dst=some d→A e.on (a.eval (.tmp d)) w)→(∀s,qo ops h s→a.eval (.tmp s)=a0.eval (.tmp s))→
  ∀next:Act→World→Prop,(∀v w',A i v w'→Below w.heap.size w w'→next (a.put o.dst v) w')→o.wp P a w next Q
structure GM (md:Region.Mode) (ops:Array Oper) (h:Nat) (S:World→Prop) (A:Nat→Value→World→Prop) (a0:Act) (listed:Array Bool) (a:Act) (w:World):Prop where
 inv:Dc ops S A a0 listed a w
 tail:∀j,h≤j→j<ops.size→listed.getD j true=false
 closed:∀j o e,ops[j]? =some o→listed.getD j false=true→e∈o.after→Region.binds md e=true→listed.getD e.on false=true
 Af:∀s,qo ops h s→a.tmps.getD s undef=a0.tmps.getD s undef
theorem yN {h : Nat} (hh : h < ops.size) (hf : sw md ops = true) (hb : nL md ops h = true) (hd : wL ops a0.tmps.size = true) (hA : ∀ j v w w', A j v w → Below w.heap.size w w' → A j v w') (eE : ∀ w w', S w → Below w.heap.size w w' → S w')
 (hstep:∀i o,i<h→ops[i]? =some o→we P md ops Q S A a0 h i o)
 (hend:∀a w,a.defers=a0.defers→a.tmps.size=a0.tmps.size→(∀s,qo ops h s→a.tmps.getD s undef=a0.tmps.getD s undef)→S w→(∀j o d,j<h→ops[j]? =some o→o.dst=some d→A j (a.tmps.getD d undef) w)→wpAny P md ops Q (ops.size - h) (Array.replicate h true++Array.replicate (ops.size - h) false) a w):
 ∀(fuel:Nat) (listed:Array Bool) (a:Act) (w:World),listed.toList.count false=fuel→GM md ops h S A a0 listed a w→wpAny P md ops Q fuel listed a w:=by
 have fin:∀(listed:Array Bool) (a:Act) (w:World),GM md ops h S A a0 listed a w→h∈Region.ready md ops listed→wpAny P md ops Q (listed.toList.count false) listed a w:=by
  intro listed a w hI hr;have hall:=xb hb hI.closed hr;have KQ:listed=Array.replicate h true++Array.replicate (ops.size - h) false:=by
   apply Array.ext
   · rw[hI.inv.size];simp;omega
   · intro j h1 h2
     rw[Array.getElem_append];split
     · rename_i hj
       have:=hall j (by simpa using hj);simp[Array.getD_eq_getD_getElem?,h1] at this;simp[this]
     · rename_i hj
       have:=hI.tail j (by simpa using hj) (by rw[←hI.inv.size];exact h1);simp[Array.getD_eq_getD_getElem?,h1] at this;simp[this]
  have Iy:listed.toList.count false=ops.size - h:=by
   rw[KQ];simp[List.count_append,List.count_replicate]
  rw[Iy,KQ];exact hend a w hI.inv.defers hI.inv.tmps hI.Af hI.inv.s λj o d hj KO sD=>hI.inv.at_ j o d KO sD (hall j hj)
 intro fuel
 induction fuel with
 | zero=>
  intro listed a w hc hI;exfalso;have h0:=hI.tail h zr hh;have:=count_set h0;omega
 | succ fuel ih =>
  intro listed a w hc hI
  by_cases hr:h∈Region.ready md ops listed
  · rw[←hc];exact fin listed a w hI hr
  · refine ⟨fun N3 => ?_, fun i hi => ?_⟩
    · exfalso
      have:=mO hf hI.inv.size N3 h hh;have h0:=hI.tail h zr hh;have NN:h<listed.size:=by rw[hI.inv.size];exact hh
      simp[Array.getD_eq_getD_getElem?,NN] at this h0;rw[this] at h0;cases h0
    · obtain⟨hl,o,ho,iO⟩:=mem_ready.1 hi
      have NP : i < ops.size := (Array.getElem?_eq_some_iff.1 ho).1;have hih : i < h := by
       rcases Nat.lt_trichotomy i h with h'|h'|h'
       · exact h'
       · exact absurd (h'▸hi) hr
       · exfalso
         unfold nL at hb;rw[Bool.and_eq_true,List.all_eq_true,List.all_eq_true] at hb;have:=hb.2 i (List.mem_range.2 NP);rw[ho] at this;simp only[Option.map_some,Option.getD_some,Bool.or_eq_true,decide_eq_true_eq,Array.any_eq_true,Bool.and_eq_true] at this;rcases this with this|⟨x,hx,A4,hon⟩
         · omega
         · have h1:=iO _ (Array.getElem_mem hx) A4
           have hlt:(o.after[x]).on<ops.size:=by
            rw[←hI.inv.size];rcases Nat.lt_or_ge (o.after[x]).on listed.size with h'|h'
            · exact h'
            · simp[Array.getD_eq_getD_getElem?,Array.getElem?_eq_none h'] at h1
           have h2:=hI.tail _ hon hlt;have hlt2:(o.after[x]).on<listed.size:=by rw[hI.inv.size];exact hlt
           simp[Array.getD_eq_getD_getElem?,hlt2] at h1 h2;rw[h1] at h2;cases h2
      have hg:o.guard=none:=by
       unfold wL at hd;rw[Bool.and_eq_true,List.all_eq_true] at hd;have:=hd.2 o (List.mem_of_getElem? (by rw[Array.getElem?_toList];exact ho));rw[Bool.and_eq_true,decide_eq_true_eq] at this;exact this.1
      unfold wpOp;simp only[ho];rw[if_pos (by simp[Region.wanted,hg])]
      left
      have hcs:=count_set hl;refine hstep i o hih ho a w hI.inv.s (λe he wZ ok d hok DV=>?_) (λs hs=>hI.Af s hs) _ λv w' hv mE=>ih _ _ _ (by omega) ⟨hI.inv.step hd hA eE ho hv mE,λj hj NQ=>?_,λj oj e hj hlj he wZ=>?_,λs hs=>?_⟩
      · exact hI.inv.at_ e.on ok d hok DV (iO e he wZ)
      · rw[getD_set_ne true (by omega)]
        exact hI.tail j hj NQ
      · by_cases hij:i=j
        · subst hij
          rw[ho] at hj;cases hj;exact getD_set_true (iO e he wZ)
        · rw[getD_set_ne false hij] at hlj
          exact getD_set_true (hI.closed j oj e hj hlj he wZ)
      · rw[←hI.Af s hs]
        rcases e:o.dst with _|d
        · rfl
        · exact jI (λe2=>hs i o hih ho (by rw[e,e2]))
theorem kK {id:Nat} {w:World} (h:Nat) (hm:P.follows .mixedOrders=true) (hh:h<ops.size) (hf:sw .any ops=true) (hb:nL .any ops h=true) (hd:wL ops a0.tmps.size=true) (hA:∀j v w w',A j v w→Below w.heap.size w w'→A j v w') (eE:∀w w',S w→Below w.heap.size w w'→S w') (hS:S w.drew)
 (hstep:∀i o,i<h→ops[i]? =some o→we P .any ops Q S A a0 h i o)
 (hend:∀a w,a.defers=a0.defers→a.tmps.size=a0.tmps.size→(∀s,qo ops h s→a.tmps.getD s undef=a0.tmps.getD s undef)→S w→(∀j o d,j<h→ops[j]? =some o→o.dst=some d→A j (a.tmps.getD d undef) w)→wpAny P .any ops Q (ops.size - h) (Array.replicate h true++Array.replicate (ops.size - h) false) a w):
 (Code.region id ops true).wp P Q a0 w:=by
 refine wp_region_any hm (yN hh hf hb hd hA eE hstep hend ops.size _ a0 _ ?_ ⟨⟨by simp,rfl,rfl,λ_ _=>rfl,hS,λj o d hj sD hl=>?_⟩,λj _ hj=>?_,λj o e hj hl=>?_,λ_ _=>rfl⟩)
 · simp
 · exfalso
   have hj2:=(Array.getElem?_eq_some_iff.1 hj).1;simp[Array.getD_eq_getD_getElem?,hj2] at hl
 · simp[Array.getD_eq_getD_getElem?,hj]
 · exfalso
   have hj2:=(Array.getElem?_eq_some_iff.1 hj).1;simp[Array.getD_eq_getD_getElem?,hj2] at hl
def zc (P:Program) (md:Region.Mode) (ops:Array Oper) (Q:Exit→Act→World→Prop) (S:World→Prop) (A:Nat→Value→World→Prop) (a0:Act) (h:Nat):Nat→List Oper→Prop
 | _,[]=>True
 | k,o::l=>we P md ops Q S A a0 h k o∧zc P md ops Q S A a0 h (k+1) l
theorem rY {h:Nat}:∀(l:List Oper) (k:Nat),zc P md ops Q S A a0 h k l→∀i o,l[i]? =some o→we P md ops Q S A a0 h (k+i) o
 | [],_,_,i,o,ho=>by simp at ho
 | x::l,k,hs,0,o,ho=>by
  simp only[List.getElem?_cons_zero,Option.some.injEq] at ho;subst ho;exact hs.1
 | x::l,k,hs,i+1,o,ho=>by
  rw[List.getElem?_cons_succ] at ho;have:=rY l (k+1) hs.2 i o ho
  rwa [Nat.add_assoc,Nat.add_comm 1 i] at this
theorem pN {h:Nat} (hs:zc P md ops Q S A a0 h 0 (ops.toList.take h)):∀i o,i<h→ops[i]? =some o→we P md ops Q S A a0 h i o:=by
 intro i o hi ho
 have:=rY (ops.toList.take h) 0 hs i o (by rw[List.getElem?_take_of_lt hi,Array.getElem?_toList];exact ho)
 rwa [Nat.zero_add] at this
theorem oh {h:Nat} {a:Act} (hd:a.defers=a0.defers) (hs:a.tmps.size=a0.tmps.size) (ho:∀s,qo ops h s→a.tmps.getD s undef=a0.tmps.getD s undef):a=dA a (ops.toList.take h) a0:=by
 refine(wg (ops:=(ops.toList.take h).toArray) hd hs λs hs=>ho s λj o hj KO e=>hs o ?_ e)
 simp only
 exact List.mem_of_getElem? (i:=j) (by rw[List.getElem?_take_of_lt hj,Array.getElem?_toList];exact KO)
end
section
variable {P:Program} {md:Region.Mode} {ops:Array Oper} {Q:Exit→Act→World→Prop} {S:World→Prop} {A:Nat→Value→World→Prop} {a0:Act}
def BK (ops:Array Oper) (n:Nat):Bool:=decide ((ops.toList.filterMap (·.dst)).Nodup)&&ops.toList.all (λo=>match o.dst with|some d=>decide (d<n)|none=>true)
def Dg (P:Program) (md:Region.Mode) (ops:Array Oper) (Q:Exit→Act→World→Prop) (S:World→Prop) (A:Nat→Value→World→Prop) (a0:Act) (h i:Nat) (o:Oper):Prop:=
 ∀ (a : Act) (w : World), S w → (∀ e ∈ o.after, Region.binds md e = true → ∀ ok d, ops[e.on]? = some ok → ok.dst = some d → A e.on (a.eval (.tmp d)) w) → (∀ s, qo ops h s → a.eval (.tmp s) = a0.eval (.tmp s)) →
  ∀next:Act→World→Prop,(∀v w',A i v w'→Below w.heap.size w w'→next (a.put o.dst v) w')→
   if Region.wanted o (yielded ops a.tmps)=true then o.wp P a w next Q∨(o.asks P a w∧LetsOut Q) else next (a.put o.dst undef) w
structure FB (md:Region.Mode) (ops:Array Oper) (h:Nat) (S:World→Prop) (A:Nat→Value→World→Prop) (a0:Act) (listed:Array Bool) (a:Act) (w:World):Prop where
 size:listed.size=ops.size
 defers:a.defers=a0.defers
 tmps:a.tmps.size=a0.tmps.size
 s:S w
 at_:∀j o d,ops[j]? =some o→o.dst=some d→listed.getD j false=true→A j (a.tmps.getD d undef) w
 Af:∀s,qo ops h s→a.tmps.getD s undef=a0.tmps.getD s undef
 tail:listed.getD h true=false
 closed:∀j o e,ops[j]? =some o→listed.getD j false=true→e∈o.after→Region.binds md e=true→listed.getD e.on false=true
theorem FB.step {h:Nat} (hd:BK ops a0.tmps.size=true) (hA:∀j v w w',A j v w→Below w.heap.size w w'→A j v w') (eE:∀w w',S w→Below w.heap.size w w'→S w')
 {listed:Array Bool} {a:Act} {w w':World} (hI:FB md ops h S A a0 listed a w) {i:Nat} (hih:i<h) {o:Oper} (ho:ops[i]? =some o) (iO:∀e∈o.after,Region.binds md e=true→listed.getD e.on false=true) {v:Value} (hv:A i v w') (hb:Below w.heap.size w w'):FB md ops h S A a0 (listed.setIfInBounds i true) (a.put o.dst v) w':=by
 unfold BK at hd
 rw[Bool.and_eq_true,decide_eq_true_eq,List.all_eq_true] at hd
 have hol:ops.toList[i]? =some o:=by rw[Array.getElem?_toList];exact ho
 have hlt:∀d,o.dst=some d→d<a0.tmps.size:=by
  intro d e;have:=hd.2 o (List.mem_of_getElem? hol);rw[e] at this
  simpa using this
 refine⟨by simp[hI.size],?_,?_,eE _ _ hI.s hb,?_,?_,?_,?_⟩
 · rw[←hI.defers];cases o.dst<;>rfl
 · rw[←hI.tmps];cases o.dst<;>simp[Act.put]
 · intro j oj d hj sD hl
   by_cases hij:i=j
   · subst hij
     rw[ho] at hj;cases hj;rw[sD,jw (by rw[hI.tmps];exact hlt d sD)];exact hv
   · rw [getD_set_ne false hij] at hl
     have:=hA _ _ _ _ (hI.at_ j oj d hj sD hl) hb;rcases e:o.dst with _|d2
     · exact this
     · rw[jI]
       · exact this
       · rintro rfl
         exact hij (oZ hd.1 hol (by rw[Array.getElem?_toList];exact hj) e sD)
 · intro s hs
   rw[←hI.Af s hs];rcases e:o.dst with _|d
   · rfl
   · exact jI (λe2=>hs i o hih ho (by rw[e,e2]))
 · rw[getD_set_ne true (by omega)]
   exact hI.tail
 · intro j oj e hj hlj he wZ
   by_cases hij:i=j
   · subst hij
     rw[ho] at hj;cases hj;exact getD_set_true (iO e he wZ)
   · rw[getD_set_ne false hij] at hlj
     exact getD_set_true (hI.closed j oj e hj hlj he wZ)
theorem Av {listed:Array Bool} (h:∀j,j<ops.size→listed.getD j true=true):Region.ready md ops listed=[]:=by
 unfold Region.ready
 rw[List.filter_eq_nil_iff]
 intro j hj
 simp[h j (List.mem_range.1 hj)]
theorem GD {h:Nat} (hsz:ops.size=h+1) (hf:sw md ops=true) (hb:nL md ops h=true) (hd:BK ops a0.tmps.size=true) (hA:∀j v w w',A j v w→Below w.heap.size w w'→A j v w') (eE:∀w w',S w→Below w.heap.size w w'→S w')
 (hstep:∀i o,ops[i]? =some o→Dg P md ops Q S A a0 h i o)
 (hend:∀(a:Act) (w:World) (v:Value) (w':World) (o:Oper),a.defers=a0.defers→a.tmps.size=a0.tmps.size→(∀s,qo ops h s→a.tmps.getD s undef=a0.tmps.getD s undef)→S w→(∀j o d,j<h→ops[j]? =some o→o.dst=some d→A j (a.tmps.getD d undef) w)→ops[h]? =some o→A h v w'→Below w.heap.size w w'→Q .normal (a.put o.dst v) w'):
 ∀(fuel:Nat) (listed:Array Bool) (a:Act) (w:World),listed.toList.count false=fuel→FB md ops h S A a0 listed a w→wpAny P md ops Q fuel listed a w:=by
 have hh:h<ops.size:=by omega
 intro fuel
 induction fuel with
 | zero=>
  intro listed a w hc hI;exfalso;have:=count_set hI.tail;omega
 | succ fuel ih=>
  intro listed a w hc hI;refine⟨λN3=>?_,λi hi=>?_⟩
  · exfalso
    have:=mO hf hI.size N3 h hh;have h0:=hI.tail;have NN:h<listed.size:=by rw[hI.size];exact hh
    simp[Array.getD_eq_getD_getElem?,NN] at this h0;rw[this] at h0;cases h0
  · obtain⟨hl,o,ho,iO⟩:=mem_ready.1 hi
    have NP:i<ops.size:=(Array.getElem?_eq_some_iff.1 ho).1;unfold wpOp;simp only[ho];have hcs:=count_set hl;refine hstep i o ho a w hI.s (λe he wZ ok d hok DV=>hI.at_ e.on ok d hok DV (iO e he wZ)) (λs hs=>hI.Af s hs) _ λv w' hv mE=>?_
    by_cases hih:i=h
    · subst hih
      have hall:=xb hb hI.closed hi;have ek:∀j,j<ops.size→(listed.setIfInBounds i true).getD j true=true:=by
       intro j hj
       by_cases hij:i=j
       · subst hij
         simp[Array.getD_eq_getD_getElem?,hI.size,NP]
       · have h1:=hall j (by omega)
         rw[getD_set_ne true hij];have NQ:j<listed.size:=by rw[hI.size];exact hj
         simp[Array.getD_eq_getD_getElem?,NQ] at h1 ⊢;exact h1
      have hq:=hend a w v w' o hI.defers hI.tmps hI.Af hI.s (λj oj d hj KO sD=>hI.at_ j oj d KO sD (hall j hj)) ho hv mE;have hr:=Av (md:=md) ek;cases fuel with
      | zero=>exact⟨hr,hq⟩
      | succ f=>exact⟨λ_=>hq,λk hk=>by rw[hr] at hk;cases hk⟩
    · exact ih _ _ _ (by omega) (hI.step hd hA eE (by omega) ho iO hv mE)
theorem yO {id:Nat} {w:World} (h:Nat) (hm:P.follows .mixedOrders=true) (hsz:ops.size=h+1) (hf:sw .any ops=true) (hb:nL .any ops h=true) (hd:BK ops a0.tmps.size=true) (hA:∀j v w w',A j v w→Below w.heap.size w w'→A j v w') (eE:∀w w',S w→Below w.heap.size w w'→S w') (hS:S w.drew)
 (hstep:∀i o,ops[i]? =some o→Dg P .any ops Q S A a0 h i o)
 (hend:∀(a:Act) (w:World) (v:Value) (w':World) (o:Oper),a.defers=a0.defers→a.tmps.size=a0.tmps.size→(∀s,qo ops h s→a.tmps.getD s undef=a0.tmps.getD s undef)→S w→(∀j o d,j<h→ops[j]? =some o→o.dst=some d→A j (a.tmps.getD d undef) w)→ops[h]? =some o→A h v w'→Below w.heap.size w w'→Q .normal (a.put o.dst v) w'):
 (Code.region id ops true).wp P Q a0 w:=by
 refine wp_region_any hm (GD hsz hf hb hd hA eE hstep hend ops.size _ a0 _ ?_ ⟨by simp,rfl,rfl,hS,λj o d hj sD hl=>?_,λ_ _=>rfl,?_,λj o e hj hl=>?_⟩)
 · simp
 · exfalso
   have hj2:=(Array.getElem?_eq_some_iff.1 hj).1;simp[Array.getD_eq_getD_getElem?,hj2] at hl
 · simp[Array.getD_eq_getD_getElem?,hsz]
 · exfalso
   have hj2:=(Array.getElem?_eq_some_iff.1 hj).1;simp[Array.getD_eq_getD_getElem?,hj2] at hl
end
end Go.Proofs.YtakgjcfkdemipaaGreatDoor
