/-
  Lemmas for the statement: a region that draws its order, operation by operation: an operation that yields its value in every world that meets S, or is not wanted, is taken first (the kit's law), its slot written out. No condition.
-/
import Derived.Deep.RegionHeld2
import Derived.Test.YtemjidmkolfgnaaGreatDoorSBn
import Derived.Test.YtemjidmkolfgnaaGreatDoorSB0
namespace Go.Proofs.YtemjidmkolfgnaaGreatDoor
section
open Go
section
variable {P:Program} {ops:Array Oper} {Q:Exit→Act→World→Prop} {md:Region.Mode} {S:World→Prop}
theorem Np {i:Nat} {oi:Oper} {d:Option Nat} {v:Value} {fuel:Nat} {listed:Array Bool} {a:Act} {w:World} (hi:ops[i]? =some oi) (hd:oi.dst=d)
 (hs:Region.noSelect ops=true) (hf:Region.free md ops listed i=true) (hr:(Region.ready md ops listed).contains i=true)
 (hQ:∀c a w,Q (.panic c) (a.put oi.dst v) w→Q (.panic c) a w) (hS:S w) (hw:Region.wanted oi (yielded ops a.tmps)=true) (hy:∀w,S w→(execOp a.eval oi).run P w=.ok (.value v) w)
 (h:wpAnyH P md ops Q S fuel (listed.setIfInBounds i true) (a.put d v) w):wpAnyH P md ops Q S (fuel+1) listed a w:=by
 subst hd
 exact wpAnyH_take hi hs hf hr hQ (.inl ⟨hw,hy⟩) hS h
theorem Nj {i:Nat} {oi:Oper} {d:Option Nat} {fuel:Nat} {listed:Array Bool} {a:Act} {w:World} (hi:ops[i]? =some oi) (hd:oi.dst=d)
 (hs:Region.noSelect ops=true) (hf:Region.free md ops listed i=true) (hr:(Region.ready md ops listed).contains i=true)
 (hQ:∀c a w,Q (.panic c) (a.put oi.dst undef) w→Q (.panic c) a w) (hS:S w) (hw:Region.wanted oi (yielded ops a.tmps)=false)
 (h:wpAnyH P md ops Q S fuel (listed.setIfInBounds i true) (a.put d undef) w):wpAnyH P md ops Q S (fuel+1) listed a w:=by
 subst hd
 exact wpAnyH_take hi hs hf hr hQ (.inr ⟨hw,rfl⟩) hS h
theorem ay (i d:Nat) {oi:Oper} {v:Value} {fuel:Nat} {listed:Array Bool} {a:Act} {w:World} (hy:∀w,S w→(execOp a.eval oi).run P w=.ok (.value v) w) (h:wpAnyH P md ops Q S fuel (listed.setIfInBounds i true) (a.put (some d) v) w)
 (hr:(Region.ready md ops listed).contains i=true:=by kernel_rfl) (hi:ops[i]? =some oi:=by rfl) (hd:oi.dst=some d:=by kernel_rfl)
 (hs:Region.noSelect ops=true:=by kernel_rfl) (hf:Region.free md ops listed i=true:=by kernel_rfl)
 (hQ:∀c a w,Q (.panic c) (a.put oi.dst v) w→Q (.panic c) a w:=by exact λ_ _ _ h=>h) (hS:S w:=by assumption) (hw:Region.wanted oi (yielded ops a.tmps)=true:=by kernel_rfl):wpAnyH P md ops Q S (fuel+1) listed a w:=
 Np hi hd hs hf hr hQ hS hw hy h
theorem aX (i d:Nat) {oi:Oper} {fuel:Nat} {listed:Array Bool} {a:Act} {w:World} (h:wpAnyH P md ops Q S fuel (listed.setIfInBounds i true) (a.put (some d) undef) w)
 (hr:(Region.ready md ops listed).contains i=true:=by kernel_rfl) (hi:ops[i]? =some oi:=by rfl) (hd:oi.dst=some d:=by kernel_rfl)
 (hs:Region.noSelect ops=true:=by kernel_rfl) (hf:Region.free md ops listed i=true:=by kernel_rfl)
 (hQ:∀c a w,Q (.panic c) (a.put oi.dst undef) w→Q (.panic c) a w:=by exact λ_ _ _ h=>h) (hS:S w:=by assumption) (hw:Region.wanted oi (yielded ops a.tmps)=false:=by kernel_rfl):wpAnyH P md ops Q S (fuel+1) listed a w:=
 Nj hi hd hs hf hr hQ hS hw h
end
end
open Go Go.RowKit
section
variable {P:Program} {md:Region.Mode} {ops:Array Oper} {Q:Exit→Act→World→Prop} {S:World→Prop} {A:Nat→Value→World→Prop} {a0:Act}
def gq (md:Region.Mode) (ops:Array Oper):Bool:=(List.range ops.size).all λj=>((ops[j]?).map λo=>o.after.all λe=> !Region.binds md e||decide (e.on<j)).getD true
def eo (ops:Array Oper) (n:Nat):Bool:=decide ((ops.toList.filterMap (·.dst)).Nodup)&&ops.toList.all (λo=>decide (o.guard=none)&&match o.dst with|some d=>decide (d<n)|none=>true)
def Out (ops:Array Oper) (s:Nat):Prop:=∀o∈ops.toList,o.dst≠some s
def mZ (P:Program) (md:Region.Mode) (ops:Array Oper) (Q:Exit→Act→World→Prop) (S:World→Prop) (A:Nat→Value→World→Prop) (a0:Act) (i:Nat) (o:Oper):Prop:=
 ∀(a:Act) (w:World),S w→(∀e∈o.after,Region.binds md e=true→∀ok d,ops[e.on]? =some ok→ok.dst=some d→A e.on (a.eval (.tmp d)) w)→(∀s,Out ops s→a.eval (.tmp s)=a0.eval (.tmp s))→
  ∀next:Act→World→Prop,(∀v w',A i v w'→Below w.heap.size w w'→next (a.put o.dst v) w')→o.wp P a w next Q
structure jA (ops:Array Oper) (S:World→Prop) (A:Nat→Value→World→Prop) (a0:Act) (listed:Array Bool) (a:Act) (w:World):Prop where
 size:listed.size=ops.size
 defers:a.defers=a0.defers
 tmps:a.tmps.size=a0.tmps.size
 out:∀s,Out ops s→a.tmps.getD s undef=a0.tmps.getD s undef
 s:S w
 at_:∀j o d,ops[j]? =some o→o.dst=some d→listed.getD j false=true→A j (a.tmps.getD d undef) w
theorem eY {a:Act} {d d':Nat} {v:Value} (h:d≠d'):(a.put (some d) v).tmps.getD d' undef=a.tmps.getD d' undef:=by
 simp[Act.put,Array.getD_eq_getD_getElem?,Array.getElem?_setIfInBounds_ne h]
theorem dB {a:Act} {d:Nat} {v:Value} (h:d<a.tmps.size):(a.put (some d) v).tmps.getD d undef=v:=by
 simp[Act.put,Array.getD_eq_getD_getElem?,h]
theorem jU {l:List Oper} (h:(l.filterMap (·.dst)).Nodup):∀{i j:Nat} {o o':Oper} {d:Nat},l[i]? =some o→l[j]? =some o'→o.dst=some d→o'.dst=some d→i=j:=by
 induction l with
 | nil=>intro i j o o' d h1;simp at h1
 | cons x l ih=>
  intro i j o o' d h1 h2 h3 h4;have hx:∀{k:Nat} {u:Oper},l[k]? =some u→u.dst=some d→x.dst=some d→False:=by
   intro k u hk hu Fz;rw[List.filterMap_cons,Fz,List.nodup_cons] at h;exact h.1 (List.mem_filterMap.2 ⟨u,List.mem_of_getElem? hk,hu⟩)
  have hn:(l.filterMap (·.dst)).Nodup:=by
   rw[List.filterMap_cons] at h;split at h
   · exact h
   · exact(List.nodup_cons.1 h).2
  cases i with
  | zero=>
   cases j with
   | zero=>rfl
   | succ j=>
    simp only[List.getElem?_cons_zero,Option.some.injEq,List.getElem?_cons_succ] at h1 h2;subst h1;exact(hx h2 h4 h3).elim
  | succ i=>
   cases j with
   | zero=>
    simp only[List.getElem?_cons_zero,Option.some.injEq,List.getElem?_cons_succ] at h1 h2;subst h2;exact(hx h1 h3 h4).elim
   | succ j=>
    rw[List.getElem?_cons_succ] at h1 h2;rw[ih hn h1 h2 h3 h4]
theorem jA.step (hd:eo ops a0.tmps.size=true) (hA:∀j v w w',A j v w→Below w.heap.size w w'→A j v w') (fR:∀w w',S w→Below w.heap.size w w'→S w')
 {listed:Array Bool} {a:Act} {w w':World} (h:jA ops S A a0 listed a w) {i:Nat} {o:Oper} (ho:ops[i]? =some o) {v:Value} (hv:A i v w') (hb:Below w.heap.size w w'):jA ops S A a0 (listed.setIfInBounds i true) (a.put o.dst v) w':=by
 unfold eo at hd
 rw[Bool.and_eq_true,decide_eq_true_eq,List.all_eq_true] at hd
 have hol:ops.toList[i]? =some o:=by rw[Array.getElem?_toList];exact ho
 have hlt:∀d,o.dst=some d→d<a0.tmps.size:=by
  intro d e;have:=hd.2 o (List.mem_of_getElem? hol);rw[e] at this;simp at this;exact this.2
 refine⟨by simp[h.size],?_,?_,?_,fR _ _ h.s hb,?_⟩
 · rw[←h.defers];cases o.dst<;>rfl
 · rw[←h.tmps];cases o.dst<;>simp[Act.put]
 · intro s hs
   rw[←h.out s hs];rcases e:o.dst with _|d
   · rfl
   · exact eY (λe2=>hs o (List.mem_of_getElem? hol) (by rw[e,e2]))
 · intro j oj d hj js hl
   by_cases hij:i=j
   · subst hij
     rw[ho] at hj;cases hj;rw[js,dB (by rw[h.tmps];exact hlt d js)];exact hv
   · rw [getD_set_ne false hij] at hl
     have:=hA _ _ _ _ (h.at_ j oj d hj js hl) hb;rcases e:o.dst with _|d2
     · exact this
     · rw[eY]
       · exact this
       · rintro rfl
         exact hij (jU hd.1 hol (by rw[Array.getElem?_toList];exact hj) e js)
theorem eM (hf:gq md ops=true) {listed:Array Bool} (hs:listed.size=ops.size) (h:Region.ready md ops listed=[]):∀j,j<ops.size→listed.getD j false=true:=by
 intro j
 induction j using Nat.strongRecOn with
 | ind j ih =>
  intro hj;rcases hl:listed.getD j false with _|_
  · exfalso
    have hj2:j<listed.size:=by omega
    have hm:j∈Region.ready md ops listed:=by
     rw[mem_ready];refine⟨?_,ops[j],by simp[hj],λe he hb=>?_⟩
     · simp[Array.getD_eq_getD_getElem?,hj2] at hl ⊢;exact hl
     · unfold gq at hf
       rw[List.all_eq_true] at hf;have:=hf j (List.mem_range.2 hj);simp only[hj,Array.getElem?_eq_getElem,Option.map_some,Option.getD_some,Array.all_eq_true_iff_forall_mem] at this;have:=this e he;simp only[hb,Bool.not_true,Bool.false_or,decide_eq_true_eq] at this;exact ih e.on this (by omega)
    rw[h] at hm;cases hm
  · rfl
theorem count_set {listed:Array Bool} {i:Nat} (h:listed.getD i true=false):(listed.setIfInBounds i true).toList.count false+1=listed.toList.count false:=by
 have hi:i<listed.size:=by
  rcases Nat.lt_or_ge i listed.size with h'|h'
  · exact h'
  · simp[Array.getD_eq_getD_getElem?,Array.getElem?_eq_none h'] at h
 have hv:listed.toList[i]? =some false:=by
  simp[Array.getD_eq_getD_getElem?,hi] at h;simp[hi,h]
 rw[Array.toList_setIfInBounds]
 obtain⟨l⟩:=listed
 simp only at hv hi ⊢
 clear h
 induction l generalizing i with
 | nil=>simp at hi
 | cons b l ih=>
  cases i with
  | zero=>
   simp only[List.getElem?_cons_zero,Option.some.injEq] at hv;subst hv;simp
  | succ i=>
   rw[List.getElem?_cons_succ] at hv;have:=ih (by simpa using hi) hv;rw[List.set_cons_succ,List.count_cons,List.count_cons];omega
def iF (md:Region.Mode) (ops:Array Oper) (h:Nat):Bool:=
 (List.range h).all (λj=>(List.range (h+1)).any λk=>decide (j<k)&&((ops[k]?).map λo=>o.after.any λe=>Region.binds md e&&decide (e.on=j)).getD false)&&
 (List.range ops.size).all (λt=>decide (t≤h)||((ops[t]?).map λo=>o.after.any λe=>Region.binds md e&&decide (h≤e.on)).getD false)
theorem pZ {h:Nat} (hb:iF md ops h=true) {listed:Array Bool} (hc:∀j o e,ops[j]? =some o→listed.getD j false=true→e∈o.after→Region.binds md e=true→listed.getD e.on false=true) (hr:h∈Region.ready md ops listed):∀j,j<h→listed.getD j false=true:=by
 unfold iF at hb
 rw[Bool.and_eq_true,List.all_eq_true] at hb
 have key:∀n j,j<h→h - j≤n→listed.getD j false=true:=by
  intro n
  induction n with
  | zero=>intro j hj hn;omega
  | succ n ih=>
   intro j hj hn;have:=hb.1 j (List.mem_range.2 hj);rw[List.any_eq_true] at this;obtain⟨k,hk,hkk⟩:=this;rw[Bool.and_eq_true,decide_eq_true_eq] at hkk;have hk':=List.mem_range.1 hk;rcases hok:ops[k]? with _|o
   · rw[hok] at hkk;simp at hkk
   · rw[hok] at hkk
     simp only[Option.map_some,Option.getD_some,Array.any_eq_true,Bool.and_eq_true,decide_eq_true_eq] at hkk;obtain⟨hjk,x,hx,gU,hon⟩:=hkk
     by_cases hkh:k=h
     · subst hkh
       obtain⟨_,o',ho',hall⟩:=mem_ready.1 hr;rw[hok] at ho';cases ho';rw[←hon];exact hall _ (Array.getElem_mem hx) gU
     · have hl:=ih k (by omega) (by omega)
       rw[←hon];exact hc k o _ hok hl (Array.getElem_mem hx) gU
 intro j hj
 exact key (h - j) j hj zr
def eP (P:Program) (md:Region.Mode) (ops:Array Oper) (Q:Exit→Act→World→Prop) (S:World→Prop) (A:Nat→Value→World→Prop) (a0:Act):Nat→List Oper→Prop
 | _,[]=>True
 | k,o::l=>mZ P md ops Q S A a0 k o∧eP P md ops Q S A a0 (k+1) l
theorem th {P:Program} {md:Region.Mode} {ops:Array Oper} {Q:Exit→Act→World→Prop} {S:World→Prop} {A:Nat→Value→World→Prop} {a0:Act}:∀(l:List Oper) (k:Nat),eP P md ops Q S A a0 k l→∀i o,l[i]? =some o→mZ P md ops Q S A a0 (k+i) o
 | [],_,_,i,o,h=>by simp at h
 | x::l,k,hs,0,o,h=>by
  simp only[List.getElem?_cons_zero,Option.some.injEq] at h;subst h;exact hs.1
 | x::l,k,hs,i+1,o,h=>by
  rw[List.getElem?_cons_succ] at h;have:=th l (k+1) hs.2 i o h
  rwa [show k+1+i=k+(i+1) by omega] at this
theorem l6 {h:Nat} (hs:eP P md ops Q S A a0 0 (ops.toList.take h)):∀i o,i<h→ops[i]? =some o→mZ P md ops Q S A a0 i o:=by
 intro i o hi ho
 have:=th (ops.toList.take h) 0 hs i o (by rw[List.getElem?_take_of_lt hi,Array.getElem?_toList];exact ho)
 rwa [Nat.zero_add] at this
def Nc (ops:Array Oper) (s:Nat):Bool:=ops.toList.all λo=> !decide (o.dst=some s)
theorem bG {s:Nat} (h:Nc ops s=true):Out ops s:=by
 intro o ho e
 unfold Nc at h
 rw[List.all_eq_true] at h
 have:=h o ho
 simp[e] at this
theorem kU {a:Act} {k:Nat} {x:Value} (h:a.eval (.tmp k)=x):a.tmps[k]?.getD undef=x:=by rw[←h];simp[Act.eval]
def bD (a:Act):List Oper→Act→Act
 | [],b=>b
 | o::l,b=>bD a l (b.put o.dst (match o.dst with|some d=>a.tmps.getD d undef|none=>undef))
theorem oE (a:Act):∀(l:List Oper) (b:Act),(bD a l b).tmps.size=b.tmps.size∧(bD a l b).defers=b.defers
 | [],_=>⟨rfl,rfl⟩
 | o::l,b=>by
  obtain⟨h1,h2⟩:=oE a l (b.put o.dst (match o.dst with|some d=>a.tmps.getD d undef|none=>undef));rw[bD,h1,h2];rcases o.dst with _|d
  · exact⟨rfl,rfl⟩
  · exact⟨by simp[Act.put],rfl⟩
theorem sW (a:Act) (s:Nat):∀(l:List Oper) (b:Act),s<b.tmps.size→((bD a l b).tmps.getD s undef=a.tmps.getD s undef∨((∀o∈l,o.dst≠some s)∧(bD a l b).tmps.getD s undef=b.tmps.getD s undef))∧(b.tmps.getD s undef=a.tmps.getD s undef→(bD a l b).tmps.getD s undef=a.tmps.getD s undef)
 | [],b,_=>⟨.inr ⟨by simp,rfl⟩,λh=>h⟩
 | o :: l, b, hs => by
  have hsz:s<(b.put o.dst (match o.dst with|some d=>a.tmps.getD d undef|none=>undef)).tmps.size:=by
   rcases o.dst with _|d
   · exact hs
   · simpa[Act.put] using hs
  obtain⟨h1,h2⟩:=sW a s l _ hsz;rw[bD]
  by_cases hd:o.dst=some s
  · have hv:(b.put o.dst (match o.dst with|some d=>a.tmps.getD d undef|none=>undef)).tmps.getD s undef=a.tmps.getD s undef:=by
     rw[hd];exact dB hs
    exact⟨.inl (h2 hv),λ_=>h2 hv⟩
  · have hv:(b.put o.dst (match o.dst with|some d=>a.tmps.getD d undef|none=>undef)).tmps.getD s undef=b.tmps.getD s undef:=by
     rcases e:o.dst with _|d
     · rfl
     · exact eY (λe2=>hd (by rw[e,e2]))
    refine⟨?_,λh=>h2 (hv.trans h)⟩;rcases h1 with h1|⟨h1,h3⟩
    · exact .inl h1
    · refine .inr ⟨λo' ho'=>?_,h3.trans hv⟩
      rcases List.mem_cons.1 ho' with rfl|ho'
      · exact hd
      · exact h1 o' ho'
theorem dO {a:Act} (hd:a.defers=a0.defers) (hs:a.tmps.size=a0.tmps.size) (ho:∀s,Out ops s→a.tmps.getD s undef=a0.tmps.getD s undef):a=bD a ops.toList a0:=by
 obtain⟨p1,p2⟩:=oE a ops.toList a0
 have key:∀s,s<a0.tmps.size→(bD a ops.toList a0).tmps.getD s undef=a.tmps.getD s undef:=by
  intro s hlt;rcases(sW a s ops.toList a0 hlt).1 with h|⟨h1,h2⟩
  · exact h
  · rw[h2,ho s h1]
 generalize bD a ops.toList a0=b at p1 p2 key
 obtain⟨t,d⟩:=a
 obtain⟨t',d'⟩:=b
 simp only at *
 subst hd p2
 congr 1
 apply Array.ext
 · omega
 · intro j h1 h2
   have:=key j (by omega);simp[Array.getD_eq_getD_getElem?,h1,h2] at this;exact this.symm
end
section
variable {P:Program} {md:Region.Mode} {ops:Array Oper} {Q:Exit→Act→World→Prop} {S:Array Bool→World→Prop} {A:Nat→Value→Prop} {a0:Act}
def rU (P:Program) (md:Region.Mode) (ops:Array Oper) (Q:Exit→Act→World→Prop) (S:Array Bool→World→Prop) (A:Nat→Value→Prop) (a0:Act) (i:Nat) (o:Oper):Prop:=
 ∀(listed:Array Bool) (a:Act) (w:World),listed.size=ops.size→listed.getD i true=false→S listed w→(∀j o e,ops[j]? =some o→listed.getD j false=true→e∈o.after→Region.binds md e=true→listed.getD e.on false=true)→
  (∀e∈o.after,Region.binds md e=true→∀ok d,ops[e.on]? =some ok→ok.dst=some d→A e.on (a.eval (.tmp d)))→(∀s,Out ops s→a.eval (.tmp s)=a0.eval (.tmp s))→
  ∀next:Act→World→Prop,(∀v w',A i v→S (listed.setIfInBounds i true) w'→next (a.put o.dst v) w')→o.wp P a w next Q
structure KT (md:Region.Mode) (ops:Array Oper) (S:Array Bool→World→Prop) (A:Nat→Value→Prop) (a0:Act) (listed:Array Bool) (a:Act) (w:World):Prop where
 inv:jA ops (λ_=>True) (λj v _=>A j v) a0 listed a w
 s:S listed w
 closed:∀j o e,ops[j]? =some o→listed.getD j false=true→e∈o.after→Region.binds md e=true→listed.getD e.on false=true
theorem qY (hf:gq md ops=true) (hd:eo ops a0.tmps.size=true)
 (hstep:∀i o,ops[i]? =some o→rU P md ops Q S A a0 i o)
 (hend:∀a w,a.defers=a0.defers→a.tmps.size=a0.tmps.size→(∀s,Out ops s→a.tmps.getD s undef=a0.tmps.getD s undef)→(∃listed:Array Bool,(∀j,j<ops.size→listed.getD j false=true)∧S listed w)→(∀j o d,ops[j]? =some o→o.dst=some d→A j (a.tmps.getD d undef))→Q .normal a w):
 ∀(fuel:Nat) (listed:Array Bool) (a:Act) (w:World),listed.toList.count false≤fuel→KT md ops S A a0 listed a w→wpAny P md ops Q fuel listed a w:=by
 have fin:∀(listed:Array Bool) (a:Act) (w:World),KT md ops S A a0 listed a w→Region.ready md ops listed=[]→Q .normal a w:=by
  intro listed a w h hr;have hall:=eM hf h.inv.size hr;exact hend a w h.inv.defers h.inv.tmps h.inv.out ⟨listed,hall,h.s⟩ λj o d hj js=>h.inv.at_ j o d hj js (hall j (Array.getElem?_eq_some_iff.1 hj).1)
 intro fuel
 induction fuel with
 | zero=>
  intro listed a w hc h;have hr:Region.ready md ops listed=[]:=by
   rcases hq:Region.ready md ops listed with _|⟨i,l⟩
   · rfl
   · exfalso
     have hm:i∈Region.ready md ops listed:=by rw[hq];exact List.mem_cons_self ..
     have:=count_set (mem_ready.1 hm).1;omega
  exact⟨hr,fin listed a w h hr⟩
 | succ fuel ih=>
  intro listed a w hc h;refine⟨fin listed a w h,λi hi=>?_⟩;obtain⟨hl,o,ho,bE⟩:=mem_ready.1 hi;have hg:o.guard=none:=by
   have hd2:=hd;unfold eo at hd2;rw[Bool.and_eq_true,List.all_eq_true] at hd2;have:=hd2.2 o (List.mem_of_getElem? (by rw[Array.getElem?_toList];exact ho));rw[Bool.and_eq_true,decide_eq_true_eq] at this;exact this.1
  unfold wpOp;simp only[ho];rw[if_pos (by simp[Region.wanted,hg])]
  left
  have hcs:=count_set hl;refine hstep i o ho listed a w h.inv.size hl h.s h.closed (λe he hb ok d hok iZ=>?_) (λs hs=>h.inv.out s hs) _ λv w' hv hS=>ih _ _ _ (by omega) ⟨?_,hS,λj oj e hj hlj he fS=>?_⟩
  · exact h.inv.at_ e.on ok d hok iZ (bE e he hb)
  · obtain⟨k1,k2,k3,k4,_,k6⟩:=h.inv.step hd (λ_ _ _ _ h _=>h) (λ_ _ _ _=>trivial) ho (v:=v) (w':=w) hv (zb _)
    exact⟨k1,k2,k3,k4,trivial,k6⟩
  · by_cases hij:i=j
    · subst hij
      rw[ho] at hj;cases hj;exact getD_set_true (bE e he fS)
    · rw[getD_set_ne false hij] at hlj
      exact getD_set_true (h.closed j oj e hj hlj he fS)
def tL (P:Program) (md:Region.Mode) (ops:Array Oper) (Q:Exit→Act→World→Prop) (S:Array Bool→World→Prop) (A:Nat→Value→Prop) (a0:Act):Nat→List Oper→Prop
 | _,[]=>True
 | k,o::l=>rU P md ops Q S A a0 k o∧tL P md ops Q S A a0 (k+1) l
theorem l5:∀(l:List Oper) (k:Nat),tL P md ops Q S A a0 k l→∀i o,l[i]? =some o→rU P md ops Q S A a0 (k+i) o
 | [],k,_,i,o,h=>by simp at h
 | x::l,k,hs,0,o,h=>by
  simp only[List.getElem?_cons_zero,Option.some.injEq] at h;subst h;exact hs.1
 | x::l,k,hs,i+1,o,h=>by
  rw[List.getElem?_cons_succ] at h;have:=l5 l (k+1) hs.2 i o h
  rwa [show k+1+i=k+(i+1) by omega] at this
theorem dW {id:Nat} {w:World} (hm:P.follows .mixedOrders=true) (hf:gq .any ops=true) (hd:eo ops a0.tmps.size=true) (hS:S (Array.replicate ops.size false) w.drew)
 (hstep:tL P .any ops Q S A a0 0 ops.toList)
 (hend:∀a w,a.defers=a0.defers→a.tmps.size=a0.tmps.size→(∀s,Out ops s→a.tmps.getD s undef=a0.tmps.getD s undef)→(∃listed:Array Bool,(∀j,j<ops.size→listed.getD j false=true)∧S listed w)→(∀j o d,ops[j]? =some o→o.dst=some d→A j (a.tmps.getD d undef))→Q .normal a w):
 (Code.region id ops true).wp P Q a0 w:=by
 refine wp_region_any hm (qY hf hd (λi o ho=>?_) hend ops.size _ a0 _ ?_ ⟨⟨by simp,rfl,rfl,λ_ _=>rfl,trivial,λj o d hj js hl=>?_⟩,hS,λj o e hj hl=>?_⟩)
 · have:=l5 ops.toList 0 hstep i o (by rw[Array.getElem?_toList];exact ho)
   rwa [Nat.zero_add] at this
 · simp
 · exfalso
   have hj2:=(Array.getElem?_eq_some_iff.1 hj).1;simp[Array.getD_eq_getD_getElem?,hj2] at hl
 · exfalso
   have hj2:=(Array.getElem?_eq_some_iff.1 hj).1;simp[Array.getD_eq_getD_getElem?,hj2] at hl
end
section
variable {P:Program} {md:Region.Mode} {ops:Array Oper} {Q:Exit→Act→World→Prop} {S:World→Prop} {A:Nat→Value→World→Prop} {a0:Act}
def jI (ops:Array Oper) (h s:Nat):Prop:=∀j o,j<h→ops[j]? =some o→o.dst≠some s
def Ir (ops:Array Oper) (h s:Nat):Bool:=(ops.toList.take h).all λo=> !decide (o.dst=some s)
theorem dZ {h s:Nat} (hb:Ir ops h s=true):jI ops h s:=by
 intro j o hj ho e
 unfold Ir at hb
 rw[List.all_eq_true] at hb
 have:=hb o (List.mem_of_getElem? (i:=j) (by rw[List.getElem?_take_of_lt hj,Array.getElem?_toList];exact ho))
 simp[e] at this
def rV (P:Program) (md:Region.Mode) (ops:Array Oper) (Q:Exit→Act→World→Prop) (S:World→Prop) (A:Nat→Value→World→Prop) (a0:Act) (h i:Nat) (o:Oper):Prop:=
 ∀(a:Act) (w:World),S w→(∀e∈o.after,Region.binds md e=true→∀ok d,ops[e.on]? =some ok→ok.dst=some d→A e.on (a.eval (.tmp d)) w)→(∀s,jI ops h s→a.eval (.tmp s)=a0.eval (.tmp s))→
  ∀next:Act→World→Prop,(∀v w',A i v w'→Below w.heap.size w w'→next (a.put o.dst v) w')→o.wp P a w next Q
structure G9 (md:Region.Mode) (ops:Array Oper) (h:Nat) (S:World→Prop) (A:Nat→Value→World→Prop) (a0:Act) (listed:Array Bool) (a:Act) (w:World):Prop where
 inv:jA ops S A a0 listed a w
 tail:∀j,h≤j→j<ops.size→listed.getD j true=false
 closed:∀j o e,ops[j]? =some o→listed.getD j false=true→e∈o.after→Region.binds md e=true→listed.getD e.on false=true
 qB:∀s,jI ops h s→a.tmps.getD s undef=a0.tmps.getD s undef
theorem xI {h : Nat} (hh : h < ops.size) (hf : gq md ops = true) (hb : iF md ops h = true) (hd : eo ops a0.tmps.size = true) (hA : ∀ j v w w', A j v w → Below w.heap.size w w' → A j v w') (fR : ∀ w w', S w → Below w.heap.size w w' → S w')
 (hstep:∀i o,i<h→ops[i]? =some o→rV P md ops Q S A a0 h i o)
 (hend:∀a w,a.defers=a0.defers→a.tmps.size=a0.tmps.size→(∀s,jI ops h s→a.tmps.getD s undef=a0.tmps.getD s undef)→S w→(∀j o d,j<h→ops[j]? =some o→o.dst=some d→A j (a.tmps.getD d undef) w)→wpAny P md ops Q (ops.size - h) (Array.replicate h true++Array.replicate (ops.size - h) false) a w):
 ∀(fuel:Nat) (listed:Array Bool) (a:Act) (w:World),listed.toList.count false=fuel→G9 md ops h S A a0 listed a w→wpAny P md ops Q fuel listed a w:=by
 have fin:∀(listed:Array Bool) (a:Act) (w:World),G9 md ops h S A a0 listed a w→h∈Region.ready md ops listed→wpAny P md ops Q (listed.toList.count false) listed a w:=by
  intro listed a w hI hr;have hall:=pZ hb hI.closed hr;have vZ:listed=Array.replicate h true++Array.replicate (ops.size - h) false:=by
   apply Array.ext
   · rw[hI.inv.size];simp;omega
   · intro j h1 h2
     rw[Array.getElem_append];split
     · rename_i hj
       have:=hall j (by simpa using hj);simp[Array.getD_eq_getD_getElem?,h1] at this;simp[this]
     · rename_i hj
       have:=hI.tail j (by simpa using hj) (by rw[←hI.inv.size];exact h1);simp[Array.getD_eq_getD_getElem?,h1] at this;simp[this]
  have yq:listed.toList.count false=ops.size - h:=by
   rw[vZ];simp[List.count_append,List.count_replicate]
  rw[yq,vZ];exact hend a w hI.inv.defers hI.inv.tmps hI.qB hI.inv.s λj o d hj JA js=>hI.inv.at_ j o d JA js (hall j hj)
 intro fuel
 induction fuel with
 | zero=>
  intro listed a w hc hI;exfalso;have h0:=hI.tail h zr hh;have:=count_set h0;omega
 | succ fuel ih =>
  intro listed a w hc hI
  by_cases hr:h∈Region.ready md ops listed
  · rw[←hc];exact fin listed a w hI hr
  · refine ⟨fun MF => ?_, fun i hi => ?_⟩
    · exfalso
      have:=eM hf hI.inv.size MF h hh;have h0:=hI.tail h zr hh;have Fu:h<listed.size:=by rw[hI.inv.size];exact hh
      simp[Array.getD_eq_getD_getElem?,Fu] at this h0;rw[this] at h0;cases h0
    · obtain⟨hl,o,ho,bE⟩:=mem_ready.1 hi
      have Mn : i < ops.size := (Array.getElem?_eq_some_iff.1 ho).1;have hih : i < h := by
       rcases Nat.lt_trichotomy i h with h'|h'|h'
       · exact h'
       · exact absurd (h'▸hi) hr
       · exfalso
         unfold iF at hb;rw[Bool.and_eq_true,List.all_eq_true,List.all_eq_true] at hb;have:=hb.2 i (List.mem_range.2 Mn);rw[ho] at this;simp only[Option.map_some,Option.getD_some,Bool.or_eq_true,decide_eq_true_eq,Array.any_eq_true,Bool.and_eq_true] at this;rcases this with this|⟨x,hx,gU,hon⟩
         · omega
         · have h1:=bE _ (Array.getElem_mem hx) gU
           have hlt:(o.after[x]).on<ops.size:=by
            rw[←hI.inv.size];rcases Nat.lt_or_ge (o.after[x]).on listed.size with h'|h'
            · exact h'
            · simp[Array.getD_eq_getD_getElem?,Array.getElem?_eq_none h'] at h1
           have h2:=hI.tail _ hon hlt;have hlt2:(o.after[x]).on<listed.size:=by rw[hI.inv.size];exact hlt
           simp[Array.getD_eq_getD_getElem?,hlt2] at h1 h2;rw[h1] at h2;cases h2
      have hg:o.guard=none:=by
       unfold eo at hd;rw[Bool.and_eq_true,List.all_eq_true] at hd;have:=hd.2 o (List.mem_of_getElem? (by rw[Array.getElem?_toList];exact ho));rw[Bool.and_eq_true,decide_eq_true_eq] at this;exact this.1
      unfold wpOp;simp only[ho];rw[if_pos (by simp[Region.wanted,hg])]
      left
      have hcs:=count_set hl;refine hstep i o hih ho a w hI.inv.s (λe he fS ok d hok iZ=>?_) (λs hs=>hI.qB s hs) _ λv w' hv Ab=>ih _ _ _ (by omega) ⟨hI.inv.step hd hA fR ho hv Ab,λj hj Mp=>?_,λj oj e hj hlj he fS=>?_,λs hs=>?_⟩
      · exact hI.inv.at_ e.on ok d hok iZ (bE e he fS)
      · rw[getD_set_ne true (by omega)]
        exact hI.tail j hj Mp
      · by_cases hij:i=j
        · subst hij
          rw[ho] at hj;cases hj;exact getD_set_true (bE e he fS)
        · rw[getD_set_ne false hij] at hlj
          exact getD_set_true (hI.closed j oj e hj hlj he fS)
      · rw[←hI.qB s hs]
        rcases e:o.dst with _|d
        · rfl
        · exact eY (λe2=>hs i o hih ho (by rw[e,e2]))
theorem oV {id:Nat} {w:World} (h:Nat) (hm:P.follows .mixedOrders=true) (hh:h<ops.size) (hf:gq .any ops=true) (hb:iF .any ops h=true) (hd:eo ops a0.tmps.size=true) (hA:∀j v w w',A j v w→Below w.heap.size w w'→A j v w') (fR:∀w w',S w→Below w.heap.size w w'→S w') (hS:S w.drew)
 (hstep:∀i o,i<h→ops[i]? =some o→rV P .any ops Q S A a0 h i o)
 (hend:∀a w,a.defers=a0.defers→a.tmps.size=a0.tmps.size→(∀s,jI ops h s→a.tmps.getD s undef=a0.tmps.getD s undef)→S w→(∀j o d,j<h→ops[j]? =some o→o.dst=some d→A j (a.tmps.getD d undef) w)→wpAny P .any ops Q (ops.size - h) (Array.replicate h true++Array.replicate (ops.size - h) false) a w):
 (Code.region id ops true).wp P Q a0 w:=by
 refine wp_region_any hm (xI hh hf hb hd hA fR hstep hend ops.size _ a0 _ ?_ ⟨⟨by simp,rfl,rfl,λ_ _=>rfl,hS,λj o d hj js hl=>?_⟩,λj _ hj=>?_,λj o e hj hl=>?_,λ_ _=>rfl⟩)
 · simp
 · exfalso
   have hj2:=(Array.getElem?_eq_some_iff.1 hj).1;simp[Array.getD_eq_getD_getElem?,hj2] at hl
 · simp[Array.getD_eq_getD_getElem?,hj]
 · exfalso
   have hj2:=(Array.getElem?_eq_some_iff.1 hj).1;simp[Array.getD_eq_getD_getElem?,hj2] at hl
def tM (P:Program) (md:Region.Mode) (ops:Array Oper) (Q:Exit→Act→World→Prop) (S:World→Prop) (A:Nat→Value→World→Prop) (a0:Act) (h:Nat):Nat→List Oper→Prop
 | _,[]=>True
 | k,o::l=>rV P md ops Q S A a0 h k o∧tM P md ops Q S A a0 h (k+1) l
theorem qN {h:Nat}:∀(l:List Oper) (k:Nat),tM P md ops Q S A a0 h k l→∀i o,l[i]? =some o→rV P md ops Q S A a0 h (k+i) o
 | [],_,_,i,o,ho=>by simp at ho
 | x::l,k,hs,0,o,ho=>by
  simp only[List.getElem?_cons_zero,Option.some.injEq] at ho;subst ho;exact hs.1
 | x::l,k,hs,i+1,o,ho=>by
  rw[List.getElem?_cons_succ] at ho;have:=qN l (k+1) hs.2 i o ho
  rwa [Nat.add_assoc,Nat.add_comm 1 i] at this
theorem xC {h:Nat} (hs:tM P md ops Q S A a0 h 0 (ops.toList.take h)):∀i o,i<h→ops[i]? =some o→rV P md ops Q S A a0 h i o:=by
 intro i o hi ho
 have:=qN (ops.toList.take h) 0 hs i o (by rw[List.getElem?_take_of_lt hi,Array.getElem?_toList];exact ho)
 rwa [Nat.zero_add] at this
theorem ng {h:Nat} {a:Act} (hd:a.defers=a0.defers) (hs:a.tmps.size=a0.tmps.size) (ho:∀s,jI ops h s→a.tmps.getD s undef=a0.tmps.getD s undef):a=bD a (ops.toList.take h) a0:=by
 refine(dO (ops:=(ops.toList.take h).toArray) hd hs λs hs=>ho s λj o hj JA e=>hs o ?_ e)
 simp only
 exact List.mem_of_getElem? (i:=j) (by rw[List.getElem?_take_of_lt hj,Array.getElem?_toList];exact JA)
end
section
variable {P:Program} {md:Region.Mode} {ops:Array Oper} {Q:Exit→Act→World→Prop} {S:World→Prop} {A:Nat→Value→World→Prop} {a0:Act}
def AZ (ops:Array Oper) (n:Nat):Bool:=decide ((ops.toList.filterMap (·.dst)).Nodup)&&ops.toList.all (λo=>match o.dst with|some d=>decide (d<n)|none=>true)
def CX (P:Program) (md:Region.Mode) (ops:Array Oper) (Q:Exit→Act→World→Prop) (S:World→Prop) (A:Nat→Value→World→Prop) (a0:Act) (h i:Nat) (o:Oper):Prop:=
 ∀ (a : Act) (w : World), S w → (∀ e ∈ o.after, Region.binds md e = true → ∀ ok d, ops[e.on]? = some ok → ok.dst = some d → A e.on (a.eval (.tmp d)) w) → (∀ s, jI ops h s → a.eval (.tmp s) = a0.eval (.tmp s)) →
  ∀next:Act→World→Prop,(∀v w',A i v w'→Below w.heap.size w w'→next (a.put o.dst v) w')→
   if Region.wanted o (yielded ops a.tmps)=true then o.wp P a w next Q∨(o.asks P a w∧LetsOut Q) else next (a.put o.dst undef) w
structure FE (md:Region.Mode) (ops:Array Oper) (h:Nat) (S:World→Prop) (A:Nat→Value→World→Prop) (a0:Act) (listed:Array Bool) (a:Act) (w:World):Prop where
 size:listed.size=ops.size
 defers:a.defers=a0.defers
 tmps:a.tmps.size=a0.tmps.size
 s:S w
 at_:∀j o d,ops[j]? =some o→o.dst=some d→listed.getD j false=true→A j (a.tmps.getD d undef) w
 qB:∀s,jI ops h s→a.tmps.getD s undef=a0.tmps.getD s undef
 tail:listed.getD h true=false
 closed:∀j o e,ops[j]? =some o→listed.getD j false=true→e∈o.after→Region.binds md e=true→listed.getD e.on false=true
theorem FE.step {h:Nat} (hd:AZ ops a0.tmps.size=true) (hA:∀j v w w',A j v w→Below w.heap.size w w'→A j v w') (fR:∀w w',S w→Below w.heap.size w w'→S w')
 {listed:Array Bool} {a:Act} {w w':World} (hI:FE md ops h S A a0 listed a w) {i:Nat} (hih:i<h) {o:Oper} (ho:ops[i]? =some o) (bE:∀e∈o.after,Region.binds md e=true→listed.getD e.on false=true) {v:Value} (hv:A i v w') (hb:Below w.heap.size w w'):FE md ops h S A a0 (listed.setIfInBounds i true) (a.put o.dst v) w':=by
 unfold AZ at hd
 rw[Bool.and_eq_true,decide_eq_true_eq,List.all_eq_true] at hd
 have hol:ops.toList[i]? =some o:=by rw[Array.getElem?_toList];exact ho
 have hlt:∀d,o.dst=some d→d<a0.tmps.size:=by
  intro d e;have:=hd.2 o (List.mem_of_getElem? hol);rw[e] at this
  simpa using this
 refine⟨by simp[hI.size],?_,?_,fR _ _ hI.s hb,?_,?_,?_,?_⟩
 · rw[←hI.defers];cases o.dst<;>rfl
 · rw[←hI.tmps];cases o.dst<;>simp[Act.put]
 · intro j oj d hj js hl
   by_cases hij:i=j
   · subst hij
     rw[ho] at hj;cases hj;rw[js,dB (by rw[hI.tmps];exact hlt d js)];exact hv
   · rw [getD_set_ne false hij] at hl
     have:=hA _ _ _ _ (hI.at_ j oj d hj js hl) hb;rcases e:o.dst with _|d2
     · exact this
     · rw[eY]
       · exact this
       · rintro rfl
         exact hij (jU hd.1 hol (by rw[Array.getElem?_toList];exact hj) e js)
 · intro s hs
   rw[←hI.qB s hs];rcases e:o.dst with _|d
   · rfl
   · exact eY (λe2=>hs i o hih ho (by rw[e,e2]))
 · rw[getD_set_ne true (by omega)]
   exact hI.tail
 · intro j oj e hj hlj he fS
   by_cases hij:i=j
   · subst hij
     rw[ho] at hj;cases hj;exact getD_set_true (bE e he fS)
   · rw[getD_set_ne false hij] at hlj
     exact getD_set_true (hI.closed j oj e hj hlj he fS)
theorem zm {listed:Array Bool} (h:∀j,j<ops.size→listed.getD j true=true):Region.ready md ops listed=[]:=by
 unfold Region.ready
 rw[List.filter_eq_nil_iff]
 intro j hj
 simp[h j (List.mem_range.1 hj)]
theorem G2 {h:Nat} (hsz:ops.size=h+1) (hf:gq md ops=true) (hb:iF md ops h=true) (hd:AZ ops a0.tmps.size=true) (hA:∀j v w w',A j v w→Below w.heap.size w w'→A j v w') (fR:∀w w',S w→Below w.heap.size w w'→S w')
 (hstep:∀i o,ops[i]? =some o→CX P md ops Q S A a0 h i o)
 (hend:∀(a:Act) (w:World) (v:Value) (w':World) (o:Oper),a.defers=a0.defers→a.tmps.size=a0.tmps.size→(∀s,jI ops h s→a.tmps.getD s undef=a0.tmps.getD s undef)→S w→(∀j o d,j<h→ops[j]? =some o→o.dst=some d→A j (a.tmps.getD d undef) w)→ops[h]? =some o→A h v w'→Below w.heap.size w w'→Q .normal (a.put o.dst v) w'):
 ∀(fuel:Nat) (listed:Array Bool) (a:Act) (w:World),listed.toList.count false=fuel→FE md ops h S A a0 listed a w→wpAny P md ops Q fuel listed a w:=by
 have hh:h<ops.size:=by omega
 intro fuel
 induction fuel with
 | zero=>
  intro listed a w hc hI;exfalso;have:=count_set hI.tail;omega
 | succ fuel ih=>
  intro listed a w hc hI;refine⟨λMF=>?_,λi hi=>?_⟩
  · exfalso
    have:=eM hf hI.size MF h hh;have h0:=hI.tail;have Fu:h<listed.size:=by rw[hI.size];exact hh
    simp[Array.getD_eq_getD_getElem?,Fu] at this h0;rw[this] at h0;cases h0
  · obtain⟨hl,o,ho,bE⟩:=mem_ready.1 hi
    have Mn:i<ops.size:=(Array.getElem?_eq_some_iff.1 ho).1;unfold wpOp;simp only[ho];have hcs:=count_set hl;refine hstep i o ho a w hI.s (λe he fS ok d hok iZ=>hI.at_ e.on ok d hok iZ (bE e he fS)) (λs hs=>hI.qB s hs) _ λv w' hv Ab=>?_
    by_cases hih:i=h
    · subst hih
      have hall:=pZ hb hI.closed hi;have dL:∀j,j<ops.size→(listed.setIfInBounds i true).getD j true=true:=by
       intro j hj
       by_cases hij:i=j
       · subst hij
         simp[Array.getD_eq_getD_getElem?,hI.size,Mn]
       · have h1:=hall j (by omega)
         rw[getD_set_ne true hij];have Mp:j<listed.size:=by rw[hI.size];exact hj
         simp[Array.getD_eq_getD_getElem?,Mp] at h1 ⊢;exact h1
      have hq:=hend a w v w' o hI.defers hI.tmps hI.qB hI.s (λj oj d hj JA js=>hI.at_ j oj d JA js (hall j hj)) ho hv Ab;have hr:=zm (md:=md) dL;cases fuel with
      | zero=>exact⟨hr,hq⟩
      | succ f=>exact⟨λ_=>hq,λk hk=>by rw[hr] at hk;cases hk⟩
    · exact ih _ _ _ (by omega) (hI.step hd hA fR (by omega) ho bE hv Ab)
theorem xM {id:Nat} {w:World} (h:Nat) (hm:P.follows .mixedOrders=true) (hsz:ops.size=h+1) (hf:gq .any ops=true) (hb:iF .any ops h=true) (hd:AZ ops a0.tmps.size=true) (hA:∀j v w w',A j v w→Below w.heap.size w w'→A j v w') (fR:∀w w',S w→Below w.heap.size w w'→S w') (hS:S w.drew)
 (hstep:∀i o,ops[i]? =some o→CX P .any ops Q S A a0 h i o)
 (hend:∀(a:Act) (w:World) (v:Value) (w':World) (o:Oper),a.defers=a0.defers→a.tmps.size=a0.tmps.size→(∀s,jI ops h s→a.tmps.getD s undef=a0.tmps.getD s undef)→S w→(∀j o d,j<h→ops[j]? =some o→o.dst=some d→A j (a.tmps.getD d undef) w)→ops[h]? =some o→A h v w'→Below w.heap.size w w'→Q .normal (a.put o.dst v) w'):
 (Code.region id ops true).wp P Q a0 w:=by
 refine wp_region_any hm (G2 hsz hf hb hd hA fR hstep hend ops.size _ a0 _ ?_ ⟨by simp,rfl,rfl,hS,λj o d hj js hl=>?_,λ_ _=>rfl,?_,λj o e hj hl=>?_⟩)
 · simp
 · exfalso
   have hj2:=(Array.getElem?_eq_some_iff.1 hj).1;simp[Array.getD_eq_getD_getElem?,hj2] at hl
 · simp[Array.getD_eq_getD_getElem?,hsz]
 · exfalso
   have hj2:=(Array.getElem?_eq_some_iff.1 hj).1;simp[Array.getD_eq_getD_getElem?,hj2] at hl
end
section
variable {P:Program} {md:Region.Mode} {ops:Array Oper} {Q:Exit→Act→World→Prop} {S S2 S3:World→Prop} {A:Nat→Value→World→Prop} {a0:Act} {Ah:Value→World→Prop} {v1:Value}
def jL (md:Region.Mode) (ops:Array Oper) (h:Nat):Bool:=
 (List.range h).all (λj=>(List.range (h+1)).any λk=>decide (j<k)&&((ops[k]?).map λo=>o.after.any λe=>Region.binds md e&&decide (e.on=j)).getD false)
def kY (md:Region.Mode) (ops:Array Oper) (h n:Nat):Bool:=((ops[h+2]?).map λo=>o.after.any λe=>Region.binds md e&&decide (e.on=n)).getD false
theorem nk {h:Nat} (hb:jL md ops h=true) {listed:Array Bool} (hc:∀j o e,ops[j]? =some o→listed.getD j false=true→e∈o.after→Region.binds md e=true→listed.getD e.on false=true)
 (hr:∀o e,ops[h]? =some o→e∈o.after→Region.binds md e=true→listed.getD e.on false=true):∀j,j<h→listed.getD j false=true:=by
 unfold jL at hb
 rw[List.all_eq_true] at hb
 have key:∀n j,j<h→h - j≤n→listed.getD j false=true:=by
  intro n
  induction n with
  | zero=>intro j hj hn;omega
  | succ n ih=>
   intro j hj hn;have:=hb j (List.mem_range.2 hj);rw[List.any_eq_true] at this;obtain⟨k,hk,hkk⟩:=this;rw[Bool.and_eq_true,decide_eq_true_eq] at hkk;have hk':=List.mem_range.1 hk;rcases hok:ops[k]? with _|o
   · rw[hok] at hkk;simp at hkk
   · rw[hok] at hkk
     simp only[Option.map_some,Option.getD_some,Array.any_eq_true,Bool.and_eq_true,decide_eq_true_eq] at hkk;obtain⟨hjk,x,hx,gU,hon⟩:=hkk
     by_cases hkh:k=h
     · subst hkh
       rw[←hon];exact hr _ _ hok (Array.getElem_mem hx) gU
     · have hl:=ih k (by omega) (by omega)
       rw[←hon];exact hc k o _ hok hl (Array.getElem_mem hx) gU
 intro j hj
 exact key (h - j) j hj zr
theorem Ak {h n:Nat} (hb:kY md ops h n=true) {listed:Array Bool} (hr:∀o e,ops[h+2]? =some o→e∈o.after→Region.binds md e=true→listed.getD e.on false=true):listed.getD n false=true:=by
 unfold kY at hb
 rcases hok:ops[h+2]? with _|o
 · rw[hok] at hb;simp at hb
 · rw[hok] at hb
   simp only[Option.map_some,Option.getD_some,Array.any_eq_true,Bool.and_eq_true,decide_eq_true_eq] at hb;obtain⟨x,hx,gU,hon⟩:=hb;rw[←hon];exact hr _ _ hok (Array.getElem_mem hx) gU
def KU (h:Nat) (Ah:Value→World→Prop) (v1:Value):Nat→Value→World→Prop:=λj v w=>(j=h→Ah v w)∧(j=h+1→v=v1)
inductive FD (md:Region.Mode) (ops:Array Oper) (h:Nat) (S S2 S3:World→Prop) (A:Nat→Value→World→Prop) (Ah:Value→World→Prop) (v1:Value) (a0:Act) (listed:Array Bool) (a:Act) (w:World):Prop
 | head (hi:jA ops S (λj v w=>if j<h then A j v w else j=h+1→v=v1) a0 listed a w) (h1:listed.getD h true=false) (h2:listed.getD (h+2) true=false)
 | tail (hi:jA ops S2 (KU h Ah v1) a0 listed a w) (h1:listed.getD h false=true) (h2:listed.getD (h+2) true=false)
 | done (hi:jA ops S3 (λ_ _ _=>True) a0 listed a w) (h1:∀j,j<ops.size→listed.getD j false=true)
theorem eF {l:Array Bool} {i:Nat} (h:l.getD i true=false) (h':l.getD i false=true):False:=by
 rcases Nat.lt_or_ge i l.size with hi|hi
 · simp[Array.getD_eq_getD_getElem?,hi] at h h'
   rw[h] at h';cases h'
 · simp[Array.getD_eq_getD_getElem?,hi] at h
theorem tB {h : Nat} (hf : gq md ops = true) (hsz : ops.size = h + 3) (he : jL md ops h = true) (hl0 : kY md ops h h = true) (hl1 : kY md ops h (h + 1) = true) (hd : eo ops a0.tmps.size = true)
 (hA:∀j v w w',A j v w→Below w.heap.size w w'→A j v w') (fR:∀w w',S w→Below w.heap.size w w'→S w') (A8:∀v w w',Ah v w→Below w.heap.size w w'→Ah v w') (jO:∀w w',S2 w→Below w.heap.size w w'→S2 w')
 (hstep:∀i o,i<h→ops[i]? =some o→mZ P md ops Q S A a0 i o)
 (nD:∀o,ops[h]? =some o→∀a w,S w→(∀j oj d,j<h→ops[j]? =some oj→oj.dst=some d→A j (a.eval (.tmp d)) w)→(∀s,Out ops s→a.eval (.tmp s)=a0.eval (.tmp s))→∀next:Act→World→Prop,(∀v w',Ah v w'→S2 w'→next (a.put o.dst v) w')→o.wp P a w next Q)
 (hmid:∀o,ops[h+1]? =some o→∀a w,(∀s,Out ops s→a.eval (.tmp s)=a0.eval (.tmp s))→∀next:Act→World→Prop,next (a.put o.dst v1) w→o.wp P a w next Q)
 (nG:∀o oh d o1 d1,ops[h+2]? =some o→ops[h]? =some oh→oh.dst=some d→ops[h+1]? =some o1→o1.dst=some d1→∀a w,S2 w→Ah (a.eval (.tmp d)) w→a.eval (.tmp d1)=v1→(∀s,Out ops s→a.eval (.tmp s)=a0.eval (.tmp s))→∀next:Act→World→Prop,(∀v w',S3 w'→next (a.put o.dst v) w')→o.wp P a w next Q)
 (Uy:∃oh d o1 d1,ops[h]? =some oh∧oh.dst=some d∧ops[h+1]? =some o1∧o1.dst=some d1)
 (hend:∀a w,a.defers=a0.defers→a.tmps.size=a0.tmps.size→(∀s,Out ops s→a.tmps.getD s undef=a0.tmps.getD s undef)→S3 w→Q .normal a w):
 ∀(fuel:Nat) (listed:Array Bool) (a:Act) (w:World),listed.toList.count false≤fuel→(∀j o e,ops[j]? =some o→listed.getD j false=true→e∈o.after→Region.binds md e=true→listed.getD e.on false=true)→FD md ops h S S2 S3 A Ah v1 a0 listed a w→wpAny P md ops Q fuel listed a w:=by
 have hsize:∀{listed:Array Bool} {a:Act} {w:World},FD md ops h S S2 S3 A Ah v1 a0 listed a w→listed.size=ops.size:=λhI=>by
  cases hI with
  | head hi _ _=>exact hi.size
  | tail hi _ _=>exact hi.size
  | done hi _=>exact hi.size
 have fin:∀(listed:Array Bool) (a:Act) (w:World),FD md ops h S S2 S3 A Ah v1 a0 listed a w→Region.ready md ops listed=[]→Q .normal a w:=by
  intro listed a w hI hr;have hall:=eM hf (hsize hI) hr;cases hI with
  | head hi _ h2=>exact(eF h2 (hall (h+2) (by omega))).elim
  | tail hi _ h2=>exact(eF h2 (hall (h+2) (by omega))).elim
  | done hi _=>exact hend a w hi.defers hi.tmps hi.out hi.s
 intro fuel
 induction fuel with
 | zero=>
  intro listed a w hc _ hI;have hr:Region.ready md ops listed=[]:=by
   rcases hq:Region.ready md ops listed with _|⟨i,l⟩
   · rfl
   · exfalso
     have hm:i∈Region.ready md ops listed:=by rw[hq];exact List.mem_cons_self ..
     have:=count_set (mem_ready.1 hm).1;omega
  exact⟨hr,fin listed a w hI hr⟩
 | succ fuel ih =>
  intro listed a w hc hcl hI;refine⟨fin listed a w hI,λi him=>?_⟩;obtain⟨hl,o,ho,bE⟩:=mem_ready.1 him;have hg:o.guard=none:=by
   have hd2:=hd;unfold eo at hd2;rw[Bool.and_eq_true,List.all_eq_true] at hd2;have:=hd2.2 o (List.mem_of_getElem? (by rw[Array.getElem?_toList];exact ho));rw[Bool.and_eq_true,decide_eq_true_eq] at this;exact this.1
  have hin:i<ops.size:=(Array.getElem?_eq_some_iff.1 ho).1;have hls:=hsize hI;have dL:∀j,i≠j→(listed.setIfInBounds i true).getD j true=listed.getD j true:=λj hij=>getD_set_ne true hij
  have wj:(listed.setIfInBounds i true).getD i false=true:=by
   simp[Array.getD_eq_getD_getElem?,hls,hin]
  unfold wpOp;simp only[ho];rw[if_pos (by simp[Region.wanted,hg])]
  left
  have hcs:=count_set hl;have next:∀v w',FD md ops h S S2 S3 A Ah v1 a0 (listed.setIfInBounds i true) (a.put o.dst v) w'→wpAny P md ops Q fuel (listed.setIfInBounds i true) (a.put o.dst v) w':=by
   intro v w' OZ;refine ih _ _ _ (by omega) (λj oj e hj hlj hee fS=>?_) OZ
   by_cases hij:i=j
   · subst hij
     rw[ho] at hj;cases hj;exact getD_set_true (bE e hee fS)
   · rw[getD_set_ne false hij] at hlj
     exact getD_set_true (hcl j oj e hj hlj hee fS)
  have DL:(∀o e,ops[h]? =some o→e∈o.after→Region.binds md e=true→listed.getD e.on false=true)→∀j,j<h→listed.getD j false=true:=nk he hcl
  cases hI with
  | done _ h1=>exact(eF hl (h1 i hin)).elim
  | head hi h1 h2 =>
   rcases Nat.lt_trichotomy i h with hih|hih|hih
   · refine hstep i o hih ho a w hi.s (λe hee fS ok d hok iZ=>?_) (λs hs=>hi.out s hs) _ λv w' hv Ab=>next v w' (.head (hi.step hd ?_ fR ho ?_ Ab) ?_ ?_)
     · have hlt:e.on<i:=by
        have xT:=hf;unfold gq at xT;rw[List.all_eq_true] at xT;have:=xT i (List.mem_range.2 hin);rw[ho] at this;simp only[Option.map_some,Option.getD_some,Array.all_eq_true_iff_forall_mem] at this;have:=this e hee
        simpa[fS] using this
       have:=hi.at_ e.on ok d hok iZ (bE e hee fS)
       rwa [if_pos (by omega)] at this
     · intro j v w w' hv hb
       split
       · rename_i hj;rw[if_pos hj] at hv;exact hA _ _ _ _ hv hb
       · rename_i hj;rw[if_neg hj] at hv;exact hv
     · rw[if_pos hih];exact hv
     · rw[dL h (by omega)];exact h1
     · rw[dL (h+2) (by omega)];exact h2
   · subst hih
     have hall:=DL λo' e ho' hee fS=>by
      rw[ho] at ho';cases ho';exact bE e hee fS
     refine nD o ho a w hi.s (λj oj d hj jt jR=>?_) (λs hs=>hi.out s hs) _ λv w' hv hs2=>next v w' (.tail ?_ wj ?_)
     · have:=hi.at_ j oj d jt jR (hall j hj)
       rwa [if_pos hj] at this
     · have hi':jA ops (λ_=>True) (λj v _=>j=i+1→v=v1) a0 listed a w:=⟨hi.size,hi.defers,hi.tmps,hi.out,trivial,λj oj d jt jR hlj hj=>by
        have:=hi.at_ j oj d jt jR hlj;rw[if_neg (by omega)] at this;exact this hj⟩
       have hs:=hi'.step hd (λ_ _ _ _ h _=>h) (λ_ _ _ _=>trivial) ho (v:=v) (w':=w) (λh=>by omega) (zb _);refine⟨hs.size,hs.defers,hs.tmps,hs.out,hs2,λj oj d jt jR hlj=>⟨λhj=>?_,hs.at_ j oj d jt jR hlj⟩⟩;subst hj;rw[ho] at jt;cases jt;rw[jR,dB]
       · exact hv
       · rw[hi.tmps]
         have hd2:=hd;unfold eo at hd2;rw[Bool.and_eq_true,List.all_eq_true] at hd2;have:=hd2.2 o (List.mem_of_getElem? (by rw[Array.getElem?_toList];exact ho));rw[jR] at this;simp at this;exact this.2
     · rw[dL (i+2) (by omega)];exact h2
   · rcases(show i=h+1∨i=h+2 by omega) with rfl|rfl
     · refine hmid o ho a w (λs hs=>hi.out s hs) _ (next v1 w (.head (hi.step hd ?_ fR ho ?_ (zb _)) ?_ ?_))
       · intro j v w w' hv hb
         split
         · rename_i hj;rw[if_pos hj] at hv;exact hA _ _ _ _ hv hb
         · rename_i hj;rw[if_neg hj] at hv;exact hv
       · rw[if_neg (by omega)];exact λ_=>rfl
       · rw[dL h (by omega)];exact h1
       · rw[dL (h+2) (by omega)];exact h2
     · refine(eF h1 (Ak hl0 (listed:=listed) λo' e ho' hee fS=>?_)).elim
       rw[ho] at ho';cases ho';exact bE e hee fS
  | tail hi h1 h2 =>
   have hall:=DL λo' e ho' hee fS=>hcl h o' e ho' h1 hee fS
   rcases Nat.lt_trichotomy i h with hih|hih|hih
   · exact(eF hl (hall i hih)).elim
   · subst hih;exact(eF hl h1).elim
   · rcases(show i=h+1∨i=h+2 by omega) with rfl|rfl
     · refine hmid o ho a w (λs hs=>hi.out s hs) _ (next v1 w (.tail (hi.step hd ?_ jO ho ?_ (zb _)) ?_ ?_))
       · intro j v w w' hv hb
         exact⟨λe=>A8 _ _ _ (hv.1 e) hb,hv.2⟩
       · exact⟨λe=>by omega,λ_=>rfl⟩
       · exact getD_set_true h1
       · rw[dL (h+2) (by omega)];exact h2
     · have hr:∀o' e,ops[h+2]? =some o'→e∈o'.after→Region.binds md e=true→listed.getD e.on false=true:=λo' e ho' hee fS=>by
        rw[ho] at ho';cases ho';exact bE e hee fS
       have CH:=Ak hl1 hr;obtain⟨oh,d,o1,d1,k1,k2,k3,k4⟩:=Uy;refine nG o oh d o1 d1 ho k1 k2 k3 k4 a w hi.s ((hi.at_ h oh d k1 k2 h1).1 rfl) ((hi.at_ (h+1) o1 d1 k3 k4 CH).2 rfl) (λs hs=>hi.out s hs) _ λv w' sF=>next v w' (.done ?_ λj hj=>?_)
       · have hi':jA ops (λ_=>True) (λ_ _ _=>True) a0 listed a w:=⟨hi.size,hi.defers,hi.tmps,hi.out,trivial,λ_ _ _ _ _ _=>trivial⟩
         have hs:=hi'.step hd (λ_ _ _ _ _ _=>trivial) (λ_ _ _ _=>trivial) ho (v:=v) (w':=w) trivial (zb _);exact⟨hs.size,hs.defers,hs.tmps,hs.out,sF,λ_ _ _ _ _ _=>trivial⟩
       · by_cases hij:j=h+2
         · subst hij;exact wj
         · refine getD_set_true ?_
           rcases Nat.lt_trichotomy j h with hj2|rfl|hj2
           · exact hall j hj2
           · exact h1
           · rw[show j=h+1 by omega];exact CH
theorem rS {id:Nat} {w:World} {oa om os:Oper} {da dm:Nat} (h:Nat) (hm:P.follows .mixedOrders=true) (hf:gq .any ops=true) (hsz:ops.size=h+3) (he:jL .any ops h=true) (hl0:kY .any ops h h=true) (hl1:kY .any ops h (h+1)=true) (hd:eo ops a0.tmps.size=true) (ha:ops[h]? =some oa) (hb:ops[h+1]? =some om) (hc:ops[h+2]? =some os) (hda:oa.dst=some da) (Gg:om.dst=some dm)
 (hA:∀j v w w',A j v w→Below w.heap.size w w'→A j v w') (fR:∀w w',S w→Below w.heap.size w w'→S w') (A8:∀v w w',Ah v w→Below w.heap.size w w'→Ah v w') (jO:∀w w',S2 w→Below w.heap.size w w'→S2 w') (hS:S w.drew)
 (hstep:eP P .any ops Q S A a0 0 (ops.toList.take h))
 (nD:∀a w,S w→(∀j oj d,j<h→ops[j]? =some oj→oj.dst=some d→A j (a.eval (.tmp d)) w)→(∀s,Out ops s→a.eval (.tmp s)=a0.eval (.tmp s))→∀next:Act→World→Prop,(∀v w',Ah v w'→S2 w'→next (a.put oa.dst v) w')→oa.wp P a w next Q)
 (hmid:∀a w,(∀s,Out ops s→a.eval (.tmp s)=a0.eval (.tmp s))→∀next:Act→World→Prop,next (a.put om.dst v1) w→om.wp P a w next Q)
 (nG:∀a w,S2 w→Ah (a.eval (.tmp da)) w→a.eval (.tmp dm)=v1→(∀s,Out ops s→a.eval (.tmp s)=a0.eval (.tmp s))→∀next:Act→World→Prop,(∀v w',S3 w'→next (a.put os.dst v) w')→os.wp P a w next Q)
 (hend:∀a w,a.defers=a0.defers→a.tmps.size=a0.tmps.size→(∀s,Out ops s→a.tmps.getD s undef=a0.tmps.getD s undef)→S3 w→Q .normal a w):
 (Code.region id ops true).wp P Q a0 w:=by
 have hF:∀i,i<ops.size→(Array.replicate ops.size false).getD i true=false:=λi hi=>by simp[Array.getD_eq_getD_getElem?,hi]
 refine wp_region_any hm (tB (v1:=v1) hf hsz he hl0 hl1 hd hA fR A8 jO (l6 hstep) (λo ho=>?_) (λo ho=>?_) (λo oh d o1 d1 ho JD hdd wg DI=>?_) ⟨oa,da,om,dm,ha,hda,hb,Gg⟩ hend ops.size _ a0 _ ?_ (λj o e hj hl=>?_) (.head ⟨by simp,rfl,rfl,λ_ _=>rfl,hS,λj o d hj js hl=>?_⟩ (hF h (by omega)) (hF (h+2) (by omega))))
 · rw[ha] at ho;cases ho;exact nD
 · rw[hb] at ho;cases ho;exact hmid
 · rw[hc] at ho;cases ho
   rw[ha] at JD;cases JD;rw[hb] at wg;cases wg;rw[hda] at hdd;cases hdd;rw[Gg] at DI;cases DI;exact nG
 · simp
 · exfalso
   have hj2:=(Array.getElem?_eq_some_iff.1 hj).1;simp[Array.getD_eq_getD_getElem?,hj2] at hl
 · exfalso
   have hj2:=(Array.getElem?_eq_some_iff.1 hj).1;simp[Array.getD_eq_getD_getElem?,hj2] at hl
end
end Go.Proofs.YtemjidmkolfgnaaGreatDoor
