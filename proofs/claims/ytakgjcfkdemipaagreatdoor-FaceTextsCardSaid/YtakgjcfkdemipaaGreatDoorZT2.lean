/-
  Lemmas: a region that draws its order, by one relation kept: each operation, whenever it comes up, leaves a value of which its own property holds in every later world. No condition.
-/
import Derived.Test.YtakgjcfkdemipaaGreatDoorZB6
import Derived.Test.YtakgjcfkdemipaaGreatDoorZBn
namespace Go.Proofs.YtakgjcfkdemipaaGreatDoor
open Go Go.RowKit
section
variable {P:Program} {md:Region.Mode} {ops:Array Oper} {Q:Exit→Act→World→Prop} {S:World→Prop} {A:Nat→Value→World→Prop} {a0:Act}
def vcm (P:Program) (md:Region.Mode) (ops:Array Oper) (Q:Exit→Act→World→Prop) (S:World→Prop) (A:Nat→Value→World→Prop) (a0:Act) (i:Nat) (o:Oper):Prop:=
 ∀(a:Act) (w:World),S w→(∀e∈o.after,Region.binds md e=true→∀ok d,ops[e.on]? =some ok→ok.dst=some d→A e.on (a.eval (.tmp d)) w)→(∀s,Out ops s→a.eval (.tmp s)=a0.eval (.tmp s))→
  ∀next:Act→World→Prop,(∀v w',A i v w'→Below w.heap.size w w'→next (a.put o.dst v) w')→o.wp P a w next Q
def vak (P:Program) (md:Region.Mode) (ops:Array Oper) (Q:Exit→Act→World→Prop) (S:World→Prop) (A:Nat→Value→World→Prop) (a0:Act):Nat→List Oper→Prop
 | _,[]=>True
 | k,o::l=>vcm P md ops Q S A a0 k o∧vak P md ops Q S A a0 (k+1) l
theorem vdd {P:Program} {md:Region.Mode} {ops:Array Oper} {Q:Exit→Act→World→Prop} {S:World→Prop} {A:Nat→Value→World→Prop} {a0:Act}:∀(l:List Oper) (k:Nat),vak P md ops Q S A a0 k l→∀i o,l[i]? =some o→vcm P md ops Q S A a0 (k+i) o
 | [],_,_,i,o,h=>by simp at h
 | x::l,k,hs,0,o,h=>by
  simp only[List.getElem?_cons_zero,Option.some.injEq] at h;subst h;exact hs.1
 | x::l,k,hs,i+1,o,h=>by
  rw[List.getElem?_cons_succ] at h;have:=vdd l (k+1) hs.2 i o h
  rwa [show k+1+i=k+(i+1) by omega] at this
theorem vd0 {h:Nat} (hs:vak P md ops Q S A a0 0 (ops.toList.take h)):∀i o,i<h→ops[i]? =some o→vcm P md ops Q S A a0 i o:=by
 intro i o hi ho
 have:=vdd (ops.toList.take h) 0 hs i o (by rw[List.getElem?_take_of_lt hi,Array.getElem?_toList];exact ho)
 rwa [Nat.zero_add] at this
end
section
variable {P:Program} {md:Region.Mode} {ops:Array Oper} {Q:Exit→Act→World→Prop} {S:Array Bool→World→Prop} {A:Nat→Value→Prop} {a0:Act}
end
section
variable {P:Program} {md:Region.Mode} {ops:Array Oper} {Q:Exit→Act→World→Prop} {S vlv vlw:World→Prop} {A:Nat→Value→World→Prop} {a0:Act} {vkd:Value→World→Prop} {v1:Value}
def vc7 (md:Region.Mode) (ops:Array Oper) (h:Nat):Bool:=
 (List.range h).all (λj=>(List.range (h+1)).any λk=>decide (j<k)&&((ops[k]?).map λo=>o.after.any λe=>Region.binds md e&&decide (e.on=j)).getD false)
def vbp (md:Region.Mode) (ops:Array Oper) (h n:Nat):Bool:=((ops[h+2]?).map λo=>o.after.any λe=>Region.binds md e&&decide (e.on=n)).getD false
theorem vfc {h:Nat} (hb:vc7 md ops h=true) {listed:Array Bool} (hc:∀j o e,ops[j]? =some o→listed.getD j false=true→e∈o.after→Region.binds md e=true→listed.getD e.on false=true)
 (hr:∀o e,ops[h]? =some o→e∈o.after→Region.binds md e=true→listed.getD e.on false=true):∀j,j<h→listed.getD j false=true:=by
 unfold vc7 at hb
 rw[List.all_eq_true] at hb
 have key:∀n j,j<h→h - j≤n→listed.getD j false=true:=by
  intro n
  induction n with
  | zero=>intro j hj hn;omega
  | succ n ih=>
   intro j hj hn;have:=hb j (List.mem_range.2 hj);rw[List.any_eq_true] at this;obtain⟨k,hk,hkk⟩:=this;rw[Bool.and_eq_true,decide_eq_true_eq] at hkk;have hk':=List.mem_range.1 hk;rcases hok:ops[k]? with _|o
   · rw[hok] at hkk;simp at hkk
   · rw[hok] at hkk
     simp only[Option.map_some,Option.getD_some,Array.any_eq_true,Bool.and_eq_true,decide_eq_true_eq] at hkk;obtain⟨hjk,x,hx,A4,hon⟩:=hkk
     by_cases hkh:k=h
     · subst hkh
       rw[←hon];exact hr _ _ hok (Array.getElem_mem hx) A4
     · have hl:=ih k (by omega) (by omega)
       rw[←hon];exact hc k o _ hok hl (Array.getElem_mem hx) A4
 intro j hj
 exact key (h - j) j hj zr
theorem vf1 {h n:Nat} (hb:vbp md ops h n=true) {listed:Array Bool} (hr:∀o e,ops[h+2]? =some o→e∈o.after→Region.binds md e=true→listed.getD e.on false=true):listed.getD n false=true:=by
 unfold vbp at hb
 rcases hok:ops[h+2]? with _|o
 · rw[hok] at hb;simp at hb
 · rw[hok] at hb
   simp only[Option.map_some,Option.getD_some,Array.any_eq_true,Bool.and_eq_true,decide_eq_true_eq] at hb;obtain⟨x,hx,A4,hon⟩:=hb;rw[←hon];exact hr _ _ hok (Array.getElem_mem hx) A4
def vhb (h:Nat) (vkd:Value→World→Prop) (v1:Value):Nat→Value→World→Prop:=λj v w=>(j=h→vkd v w)∧(j=h+1→v=v1)
inductive vg5 (md:Region.Mode) (ops:Array Oper) (h:Nat) (S vlv vlw:World→Prop) (A:Nat→Value→World→Prop) (vkd:Value→World→Prop) (v1:Value) (a0:Act) (listed:Array Bool) (a:Act) (w:World):Prop
 | head (hi:Dc ops S (λj v w=>if j<h then A j v w else j=h+1→v=v1) a0 listed a w) (h1:listed.getD h true=false) (h2:listed.getD (h+2) true=false)
 | tail (hi:Dc ops vlv (vhb h vkd v1) a0 listed a w) (h1:listed.getD h false=true) (h2:listed.getD (h+2) true=false)
 | done (hi:Dc ops vlw (λ_ _ _=>True) a0 listed a w) (h1:∀j,j<ops.size→listed.getD j false=true)
theorem vbk {l:Array Bool} {i:Nat} (h:l.getD i true=false) (h':l.getD i false=true):False:=by
 rcases Nat.lt_or_ge i l.size with hi|hi
 · simp[Array.getD_eq_getD_getElem?,hi] at h h'
   rw[h] at h';cases h'
 · simp[Array.getD_eq_getD_getElem?,hi] at h
theorem vde {h : Nat} (hf : sw md ops = true) (hsz : ops.size = h + 3) (he : vc7 md ops h = true) (hl0 : vbp md ops h h = true) (hl1 : vbp md ops h (h + 1) = true) (hd : wL ops a0.tmps.size = true)
 (hA:∀j v w w',A j v w→Below w.heap.size w w'→A j v w') (eE:∀w w',S w→Below w.heap.size w w'→S w') (vg8:∀v w w',vkd v w→Below w.heap.size w w'→vkd v w') (nG:∀w w',vlv w→Below w.heap.size w w'→vlv w')
 (hstep:∀i o,i<h→ops[i]? =some o→vcm P md ops Q S A a0 i o)
 (vdf:∀o,ops[h]? =some o→∀a w,S w→(∀j oj d,j<h→ops[j]? =some oj→oj.dst=some d→A j (a.eval (.tmp d)) w)→(∀s,Out ops s→a.eval (.tmp s)=a0.eval (.tmp s))→∀next:Act→World→Prop,(∀v w',vkd v w'→vlv w'→next (a.put o.dst v) w')→o.wp P a w next Q)
 (hmid:∀o,ops[h+1]? =some o→∀a w,(∀s,Out ops s→a.eval (.tmp s)=a0.eval (.tmp s))→∀next:Act→World→Prop,next (a.put o.dst v1) w→o.wp P a w next Q)
 (vdg:∀o vmg d o1 d1,ops[h+2]? =some o→ops[h]? =some vmg→vmg.dst=some d→ops[h+1]? =some o1→o1.dst=some d1→∀a w,vlv w→vkd (a.eval (.tmp d)) w→a.eval (.tmp d1)=v1→(∀s,Out ops s→a.eval (.tmp s)=a0.eval (.tmp s))→∀next:Act→World→Prop,(∀v w',vlw w'→next (a.put o.dst v) w')→o.wp P a w next Q)
 (vjh:∃vmg d o1 d1,ops[h]? =some vmg∧vmg.dst=some d∧ops[h+1]? =some o1∧o1.dst=some d1)
 (hend:∀a w,a.defers=a0.defers→a.tmps.size=a0.tmps.size→(∀s,Out ops s→a.tmps.getD s undef=a0.tmps.getD s undef)→vlw w→Q .normal a w):
 ∀(fuel:Nat) (listed:Array Bool) (a:Act) (w:World),listed.toList.count false≤fuel→(∀j o e,ops[j]? =some o→listed.getD j false=true→e∈o.after→Region.binds md e=true→listed.getD e.on false=true)→vg5 md ops h S vlv vlw A vkd v1 a0 listed a w→wpAny P md ops Q fuel listed a w:=by
 have hsize:∀{listed:Array Bool} {a:Act} {w:World},vg5 md ops h S vlv vlw A vkd v1 a0 listed a w→listed.size=ops.size:=λhI=>by
  cases hI with
  | head hi _ _=>exact hi.size
  | tail hi _ _=>exact hi.size
  | done hi _=>exact hi.size
 have fin:∀(listed:Array Bool) (a:Act) (w:World),vg5 md ops h S vlv vlw A vkd v1 a0 listed a w→Region.ready md ops listed=[]→Q .normal a w:=by
  intro listed a w hI hr;have hall:=mO hf (hsize hI) hr;cases hI with
  | head hi _ h2=>exact(vbk h2 (hall (h+2) (by omega))).elim
  | tail hi _ h2=>exact(vbk h2 (hall (h+2) (by omega))).elim
  | done hi _=>exact hend a w hi.defers hi.tmps hi.out hi.s
 intro fuel
 induction fuel with
 | zero=>
  intro listed a w hc _ hI;have hr:Region.ready md ops listed=[]:=by
   rcases hq:Region.ready md ops listed with _|⟨i,l⟩
   · rfl
   · exfalso
     have hm:i∈Region.ready md ops listed:=by rw[hq];exact List.mem_cons_self ..
     have:=count_set (mem_ready.1 hm).1;omega
  exact⟨hr,fin listed a w hI hr⟩
 | succ fuel ih =>
  intro listed a w hc hcl hI;refine⟨fin listed a w hI,λi him=>?_⟩;obtain⟨hl,o,ho,iO⟩:=mem_ready.1 him;have hg:o.guard=none:=by
   have hd2:=hd;unfold wL at hd2;rw[Bool.and_eq_true,List.all_eq_true] at hd2;have:=hd2.2 o (List.mem_of_getElem? (by rw[Array.getElem?_toList];exact ho));rw[Bool.and_eq_true,decide_eq_true_eq] at this;exact this.1
  have hin:i<ops.size:=(Array.getElem?_eq_some_iff.1 ho).1;have hls:=hsize hI;have ek:∀j,i≠j→(listed.setIfInBounds i true).getD j true=listed.getD j true:=λj hij=>getD_set_ne true hij
  have vgs:(listed.setIfInBounds i true).getD i false=true:=by
   simp[Array.getD_eq_getD_getElem?,hls,hin]
  unfold wpOp;simp only[ho];rw[if_pos (by simp[Region.wanted,hg])]
  left
  have hcs:=count_set hl;have next:∀v w',vg5 md ops h S vlv vlw A vkd v1 a0 (listed.setIfInBounds i true) (a.put o.dst v) w'→wpAny P md ops Q fuel (listed.setIfInBounds i true) (a.put o.dst v) w':=by
   intro v w' vjc;refine ih _ _ _ (by omega) (λj oj e hj hlj hee wZ=>?_) vjc
   by_cases hij:i=j
   · subst hij
     rw[ho] at hj;cases hj;exact getD_set_true (iO e hee wZ)
   · rw[getD_set_ne false hij] at hlj
     exact getD_set_true (hcl j oj e hj hlj hee wZ)
  have vfv:(∀o e,ops[h]? =some o→e∈o.after→Region.binds md e=true→listed.getD e.on false=true)→∀j,j<h→listed.getD j false=true:=vfc he hcl
  cases hI with
  | done _ h1=>exact(vbk hl (h1 i hin)).elim
  | head hi h1 h2 =>
   rcases Nat.lt_trichotomy i h with hih|hih|hih
   · refine hstep i o hih ho a w hi.s (λe hee wZ ok d hok DV=>?_) (λs hs=>hi.out s hs) _ λv w' hv mE=>next v w' (.head (hi.step hd ?_ eE ho ?_ mE) ?_ ?_)
     · have hlt:e.on<i:=by
        have Ug:=hf;unfold sw at Ug;rw[List.all_eq_true] at Ug;have:=Ug i (List.mem_range.2 hin);rw[ho] at this;simp only[Option.map_some,Option.getD_some,Array.all_eq_true_iff_forall_mem] at this;have:=this e hee
        simpa[wZ] using this
       have:=hi.at_ e.on ok d hok DV (iO e hee wZ)
       rwa [if_pos (by omega)] at this
     · intro j v w w' hv hb
       split
       · rename_i hj;rw[if_pos hj] at hv;exact hA _ _ _ _ hv hb
       · rename_i hj;rw[if_neg hj] at hv;exact hv
     · rw[if_pos hih];exact hv
     · rw[ek h (by omega)];exact h1
     · rw[ek (h+2) (by omega)];exact h2
   · subst hih
     have hall:=vfv λo' e ho' hee wZ=>by
      rw[ho] at ho';cases ho';exact iO e hee wZ
     refine vdf o ho a w hi.s (λj oj d hj Sn vek=>?_) (λs hs=>hi.out s hs) _ λv w' hv hs2=>next v w' (.tail ?_ vgs ?_)
     · have:=hi.at_ j oj d Sn vek (hall j hj)
       rwa [if_pos hj] at this
     · have hi':Dc ops (λ_=>True) (λj v _=>j=i+1→v=v1) a0 listed a w:=⟨hi.size,hi.defers,hi.tmps,hi.out,trivial,λj oj d Sn vek hlj hj=>by
        have:=hi.at_ j oj d Sn vek hlj;rw[if_neg (by omega)] at this;exact this hj⟩
       have hs:=hi'.step hd (λ_ _ _ _ h _=>h) (λ_ _ _ _=>trivial) ho (v:=v) (w':=w) (λh=>by omega) (zb _);refine⟨hs.size,hs.defers,hs.tmps,hs.out,hs2,λj oj d Sn vek hlj=>⟨λhj=>?_,hs.at_ j oj d Sn vek hlj⟩⟩;subst hj;rw[ho] at Sn;cases Sn;rw[vek,jw]
       · exact hv
       · rw[hi.tmps]
         have hd2:=hd;unfold wL at hd2;rw[Bool.and_eq_true,List.all_eq_true] at hd2;have:=hd2.2 o (List.mem_of_getElem? (by rw[Array.getElem?_toList];exact ho));rw[vek] at this;simp at this;exact this.2
     · rw[ek (i+2) (by omega)];exact h2
   · rcases(show i=h+1∨i=h+2 by omega) with rfl|rfl
     · refine hmid o ho a w (λs hs=>hi.out s hs) _ (next v1 w (.head (hi.step hd ?_ eE ho ?_ (zb _)) ?_ ?_))
       · intro j v w w' hv hb
         split
         · rename_i hj;rw[if_pos hj] at hv;exact hA _ _ _ _ hv hb
         · rename_i hj;rw[if_neg hj] at hv;exact hv
       · rw[if_neg (by omega)];exact λ_=>rfl
       · rw[ek h (by omega)];exact h1
       · rw[ek (h+2) (by omega)];exact h2
     · refine(vbk h1 (vf1 hl0 (listed:=listed) λo' e ho' hee wZ=>?_)).elim
       rw[ho] at ho';cases ho';exact iO e hee wZ
  | tail hi h1 h2 =>
   have hall:=vfv λo' e ho' hee wZ=>hcl h o' e ho' h1 hee wZ
   rcases Nat.lt_trichotomy i h with hih|hih|hih
   · exact(vbk hl (hall i hih)).elim
   · subst hih;exact(vbk hl h1).elim
   · rcases(show i=h+1∨i=h+2 by omega) with rfl|rfl
     · refine hmid o ho a w (λs hs=>hi.out s hs) _ (next v1 w (.tail (hi.step hd ?_ nG ho ?_ (zb _)) ?_ ?_))
       · intro j v w w' hv hb
         exact⟨λe=>vg8 _ _ _ (hv.1 e) hb,hv.2⟩
       · exact⟨λe=>by omega,λ_=>rfl⟩
       · exact getD_set_true h1
       · rw[ek (h+2) (by omega)];exact h2
     · have hr:∀o' e,ops[h+2]? =some o'→e∈o'.after→Region.binds md e=true→listed.getD e.on false=true:=λo' e ho' hee wZ=>by
        rw[ho] at ho';cases ho';exact iO e hee wZ
       have G0:=vf1 hl1 hr;obtain⟨vmg,d,o1,d1,k1,k2,k3,k4⟩:=vjh;refine vdg o vmg d o1 d1 ho k1 k2 k3 k4 a w hi.s ((hi.at_ h vmg d k1 k2 h1).1 rfl) ((hi.at_ (h+1) o1 d1 k3 k4 G0).2 rfl) (λs hs=>hi.out s hs) _ λv w' JT=>next v w' (.done ?_ λj hj=>?_)
       · have hi':Dc ops (λ_=>True) (λ_ _ _=>True) a0 listed a w:=⟨hi.size,hi.defers,hi.tmps,hi.out,trivial,λ_ _ _ _ _ _=>trivial⟩
         have hs:=hi'.step hd (λ_ _ _ _ _ _=>trivial) (λ_ _ _ _=>trivial) ho (v:=v) (w':=w) trivial (zb _);exact⟨hs.size,hs.defers,hs.tmps,hs.out,JT,λ_ _ _ _ _ _=>trivial⟩
       · by_cases hij:j=h+2
         · subst hij;exact vgs
         · refine getD_set_true ?_
           rcases Nat.lt_trichotomy j h with hj2|rfl|hj2
           · exact hall j hj2
           · exact h1
           · rw[show j=h+1 by omega];exact G0
theorem vd3 {id:Nat} {w:World} {oa vmh os:Oper} {da vm8:Nat} (h:Nat) (hm:P.follows .mixedOrders=true) (hf:sw .any ops=true) (hsz:ops.size=h+3) (he:vc7 .any ops h=true) (hl0:vbp .any ops h h=true) (hl1:vbp .any ops h (h+1)=true) (hd:wL ops a0.tmps.size=true) (ha:ops[h]? =some oa) (hb:ops[h+1]? =some vmh) (hc:ops[h+2]? =some os) (hda:oa.dst=some da) (vgc:vmh.dst=some vm8)
 (hA:∀j v w w',A j v w→Below w.heap.size w w'→A j v w') (eE:∀w w',S w→Below w.heap.size w w'→S w') (vg8:∀v w w',vkd v w→Below w.heap.size w w'→vkd v w') (nG:∀w w',vlv w→Below w.heap.size w w'→vlv w') (hS:S w.drew)
 (hstep:vak P .any ops Q S A a0 0 (ops.toList.take h))
 (vdf:∀a w,S w→(∀j oj d,j<h→ops[j]? =some oj→oj.dst=some d→A j (a.eval (.tmp d)) w)→(∀s,Out ops s→a.eval (.tmp s)=a0.eval (.tmp s))→∀next:Act→World→Prop,(∀v w',vkd v w'→vlv w'→next (a.put oa.dst v) w')→oa.wp P a w next Q)
 (hmid:∀a w,(∀s,Out ops s→a.eval (.tmp s)=a0.eval (.tmp s))→∀next:Act→World→Prop,next (a.put vmh.dst v1) w→vmh.wp P a w next Q)
 (vdg:∀a w,vlv w→vkd (a.eval (.tmp da)) w→a.eval (.tmp vm8)=v1→(∀s,Out ops s→a.eval (.tmp s)=a0.eval (.tmp s))→∀next:Act→World→Prop,(∀v w',vlw w'→next (a.put os.dst v) w')→os.wp P a w next Q)
 (hend:∀a w,a.defers=a0.defers→a.tmps.size=a0.tmps.size→(∀s,Out ops s→a.tmps.getD s undef=a0.tmps.getD s undef)→vlw w→Q .normal a w):
 (Code.region id ops true).wp P Q a0 w:=by
 have hF:∀i,i<ops.size→(Array.replicate ops.size false).getD i true=false:=λi hi=>by simp[Array.getD_eq_getD_getElem?,hi]
 refine wp_region_any hm (vde (v1:=v1) hf hsz he hl0 hl1 hd hA eE vg8 nG (vd0 hstep) (λo ho=>?_) (λo ho=>?_) (λo vmg d o1 d1 ho vhk hdd jW vfu=>?_) ⟨oa,da,vmh,vm8,ha,hda,hb,vgc⟩ hend ops.size _ a0 _ ?_ (λj o e hj hl=>?_) (.head ⟨by simp,rfl,rfl,λ_ _=>rfl,hS,λj o d hj sD hl=>?_⟩ (hF h (by omega)) (hF (h+2) (by omega))))
 · rw[ha] at ho;cases ho;exact vdf
 · rw[hb] at ho;cases ho;exact hmid
 · rw[hc] at ho;cases ho
   rw[ha] at vhk;cases vhk;rw[hb] at jW;cases jW;rw[hda] at hdd;cases hdd;rw[vgc] at vfu;cases vfu;exact vdg
 · simp
 · exfalso
   have hj2:=(Array.getElem?_eq_some_iff.1 hj).1;simp[Array.getD_eq_getD_getElem?,hj2] at hl
 · exfalso
   have hj2:=(Array.getElem?_eq_some_iff.1 hj).1;simp[Array.getD_eq_getD_getElem?,hj2] at hl
end
