/-
  Lemmas for the statement: a region that draws its order, told by the specifications of its values: each operation by one lemma. Contracts: of the law: short, sig, wanted, few, proc. Contracts: of the law: wanted, few, proc. No condition.
-/
import Derived.Test.YtakgjcfkdemipaaGreatDoorZGn
import Derived.Test.YtakgjcfkdemipaaGreatDoorZG16
import Derived.Test.YtakgjcfkdemipaaGreatDoorZG18
set_option maxHeartbeats 6400000
namespace Go.Proofs.YtakgjcfkdemipaaGreatDoor
open Go Go.RowKit
inductive VS where
 | skip
 | eq (v:Value)
 | ss (L:List (List UInt8))
 | sig (s:cD)
 | op (o:aG)
 | ops (l:List aG)
 | bK (l:List aB)
 | prop (F:World→Value→Prop)
def VS.holds (D:Nat→Prop) (w:World) (v:Value):VS→Prop
 | .skip=>v=undef
 | .eq u=>v=u
 | .ss L=>SS D w v L
 | .sig s=>aT D w v s
 | .op o=>gR D w v o
 | .ops l=>aJ D w v l
 | .bK l=>aZ D w v l
 | .prop F=>∀w',Below w.heap.size w w'→F w' v
theorem VS.holds.below {D:Nat→Prop} {w w':World} {v:Value} {s:VS} (h:s.holds D w v) (hb:Below w.heap.size w w'):s.holds D w' v:=by
 cases s with
 | skip=>exact h
 | eq u=>exact h
 | ss L=>exact SS.below (show SS D w v L from h) hb (nl _)
 | sig x=>exact aT.below (show aT D w v x from h) hb (nl _)
 | op x=>exact gR.below (show gR D w v x from h) hb (nl _)
 | ops l=>exact aJ.below (show aJ D w v l from h) hb (nl _)
 | bK l=>exact aZ.below (show aZ D w v l from h) hb (nl _)
 | prop F=>exact λw2 h2=>h w2 (hb.trans (af h2 hb.size))
theorem BW {j:Nat} (h:j≤1000000):IntKind.i64.wrap (j:Int)=j:=by
 simp[IntKind.wrap,IntKind.bits,IntKind.signed]
 omega
def DW (o:Oper) (j:Nat):Bool:=o.after.toList.any λe=>decide (e.on=j)&&Region.binds .any e
def aM (ops:Array Oper) (h:Nat) (V:List VS) (E:List (Nat×VS)) (o:Oper):Operand→Option VS
 | .const v=>some (.eq v)
 | .tmp d=>match (ops.toList.take h).findIdx? (λp=>decide (p.dst=some d)) with
  | some j=>if DW o j then V[j]? else none
  | none=>(E.find? λp=>decide (p.1=d)).map (·.2)
 | _=>none
def dN (ops:Array Oper) (h:Nat) (V:List VS) (o:Oper):Option Bool:=
 match o.guard with
 | none=>some true
 | some (g,b)=>if DW o g&&decide (g<h)&&((ops[g]?).bind (·.dst)).isSome then
  match V[g]? with
  | some (.eq (.bool c))=>some (c==b)
  | some .skip=>some false
  | _=>none
  else none
def Kt (D:Nat→Prop) (V:List VS) (j:Nat) (v:Value) (w:World):Prop:=∀s,V[j]? =some s→s.holds D w v
section
variable {D:Nat→Prop} {P:Program} {ops:Array Oper} {h:Nat} {V:List VS} {E:List (Nat×VS)} {a0:Act} {S:World→Prop}
def S4 (D:Nat→Prop) (S:World→Prop) (E:List (Nat×VS)) (a0:Act) (w:World):Prop:=S w∧∀p∈E,p.2.holds D w (a0.eval (.tmp p.1))
theorem Ab {o:Oper} {j:Nat} (he:DW o j=true):∃e∈o.after,Region.binds .any e=true∧e.on=j:=by
 unfold DW at he
 rw[List.any_eq_true] at he
 obtain⟨e,Ns,Ea⟩:=he
 simp only[Bool.and_eq_true,decide_eq_true_eq] at Ea
 exact⟨e,by simpa using Ns,Ea.2,Ea.1⟩
theorem DH {o:Oper} {x:Operand} {s:VS} (hs:aM ops h V E o x=some s) {a:Act} {w:World} (hS:S4 D S E a0 w)
 (hd:∀e∈o.after,Region.binds .any e=true→∀ok d,ops[e.on]? =some ok→ok.dst=some d→Kt D V e.on (a.eval (.tmp d)) w) (ho:∀s,th ops h s→a.eval (.tmp s)=a0.eval (.tmp s)):s.holds D w (a.eval x):=by
 cases x with
 | const v=>unfold aM at hs;cases hs;rfl
 | tmp d=>
  unfold aM at hs;simp only at hs;split at hs
  · rename_i j hj
    split at hs
    · rename_i he
      obtain⟨e,Ns,Ea,rfl⟩:=Ab he;rw[List.findIdx?_eq_some_iff_getElem] at hj;obtain⟨hlt,Im,_⟩:=hj;have hlt2:e.on<ops.size:=by simp at hlt;omega
      refine hd e Ns Ea ops[e.on] d (Array.getElem?_eq_getElem hlt2) ?_ s hs
      simpa using Im
    · cases hs
  · rename_i hj
    rw[List.findIdx?_eq_none_iff] at hj;rw[ho d λj p Zd hjp e=>by
     have hm:p∈ops.toList.take h:=List.mem_of_getElem? (i:=j) (by rw[List.getElem?_take_of_lt Zd,Array.getElem?_toList];exact hjp);have:=hj p hm;simp[e] at this]
    rw[Option.map_eq_some_iff] at hs;obtain⟨p,hp,rfl⟩:=hs;have:=hS.2 p (List.mem_of_find?_eq_some hp);have Zv:p.1=d:=by simpa using List.find?_some hp
    rwa [Zv] at this
 | global g=>unfold aM at hs;cases hs
 | func f=>unfold aM at hs;cases hs
theorem EG {o:Oper} {c:Bool} (hw:dN ops h V o=some c) {a:Act} {w:World}
 (hd:∀e∈o.after,Region.binds .any e=true→∀ok d,ops[e.on]? =some ok→ok.dst=some d→Kt D V e.on (a.eval (.tmp d)) w):Region.wanted o (yielded ops a.tmps)=c:=by
 unfold dN at hw
 rcases hg:o.guard with _|⟨g,b⟩
 · rw[hg] at hw
   cases hw;simp[Region.wanted,hg]
 · rw [hg] at hw
   simp only at hw;split at hw
   · rename_i hc
     rw[Bool.and_eq_true,Bool.and_eq_true] at hc;obtain⟨e,Ns,Ea,rfl⟩:=Ab hc.1.1;rcases hop:ops[e.on]? with _|og
     · rw[hop] at hc;simp at hc
     · rw [hop] at hc
       rcases Im:og.dst with _|d
       · simp[Im] at hc
       · have hf:=hd e Ns Ea og d hop Im
         have hy:∀v,a.eval (.tmp d)=v→yielded ops a.tmps e.on=(match v with|.bool x=>some x|_=>none):=by
          intro v hv;have hv:a.tmps[d]?.getD undef=v:=bA hv;unfold yielded;rw[hop];simp only[Option.bind_some,Im];rcases hq:a.tmps[d]? with _|u
          · rw[hq] at hv;simp at hv;rw[←hv];rfl
          · rw[hq] at hv;simp at hv;subst hv;cases u<;>rfl
         split at hw
         · rename_i x hx
           cases hw;have:=hy _ (hf _ hx);simp only[Region.wanted,hg,this];cases x<;>cases b<;>rfl
         · rename_i hx
           cases hw;have:=hy _ (hf _ hx);simp only[Region.wanted,hg,this]
           rfl
         · cases hw
   · cases hw
def LO (D:Nat→Prop) (P:Program) (S:World→Prop) (o:Oper) (ins:List (Operand×VS)) (s:VS):Prop:=
 ∀(a:Act) (w:World) (Q:Exit→Act→World→Prop),S w→(∀p∈ins,p.2.holds D w (a.eval p.1))→∀next:Act→World→Prop,(∀v w',s.holds D w' v→Below w.heap.size w w'→next (a.put o.dst v) w')→o.wp P a w next Q
def bX (D:Nat→Prop) (P:Program) (S:World→Prop) (ops:Array Oper) (h:Nat) (V:List VS) (E:List (Nat×VS)) (k:Nat) (o:Oper):Prop:=
 ∃s,V[k]? =some s∧((dN ops h V o=some false∧s=.skip)∨(dN ops h V o=some true∧∃ins,(∀p∈ins,aM ops h V E o p.1=some p.2)∧LO D P S o ins s))
def nN (D:Nat→Prop) (P:Program) (S:World→Prop) (ops:Array Oper) (h:Nat) (V:List VS) (E:List (Nat×VS)):Nat→List Oper→Prop
 | _,[]=>True
 | k,o::l=>bX D P S ops h V E k o∧nN D P S ops h V E (k+1) l
theorem Ln {Q:Exit→Act→World→Prop} {k:Nat} {o:Oper} {S':World→Prop} (nW:∀w,S' w→S w) (hs:bX D P S ops h V E k o):GU P .any ops Q (S4 D S' E a0) (Kt D V) a0 h k o:=by
 intro a w hS hd ho next hn
 obtain⟨s,h1,⟨h2,rfl⟩|⟨h2,ins,h3,h4⟩⟩:=hs
 · rw[EG h2 hd,if_neg (by simp)]
   exact hn undef w (λs' hs'=>by rw[h1] at hs';cases hs';rfl) (Below.refl _ _)
 · rw[EG h2 hd,if_pos rfl]
   exact .inl (h4 a w Q (nW w hS.1) (λp hp=>DH (h3 p hp) hS hd ho) next λv w' hv hb=>hn v w' (λs' hs'=>by rw[h1] at hs';cases hs';exact hv) hb)
theorem vD:∀(l:List Oper) (k:Nat),nN D P S ops h V E k l→∀i o,l[i]? =some o→bX D P S ops h V E (k+i) o
 | [],_,_,i,o,ho=>by simp at ho
 | x::l,k,hs,0,o,ho=>by
  simp only[List.getElem?_cons_zero,Option.some.injEq] at ho;subst ho;exact hs.1
 | x::l,k,hs,i+1,o,ho=>by
  rw[List.getElem?_cons_succ] at ho;have:=vD l (k+1) hs.2 i o ho
  rwa [show k+1+i=k+(i+1) by omega] at this
theorem dB {Q:Exit→Act→World→Prop} {id:Nat} {w:World} (h:Nat) (E:List (Nat×VS)) (V:List VS) (S:World→Prop) (hm:P.follows .mixedOrders=true) (hsz:ops.size=h+1) (hf:vX .any ops=true) (hb:qy .any ops h=true) (hd:ES ops a0.tmps.size=true)
 (cQ:∀w w',S w→Below w.heap.size w w'→S w') (hS:S w.drew) (hE:∀p∈E,p.2.holds D w.drew (a0.eval (.tmp p.1))) (hst:nN D P S ops h V E 0 ops.toList)
 (hend:∀a v w',S w'→Below w.heap.size w w'→a=dQ a (ops.toList.take h) a0→(∀(j:Nat) (s:VS) (d:Nat),j<h→V[j]? =some s→(ops[j]?).bind (·.dst)=some d→s.holds D w' (a.tmps.getD d undef))→(∀s,V[h]? =some s→s.holds D w' v)→Q .normal (a.put ((ops[h]?).bind (·.dst)) v) w'):
 (Code.region id ops true).wp P Q a0 w:=by
 refine BV (S:=S4 D (λw'=>S w'∧Below w.heap.size w w') E a0) (A:=Kt D V) h hm hsz hf hb hd (λj v w1 w2 h hb s hs=>(h s hs).below hb) (λw1 w2 h hb=>⟨⟨cQ _ _ h.1.1 hb,h.1.2.trans (af hb h.1.2.size)⟩,λp hp=>(h.2 p hp).below hb⟩) ⟨⟨hS,(Below.refl _ w).drew⟩,hE⟩ (λi o ho=>Ln (λw h=>h.1) ?_) ?_
 · have:=vD _ 0 hst i o (by rw[Array.getElem?_toList];exact ho)
   rwa [Nat.zero_add] at this
 · intro a w1 v w' o h1 h2 h3 h4 h5 ho hv jl
   have hq:=hend a v w' (cQ _ _ h4.1.1 jl) (h4.1.2.trans (af jl h4.1.2.size)) (qW h1 h2 h3) (λj s d hj hs wo=>by
    rw[Option.bind_eq_some_iff] at wo;obtain⟨oj,Zs,Zr⟩:=wo;exact(h5 j oj d hj Zs Zr s hs).below jl) hv
   rwa [ho] at hq
theorem bV {k:Nat} {o:Oper} (hw:dN ops h V o=some false) (hk:V[k]? =some .skip):bX D P S ops h V E k o:=⟨_,hk,.inl ⟨hw,rfl⟩⟩
theorem qN {k:Nat} {o:Oper} {s:VS} (ins:List (Operand×VS)) (hw:dN ops h V o=some true) (hk:V[k]? =some s) (hi:ins.map (λp=>aM ops h V E o p.1)=ins.map λp=>some p.2) (hs:LO D P S o ins s):bX D P S ops h V E k o:=
 ⟨s,hk,.inr ⟨hw,ins,λp hp=>List.map_inj_left.1 hi p hp,hs⟩⟩
theorem zG {k:Nat} {o:Oper} {x:Operand} {s:VS} (ho:o.op=.assign x∨o.op=.move x) (hw:dN ops h V o=some true) (hk:V[k]? =some s) (hx:aM ops h V E o x=some s):bX D P S ops h V E k o:=by
 refine⟨s,hk,.inr ⟨hw,[(x,s)],by simpa using hx,λa w Q hS hi next hn=>?_⟩⟩
 have ZN:=hi (x,s) (by simp)
 unfold Oper.wp
 have hrun:(execOp a.eval o).run P w=.ok (.value (a.eval x)) w:=by
  unfold execOp;rcases ho with ho|ho<;>simp[ho]
 rw[hrun]
 exact hn _ _ ZN (Below.refl _ _)
theorem Vs {k:Nat} {o:Oper} {r:Value} (ins:List (Operand×Value)) (hw:dN ops h V o=some true) (hk:V[k]? =some (.eq r)) (hi:ins.map (λp=>aM ops h V E o p.1)=ins.map λp=>some (.eq p.2))
 (hrun:∀(a:Act) (w:World),S w→(∀p∈ins,a.eval p.1=p.2)→(execOp a.eval o).run P w=.ok (.value r) w):bX D P S ops h V E k o:=by
 refine⟨_,hk,.inr ⟨hw,ins.map λp=>(p.1,.eq p.2),?_,λa w Q hS hi2 next hn=>?_⟩⟩
 · intro p hp
   obtain⟨q,hq,rfl⟩:=List.mem_map.1 hp;exact List.map_inj_left.1 hi q hq
 · unfold Oper.wp
   rw[hrun a w hS λp hp=>hi2 (p.1,.eq p.2) (List.mem_map_of_mem hp)];exact hn _ _ rfl (Below.refl _ _)
end
def aW (L:List (Addr×Value)) (w:World):Prop:=∀p∈L,w.cell? p.1=some p.2
theorem aW.below {L:List (Addr×Value)} {w w':World} (h:aW L w) (hb:Below w.heap.size w w'):aW L w':=λp hp=>Below.keep hb (h p hp)
theorem aW.get {L:List (Addr×Value)} {w:World} (h:aW L w) (k:Nat) {p:Addr×Value} (hk:L[k]? =some p):w.cell? p.1=some p.2:=h p (List.mem_of_getElem? hk)
section
variable {D:Nat→Prop} {ops:Array Oper} {h:Nat} {V:List VS} {E:List (Nat×VS)} {S:World→Prop} {k:Nat} {o:Oper}
theorem JJ {r u:Value} (x:Operand) (hw:dN ops h V o=some true) (hk:V[k]? =some (.eq r)) (hx:aM ops h V E o x=some (.eq u))
 (hrun:∀(ev:Operand→Value) (w:World),S w→ev x=u→(execOp ev o).run Tryz.prog w=.ok (.value r) w):bX D Tryz.prog S ops h V E k o:=
 Vs [(x,u)] hw hk (by simp[hx]) λa w hS hi=>hrun a.eval w hS (hi (x,u) (by simp))
theorem BK {r u v:Value} (x y:Operand) (hw:dN ops h V o=some true) (hk:V[k]? =some (.eq r)) (hx:aM ops h V E o x=some (.eq u)) (hy:aM ops h V E o y=some (.eq v))
 (hrun:∀(ev:Operand→Value) (w:World),S w→ev x=u→ev y=v→(execOp ev o).run Tryz.prog w=.ok (.value r) w):bX D Tryz.prog S ops h V E k o:=
 Vs [(x,u),(y,v)] hw hk (by simp[hx,hy]) λa w hS hi=>hrun a.eval w hS (hi (x,u) (by simp)) (hi (y,v) (by simp))
theorem mo {r:Value} {c a b:Operand} {q:Bool} (ho:o.op=.pick c a b) (hw:dN ops h V o=some true) (hk:V[k]? =some (.eq r)) (hc:aM ops h V E o c=some (.eq (.bool q)))
 (hx:aM ops h V E o (if q then a else b)=some (.eq r)):bX D Tryz.prog S ops h V E k o:=
 Vs [(c,.bool q),(if q then a else b,r)] hw hk (by simp[hc,hx]) λac w hS hi=>by
  have h1:=hi (c,.bool q) (by simp);have h2:=hi (if q then a else b,r) (by simp);simp only at h1 h2;cases q<;>simp_all[execOp,asBool]
theorem qM {x:Operand} {t:TypeId} {q r:Bool} (ho:o.op=.unOp .not t x) (hw:dN ops h V o=some true) (hk:V[k]? =some (.eq (.bool r))) (hx:aM ops h V E o x=some (.eq (.bool q))) (hq:(!q)=r):bX D Tryz.prog S ops h V E k o:=
 JJ x hw hk hx λev w hS h1=>by subst hq;simp[execOp,ho,h1,go_sem]
theorem eP {f:FuncId} {x:Operand} {tys:Array TypeId} {s s1:VS} (ho:o.op=.call {callee:=.value (.func f),args:= #[x],argTypes:=tys }) (en:∀args w,(callFunc f args).run Tryz.prog w=.ok (.enter f args) w)
 (hw:dN ops h V o=some true) (hk:V[k]? =some s) (hx:aM ops h V E o x=some s1)
 (hc:∀(v:Value) (w:World),S w→s1.holds D w v→Calls Tryz.prog f #[v] w λe w'=>∃u,e=.returned u∧s.holds D w' u∧Below w.heap.size w w'):bX D Tryz.prog S ops h V E k o:=
 qN [(x,s1)] hw hk (by simp[hx]) λa w Q hS hi next hn=>by
  have h1:=hi (x,s1) (by simp);have hrun:(execOp a.eval o).run Tryz.prog w=.ok (.enter f #[a.eval x]) w:=by
   simp[execOp,ho,resolve,Deferred.ofValue,invoke,Act.eval,en]
  unfold Oper.wp;rw[hrun,Oper.upon_enter];refine(hc _ w hS h1).mono ?_;rintro e w' ⟨u,rfl,hu,hb⟩;exact hn u w' hu hb
theorem eS {f:FuncId} {x y:Operand} {tys:Array TypeId} {s s1 s2:VS} (ho:o.op=.call {callee:=.value (.func f),args:= #[x,y],argTypes:=tys }) (en:∀args w,(callFunc f args).run Tryz.prog w=.ok (.enter f args) w)
 (hw:dN ops h V o=some true) (hk:V[k]? =some s) (hx:aM ops h V E o x=some s1) (hy:aM ops h V E o y=some s2)
 (hc:∀(v v2:Value) (w:World),S w→s1.holds D w v→s2.holds D w v2→Calls Tryz.prog f #[v,v2] w λe w'=>∃u,e=.returned u∧s.holds D w' u∧Below w.heap.size w w'):bX D Tryz.prog S ops h V E k o:=
 qN [(x,s1),(y,s2)] hw hk (by simp[hx,hy]) λa w Q hS hi next hn=>by
  have h1:=hi (x,s1) (by simp);have h2:=hi (y,s2) (by simp);have hrun:(execOp a.eval o).run Tryz.prog w=.ok (.enter f #[a.eval x,a.eval y]) w:=by
   simp[execOp,ho,resolve,Deferred.ofValue,invoke,Act.eval,en]
  unfold Oper.wp;rw[hrun,Oper.upon_enter];refine(hc _ _ w hS h1 h2).mono ?_;rintro e w' ⟨u,rfl,hu,hb⟩;exact hn u w' hu hb
theorem ED {f:FuncId} {x y z t:Operand} {tys:Array TypeId} {s s1 s2 s3 s4:VS} (ho:o.op=.call {callee:=.value (.func f),args:= #[x,y,z,t],argTypes:=tys }) (en:∀args w,(callFunc f args).run Tryz.prog w=.ok (.enter f args) w)
 (hw:dN ops h V o=some true) (hk:V[k]? =some s) (hx:aM ops h V E o x=some s1) (hy:aM ops h V E o y=some s2) (hz:aM ops h V E o z=some s3) (ht:aM ops h V E o t=some s4)
 (hc:∀(v v2 v3 v4:Value) (w:World),S w→s1.holds D w v→s2.holds D w v2→s3.holds D w v3→s4.holds D w v4→Calls Tryz.prog f #[v,v2,v3,v4] w λe w'=>∃u,e=.returned u∧s.holds D w' u∧Below w.heap.size w w'):bX D Tryz.prog S ops h V E k o:=
 qN [(x,s1),(y,s2),(z,s3),(t,s4)] hw hk (by simp[hx,hy,hz,ht]) λa w Q hS hi next hn=>by
  have h1:=hi (x,s1) (by simp);have h2:=hi (y,s2) (by simp);have h3:=hi (z,s3) (by simp);have h4:=hi (t,s4) (by simp);have hrun:(execOp a.eval o).run Tryz.prog w=.ok (.enter f #[a.eval x,a.eval y,a.eval z,a.eval t]) w:=by
   simp[execOp,ho,resolve,Deferred.ofValue,invoke,Act.eval,en]
  unfold Oper.wp;rw[hrun,Oper.upon_enter];refine(hc _ _ _ _ w hS h1 h2 h3 h4).mono ?_;rintro e w' ⟨u,rfl,hu,hb⟩;exact hn u w' hu hb
end
section
variable {D:Nat→Prop} {ops:Array Oper} {h:Nat} {V:List VS} {E:List (Nat×VS)} {S:World→Prop} {k:Nat} {o:Oper}
theorem fK {t:TypeId} {x:Operand} {f:Nat} {a:Addr} {r:Value} (ho:o.op=.fieldAddr t x f) (hw:dN ops h V o=some true) (hk:V[k]? =some (.eq r)) (hx:aM ops h V E o x=some (.eq (.pointer (some a))))
 (hr:∀w,(Instr.fieldAt t (.pointer (some a)) f).run Tryz.prog w=.ok r w):bX D Tryz.prog S ops h V E k o:=
 JJ x hw hk hx λev w hS h1=>by unfold execOp;simp[ho,h1,hr]
theorem fZ {t:TypeId} {x i:Operand} {u v r:Value} (ho:o.op=.indexAddr t x i) (hw:dN ops h V o=some true) (hk:V[k]? =some (.eq r)) (hx:aM ops h V E o x=some (.eq u)) (hi:aM ops h V E o i=some (.eq v))
 (hr:∀w,(Instr.indexAt t u v).run Tryz.prog w=.ok r w):bX D Tryz.prog S ops h V E k o:=
 BK x i hw hk hx hi λev w hS h1 h2=>by unfold execOp;simp[ho,h1,h2,hr]
theorem fq {t:TypeId} {x:Operand} {a:Addr} {r:Value} (ho:o.op=.load t x) (hw:dN ops h V o=some true) (hk:V[k]? =some (.eq r)) (hx:aM ops h V E o x=some (.eq (.pointer (some a))))
 (hr:∀w,S w→(Instr.loadAt t (.pointer (some a))).run Tryz.prog w=.ok r w):bX D Tryz.prog S ops h V E k o:=
 JJ x hw hk hx λev w hS h1=>by unfold execOp;simp[ho,h1,hr w hS]
theorem dA {b:BinOp} {t t2:TypeId} {x y:Operand} {u v r:Value} (ho:o.op=.binOp b t x y t2) (hw:dN ops h V o=some true) (hk:V[k]? =some (.eq r)) (hx:aM ops h V E o x=some (.eq u)) (hy:aM ops h V E o y=some (.eq v))
 (hr:∀(w:World),(do eqGuard b t x y u v;Go.binOp b t u v:Sem Value).run Tryz.prog w=.ok r w):bX D Tryz.prog S ops h V E k o:=
 BK x y hw hk hx hy λev w hS h1 h2=>by
  have:=hr w;simp only[Sem.run_bind] at this;unfold execOp;simp only[ho,h1,h2,Sem.run_bind,Sem.run_pure];revert this;cases Sem.run Tryz.prog (eqGuard b t x y u v) w with
  | ok g w1=>
   intro this;simp only[Result.andThen_ok] at this ⊢;rw[this]
   rfl
  | _=>intro this;simp[Result.andThen] at this
end
section
variable {D:Nat→Prop} {ops:Array Oper} {h:Nat} {V:List VS} {E:List (Nat×VS)} {S:World→Prop} {k:Nat} {o:Oper}
def isSlice:Option TypeDesc→Bool
 | some (.slice _)=>true
 | _=>false
theorem dS {t:TypeId} {x:Operand} {p:Option Addr} {n c:Nat} (ho:o.op=.call {callee:=.builtin .len,args:= #[x],argTypes:= #[t] }) (ht:isSlice (Tryz.prog.underlying t)=true) (hw:dN ops h V o=some true) (hk:V[k]? =some (.eq (.int .i64 n))) (hx:aM ops h V E o x=some (.eq (.slice p n c))):bX D Tryz.prog S ops h V E k o:=
 JJ x hw hk hx λev w hS h1=>by
  unfold isSlice at ht;split at ht
  · rename_i e he
    unfold execOp;simp[ho,resolve,invoke,builtin,h1,Builtin.len_,run_underlying he]
    rfl
  · cases ht
theorem EF {t:TypeId} {x:Operand} {s:List UInt8} (ho:o.op=.buildSlice t 1 #[(0,x)]) (ht:t=34) (hw:dN ops h V o=some true) (hk:V[k]? =some (.ss [s])) (hx:aM ops h V E o x=some (.eq (str s))) (hl:s.length≤maxLen) (hD:∀w,S w→D w.heap.size):bX D Tryz.prog S ops h V E k o:=
 qN [(x,.eq (str s))] hw hk (by simp[hx]) λa w Q hS hi next hn=>by
  have h1:a.eval x=str s:=hi (x,.eq (str s)) (by simp);subst ht;unfold Oper.wp;have hrun:∀ev:Operand→Value,ev x=str s→(execOp ev o).run Tryz.prog w=.ok (.value (.slice (some ⟨w.heap.size,0,none⟩) 1 1)) (w.alloc (.cells #[str s] 9)):=λev h1=>by
   unfold execOp;simp[ho,h1,go_sem]
  rw[hrun _ h1];exact hn _ _ (SS.new D w (hD w hS) [s] 9 (0,0) (by unfold maxLen;simp) (by intro u hu;rw[List.mem_singleton.1 hu];exact hl)) ((Below.refl _ w).alloc (nl _) _)
theorem BL {t:TypeId} {x y:Operand} {s u:List UInt8} (ho:o.op=.buildSlice t 2 #[(0,x),(1,y)]) (ht:t=34) (hw:dN ops h V o=some true) (hk:V[k]? =some (.ss [s,u])) (hx:aM ops h V E o x=some (.eq (str s))) (hy:aM ops h V E o y=some (.eq (str u))) (hl:s.length≤maxLen) (hl2:u.length≤maxLen) (hD:∀w,S w→D w.heap.size):bX D Tryz.prog S ops h V E k o:=
 qN [(x,.eq (str s)),(y,.eq (str u))] hw hk (by simp[hx,hy]) λa w Q hS hi next hn=>by
  have h1:a.eval x=str s:=hi (x,.eq (str s)) (by simp);have h2:a.eval y=str u:=hi (y,.eq (str u)) (by simp);subst ht;unfold Oper.wp;have hrun:∀ev:Operand→Value,ev x=str s→ev y=str u→(execOp ev o).run Tryz.prog w=.ok (.value (.slice (some ⟨w.heap.size,0,none⟩) 2 2)) (w.alloc (.cells #[str s,str u] 9)):=λev h1 h2=>by
   unfold execOp;simp[ho,h1,h2,go_sem]
  rw[hrun _ h1 h2];exact hn _ _ (SS.new D w (hD w hS) [s,u] 9 (0,0) (by unfold maxLen;simp) (by
   intro z hz;rcases List.mem_cons.1 hz with rfl|hz
   · exact hl
   · rw[List.mem_singleton.1 hz];exact hl2)) ((Below.refl _ w).alloc (nl _) _)
end
end Go.Proofs.YtakgjcfkdemipaaGreatDoor
namespace Go.Proofs.YtakgjcfkdemipaaGreatDoor
open Go Go.RowKit
abbrev vP (b o:Nat):VS:=.eq (.pointer (some ⟨b,o,none⟩))
abbrev vL (b o n c:Nat):VS:=.eq (.slice (some ⟨b,o,none⟩) n c)
abbrev vT (s:List UInt8):VS:=.eq (str s)
abbrev vI (n:Int):VS:=.eq (.int .i64 n)
abbrev vY:VS:=.eq (.bool true)
abbrev vN:VS:=.eq (.bool false)
abbrev vK:VS:=.skip
abbrev cA (b o:Nat) (v:Value):Addr×Value:=(⟨b,o,none⟩,v)
def MG (ops : Array Oper) (h : Nat) (V : List VS) (E : List (Nat × VS)) (o : Oper) : Option VS :=
 match dN ops h V o with
 | some false=>some .skip
 | some true=>match o.op with
  | .assign x=>aM ops h V E o x
  | .move x=>aM ops h V E o x
  | .pick c a b=>match aM ops h V E o c with
   | some (.eq (.bool q))=>match aM ops h V E o (if q then a else b) with
    | some (.eq r)=>some (.eq r)
    | _=>none
   | _=>none
  | .unOp .not _ x=>match aM ops h V E o x with
   | some (.eq (.bool q))=>some (.eq (.bool (!q)))
   | _=>none
  | _=>none
 | none=>none
def NS:Op→Bool
 | .assign _=>true
 | .move _=>true
 | .pick _ _ _=>true
 | .unOp .not _ _=>true
 | _=>false
section
variable {D:Nat→Prop} {ops:Array Oper} {h:Nat} {V:List VS} {E:List (Nat×VS)} {S:World→Prop}
theorem mT {k:Nat} {o:Oper} {s:VS} (_:NS o.op=true) (hk:V[k]? =some s) (hp:MG ops h V E o=some s):bX D Tryz.prog S ops h V E k o:=by
 unfold MG at hp
 split at hp
 · cases hp
   exact bV ‹_› hk
 · rename_i hw
   split at hp
   · rename_i ho;exact zG (.inl ho) hw hk hp
   · rename_i ho;exact zG (.inr ho) hw hk hp
   · rename_i ho
     split at hp
     · rename_i hc
       split at hp
       · rename_i hx
         cases hp;exact mo ho hw hk hc hx
       · cases hp
     · cases hp
   · rename_i ho
     split at hp
     · rename_i hx
       cases hp;exact qM ho hw hk hx rfl
     · cases hp
   · cases hp
 · cases hp
end
def td (D:Nat→Prop) (w:World) (a:Act):List (Nat×VS)→Prop
 | []=>True
 | p::l=>p.2.holds D w (a.eval (.tmp p.1))∧td D w a l
theorem td.all {D:Nat→Prop} {w:World} {a:Act}:∀{E:List (Nat×VS)},td D w a E→∀p∈E,p.2.holds D w (a.eval (.tmp p.1))
 | [],_,p,hp=>by cases hp
 | q::l,hE,p,hp=>by
  rcases List.mem_cons.1 hp with rfl|hp
  · exact hE.1
  · exact td.all hE.2 p hp
def Bq (P:Program) (ops:Array Oper) (h n:Nat):Bool:=P.follows .mixedOrders&&(decide (ops.size=h+1)&&(vX .any ops&&(qy .any ops h&&ES ops n)))
theorem dw {D:Nat→Prop} {P:Program} {ops:Array Oper} {a0:Act} {Q:Exit→Act→World→Prop} {id:Nat} {w:World} {v:Value} (h:Nat) (E:List (Nat×VS)) (V:List VS) (S:World→Prop) (hok:Bq P ops h a0.tmps.size=true) (hl:V[h]? =some (.eq v))
 (cQ:∀w w',S w→Below w.heap.size w w'→S w') (hS:S w.drew) (hE:td D w.drew a0 E) (hst:nN D P S ops h V E 0 ops.toList)
 (hend:∀a w',S w'→Below w.heap.size w w'→(∀(j:Nat) (s:VS) (d:Nat),j<h→V[j]? =some s→(ops[j]?).bind (·.dst)=some d→s.holds D w' (a.tmps.getD d undef))→Q .normal ((dQ a (ops.toList.take h) a0).put ((ops[h]?).bind (·.dst)) v) w'):
 (Code.region id ops true).wp P Q a0 w:=by
 unfold Bq at hok
 simp only[Bool.and_eq_true,decide_eq_true_eq] at hok
 obtain⟨h1,h2,h3,h4,h5⟩:=hok
 refine dB h E V S h1 h2 h3 h4 h5 cQ hS hE.all hst λa u w' TY hb ha hf hv=>?_
 obtain rfl:u=v:=hv _ hl
 have:=hend a w' TY hb hf
 rwa [←ha] at this
theorem EH {D:Nat→Prop} {P:Program} {ops:Array Oper} {a0:Act} {Q:Exit→Act→World→Prop} {id:Nat} {w:World} {v:Value} {d:Option Nat} (h:Nat) (E:List (Nat×VS)) (V:List VS) (S:World→Prop) (hok:Bq P ops h a0.tmps.size=true) (hl:V[h]? =some (.eq v)) (hd:(ops[h]?).bind (·.dst)=d)
 (cQ:∀w w',S w→Below w.heap.size w w'→S w') (hS:S w.drew) (hE:td D w.drew a0 E) (hst:nN D P S ops h V E 0 ops.toList)
 (hend:∀a w',S w'→Below w.heap.size w w'→(∀(j:Nat) (s:VS) (d:Nat),j<h→V[j]? =some s→(ops[j]?).bind (·.dst)=some d→s.holds D w' (a.tmps.getD d undef))→Q .normal ((dQ a (ops.toList.take h) a0).put d v) w'):
 (Code.region id ops true).wp P Q a0 w:=dw h E V S hok hl cQ hS hE hst λa w' h1 h2 h3=>by rw[hd];exact hend a w' h1 h2 h3
theorem zA {D:Nat→Prop} {P:Program} {ops:Array Oper} {a0:Act} {Q:Exit→Act→World→Prop} {id:Nat} {w:World} {s:VS} (h:Nat) (E:List (Nat×VS)) (V:List VS) (S:World→Prop) (hok:Bq P ops h a0.tmps.size=true) (hl:V[h]? =some s) {d:Option Nat} (hd:(ops[h]?).bind (·.dst)=d)
 (cQ:∀w w',S w→Below w.heap.size w w'→S w') (hS:S w.drew) (hE:td D w.drew a0 E) (hst:nN D P S ops h V E 0 ops.toList)
 (hend:∀a v w',S w'→Below w.heap.size w w'→s.holds D w' v→Q .normal ((dQ a (ops.toList.take h) a0).put d v) w'):
 (Code.region id ops true).wp P Q a0 w:=by
 unfold Bq at hok
 simp only[Bool.and_eq_true,decide_eq_true_eq] at hok
 obtain⟨h1,h2,h3,h4,h5⟩:=hok
 subst hd
 refine dB h E V S h1 h2 h3 h4 h5 cQ hS hE.all hst λa u w' TY hb ha hf hv=>?_
 have:=hend a u w' TY hb (hv _ hl)
 rwa [←ha] at this
theorem pq:(∀{α:Type} (a:α) (l:List α) (n:Nat),(a::l).take (n+1)=a::l.take n)∧(∀{α:Type} (l:List α),l.take 0=[])∧(∀(a b:Act),dQ a [] b=b)∧(∀(a b:Act) (o:Oper) (l:List Oper),dQ a (o::l) b=dQ a l (b.put o.dst (match o.dst with|some d=>a.tmps.getD d undef|none=>undef))):=⟨λ_ _ _=>rfl,λ_=>rfl,λ_ _=>rfl,λ_ _ _ _=>rfl⟩
theorem gD {w:World}:aW [] w:=λp hp=>by cases hp
theorem cM {w:World} {b o:Nat} {v:Value} {L:List (Addr×Value)} (h:w.cell? ⟨b,o,none⟩=some v) (hL:aW L w):aW (cA b o v::L) w:=λp hp=>by
 rcases List.mem_cons.1 hp with rfl|hp
 · exact h
 · exact hL p hp
end Go.Proofs.YtakgjcfkdemipaaGreatDoor
namespace Go.Proofs.YtakgjcfkdemipaaGreatDoor
open Go.RowKit
def fh (l:List (List UInt8)):Bool:=l.all λs=>decide (s.length≤200)
def BG (s:cD):Bool:=decide (s.args.length≤8)&&decide (s.sigs.length≤8)&&fh s.args&&fh s.sigs&&fh [s.res]
def MD (o:aG):Bool:=fh [o.name]&&BG o.sig
def ir (l:List aG):Bool:=l.all MD&&decide (l.length≤6)
def r8 (f:aB):Bool:=fh [f.name]&&ir f.ag&& !(decide (8<f.ops.length)&&decide (f.ops.length≤20))&& !decide (22<f.ops.length)
def nL (n:Nat):Bool:=decide (n≤8)||(decide (20<n)&&decide (n≤23))
def qq (l:List aB):Bool:=l.all (λf=>r8 f&&f.ops.all MD)&&nL l.length
theorem fF {α:Type} {p:α→Bool} {l:List α} {k:Nat} {x:α} (hk:l[k]? =some x) (hx:p x=false):(l.drop k).all p=false:=by rw[bp hk,List.all_cons,hx];rfl
theorem lM {α:Type} {p:α→Bool} {l:List α} {k:Nat} {x:α} (hk:l[k]? =some x) (hx:p x=true):(l.drop k).all p=(l.drop (k+1)).all p:=by rw[bp hk,List.all_cons,hx];rfl
set_option maxRecDepth 4000 in
theorem iA {D:Nat→Prop} (l:List (List UInt8)) (v:Value) (w:World) (hv:SS D w v l):
 Calls Tryz.prog 17 #[v] w λe w'=>e=.returned (.bool (fh l))∧Below w.heap.size w w':=by
 obtain⟨p,c,rfl,hc,hm,hle⟩:=hv.shape
 unfold maxLen at hm
 have hle:=Lib.hid hle
 go_enter Tryz.func17,Tryz.ntmps17
 go_wp2_with fail
 go_loopw [3] (λy wr=>∃i:Nat,i≤l.length∧y=.int .i64 i∧Below w.heap.size w wr∧Hid (fh l=(l.drop i).all λs=>decide (s.length≤200))) (λy _=>l.length - (intOf y).toNat)
 case atStart=>exact⟨0,Nat.zero_le _,by go_num,Below.refl _ _,rfl⟩
 case round=>
  obtain⟨i,hi,rfl,hB,hA⟩:=hrel
  by_cases hlt:i<l.length
  case neg=>
   have HX:=Lib.hid (show fh l=true by rw[hA.out,List.drop_eq_nil_of_le (by omega)];rfl);clear hA;go_wp2_with fail;go_ret;exact⟨by rw[HX.out];rfl,hB⟩
  case pos=>
   obtain⟨t,ht⟩:∃t,l[i]? =some t:=⟨_,List.getElem?_eq_getElem hlt⟩
   obtain⟨b1,o1,rfl,_,hct⟩:=(hv.below hB (nl _)).at ht
   by_cases h2:t.length≤200
   · have HX:=Lib.hid (hA.out.trans (lM ht (decide_eq_true h2)))
     have g1:¬200<t.length:=by omega
     have g2:¬(200:Int)<(t.length:Int):=by omega
     clear hA ht;go_wp2_with fail;exact⟨⟨i+1,hlt,by go_num,hB,HX⟩,by simp only[intOf];omega⟩
   · have HX:=Lib.hid (hA.out.trans (fF ht (decide_eq_false h2)))
     have g1:200<t.length:=by omega
     have g2:(200:Int)<(t.length:Int):=by omega
     clear hA ht;go_wp2_with fail;go_ret;exact⟨by rw[HX.out];rfl,hB⟩
theorem zn (w:World) (s:List UInt8) (h:s.length≤maxLen):SS Any (w.alloc (.cells #[str s] 9)) (.slice (some ⟨w.heap.size,0,none⟩) 1 1) [s]:=
 SS.new Any w trivial [s] 9 (0,0) (by simp[maxLen]) (by intro x hx;rw[List.mem_singleton.1 hx];exact h)
set_option maxRecDepth 4000 in
theorem A3 {D:Nat→Prop} (s:cD) (v:Value) (w:World) (hv:aT D w v s):
 Calls Tryz.prog 55 #[v] w λe w'=>e=.returned (.bool (BG s))∧Below w.heap.size w w':=by
 obtain⟨a,g,rfl,Fj,dy,Ia⟩:=hv
 have hA:=(Below.refl _ w).alloc (nl _) (.cells #[.bool s.iter,a,str s.res,g] 36)
 have cI:=heap_alloc_new w (.cells #[.bool s.iter,a,str s.res,g] 36)
 have H1:=iA s.args a _ (dy.below hA (nl _))
 have H2:=λW (hW:Below (w.alloc (.cells #[.bool s.iter,a,str s.res,g] 36)).heap.size (w.alloc (.cells #[.bool s.iter,a,str s.res,g] 36)) W)=>iA s.sigs g W ((Ia.below hA (nl _)).below hW (nl _))
 have H3:=λW=>iA [s.res] _ _ (zn W s.res Fj)
 have bx:=aU cI
 obtain⟨pa,ca,rfl,_,ha1,_⟩:=dy.shape
 obtain⟨pg,cg,rfl,_,hg1,_⟩:=Ia.shape
 unfold maxLen at ha1 hg1
 have HS:=Lib.hid (show BG s=(decide (s.args.length≤8)&&decide (s.sigs.length≤8)&&fh s.args&&fh s.sigs&&fh [s.res]) from rfl)
 generalize BG s=SK at *
 generalize fh s.args=r1 at *
 generalize fh s.sigs=r2 at *
 generalize fh [s.res]=r3 at *
 clear dy Ia
 by_cases g1:s.args.length≤8
 case neg=>
  have HX:=Lib.hid (show SK=false by rw[HS.out,decide_eq_false g1];rfl);have g2:¬(s.args.length:Int)≤8:=by omega
  clear HS H1 H2 H3;go_enter Tryz.func55,Tryz.ntmps55;go_wp2_with fail;go_ret;exact⟨by rw[HX.out];first|done|rfl,hA⟩
 case pos =>
  have g2:(s.args.length:Int)≤8:=by omega
  by_cases g3:s.sigs.length≤8
  case neg=>
   have HX:=Lib.hid (show SK=false by rw[HS.out,decide_eq_false g3];simp);have g4:¬(s.sigs.length:Int)≤8:=by omega
   clear HS H1 H2 H3;go_enter Tryz.func55,Tryz.ntmps55;go_wp2_with fail;go_ret;exact⟨by rw[HX.out];first|done|rfl,hA⟩
  case pos=>
   have g4:(s.sigs.length:Int)≤8:=by omega
   have Ot:=Lib.hid (show SK=(r1&&r2&&r3) by rw[HS.out,decide_eq_true g1,decide_eq_true g3];simp);clear HS;rcases r1 with _|_
   · have HX:=Lib.hid (show SK=false by rw[Ot.out];rfl)
     clear Ot H2 H3;go_enter Tryz.func55,Tryz.ntmps55;go_wp2_with (go_at_call 17;refine H1.mono ?_;clear H1;rintro e w1 ⟨rfl,ay⟩);go_ret;exact⟨by rw[HX.out];first|done|rfl,hA.trans (af ay hA.size)⟩
   rcases r2 with _|_
   · have HX:=Lib.hid (show SK=false by rw[Ot.out];rfl)
     clear Ot H3;go_enter Tryz.func55,Tryz.ntmps55;go_wp2_with (first
      | (go_at_call 17;refine H1.mono ?_;clear H1;rintro e w1 ⟨rfl,ay⟩;have H2:=H2 _ ay;have hk:=aU (ah cI ay))
      | (go_at_call 17;refine H2.mono ?_;clear H2;rintro e w2 ⟨rfl,aA⟩))
     go_ret;exact⟨by rw[HX.out];first|done|rfl,(hA.trans (af ay hA.size)).trans (af aA (by have:=ay.size;simp at this;omega))⟩
   · have HX:=Lib.hid (show SK=r3 by rw[Ot.out];rfl)
     clear Ot;go_enter Tryz.func55,Tryz.ntmps55;go_wp2_with (first
      | (go_at_call 17;refine H1.mono ?_;clear H1;rintro e w1 ⟨rfl,ay⟩;have H2:=H2 _ ay;have hk:=aU (ah cI ay))
      | (go_at_call 17;refine H2.mono ?_;clear H2;rintro e w2 ⟨rfl,aA⟩;have hk2:=aU (ah (ah cI ay) aA))
      | (go_at_call 17;refine(H3 _).mono ?_;clear H3;rintro e w3 ⟨rfl,aK⟩))
     go_ret;have bJ:=(hA.trans (af ay hA.size)).trans (af aA (by have:=ay.size;simp at this;omega));exact⟨by rw[HX.out];first|done|rfl,(bJ.alloc bJ.size _).trans (af aK (by have:=bJ.size;simp;omega))⟩
end Go.Proofs.YtakgjcfkdemipaaGreatDoor
namespace Go.Proofs.YtakgjcfkdemipaaGreatDoor
open Go.RowKit
def jT (f:aB):Bool:=r8 f&&f.ops.all MD
theorem Ku (l:List aB):qq l=(l.all jT&&nL l.length):=rfl
set_option maxRecDepth 4000 in
theorem sr {D:Nat→Prop} (l:List aG) (v:Value) (w:World) (hv:aJ D w v l):
 Calls Tryz.prog 16 #[v] w λe w'=>e=.returned (.bool (ir l))∧Below w.heap.size w w':=by
 obtain⟨p,c,rfl,hc,hm,hle⟩:=hv.shape
 unfold maxLen at hm
 clear hle
 go_enter Tryz.func16,Tryz.ntmps16
 go_wp2_with fail
 go_loopw [3] (λy wr=>∃i:Nat,i≤l.length∧y=.int .i64 i∧Below w.heap.size w wr∧Hid (ir l=((l.drop i).all MD&&decide (l.length≤6)))) (λy _=>l.length - (intOf y).toNat)
 case atStart=>exact⟨0,Nat.zero_le _,by go_num,Below.refl _ _,rfl⟩
 case round =>
  obtain⟨i,hi,rfl,hB,hA⟩:=hrel
  by_cases hlt:i<l.length
  case neg=>
   have HX:=Lib.hid (show ir l=decide (l.length≤6) by rw[hA.out,List.drop_eq_nil_of_le (by omega)];rfl);clear hA
   by_cases h6:l.length≤6
   all_goals
    have HX:=Lib.hid (HX.out.trans (by first|exact decide_eq_true h6|exact decide_eq_false h6));have h7:(l.length:Int)≤6↔l.length≤6:=by omega
    simp only[h6,iff_true,iff_false] at h7;go_wp2_with fail;go_ret;exact⟨by rw[HX.out];first|done|rfl,hB⟩
  case pos=>
   obtain⟨x,hx⟩:∃x,l[i]? =some x:=⟨_,List.getElem?_eq_getElem hlt⟩
   obtain⟨b1,o1,av,sv,rfl,_,hxl,dy,cQ,uR,kK,mR,qG,sN⟩:=(hv.below hB (nl _)).at hx;have GO:=λW (hW:Below wr.heap.size wr W)=>A3 x.sig _ W ⟨av,sv,rfl,hxl.2,dy.below hW (nl _),cQ.below hW (nl _)⟩
   obtain⟨pa,ca,rfl,_⟩:=dy.shape;obtain⟨ps,cs,rfl,_⟩:=cQ.shape;have HS:=iA [x.name] _ _ (zn wr x.name hxl.1);have hE:=(Below.refl _ wr).alloc (nl _) (.cells #[str x.name] 9);have HO:=Lib.hid (show MD x=(fh [x.name]&&BG x.sig) from rfl);have rZ:=Lib.hid hA.out;clear dy cQ;generalize fh [x.name]=q1 at *;generalize BG x.sig=q2 at *;rcases q1 with _|_
   · have HX:=Lib.hid (show ir l=false by rw[rZ.out,fF hx (by rw[HO.out];rfl)];rfl)
     clear hA rZ hx HO GO;go_wp2_with (go_at_call 17;refine HS.mono ?_;clear HS;rintro e w1 ⟨rfl,ay⟩);go_ret;exact⟨by rw[HX.out];first|done|rfl,hB.trans (af (hE.trans (af ay hE.size)) hB.size)⟩
   rcases q2 with _|_
   · have HX:=Lib.hid (show ir l=false by rw[rZ.out,fF hx (by rw[HO.out];rfl)];rfl)
     clear hA rZ hx HO;go_wp2_with (first
      | (go_at_call 55;refine(GO w1 bJ).mono ?_;clear GO;rintro e w2 ⟨rfl,aA⟩)
      | (go_at_call 17;refine HS.mono ?_;clear HS;rintro e w1 ⟨rfl,ay⟩;have bJ:=hE.trans (af ay hE.size);have Vh:=Below.keep bJ uR;have Vi:=Below.keep bJ kK;have Vj:=Below.keep bJ mR;have Mw:=Below.keep bJ qG;have Vk:=Below.keep bJ sN))
     go_ret;exact⟨by rw[HX.out];first|done|rfl,hB.trans (af (bJ.trans (af aA bJ.size)) hB.size)⟩
   · have HX:=Lib.hid (rZ.out.trans (by rw[lM hx (by rw[HO.out];rfl)]))
     clear hA rZ hx HO;go_wp2_with (first
      | (go_at_call 55;refine(GO w1 bJ).mono ?_;clear GO;rintro e w2 ⟨rfl,aA⟩)
      | (go_at_call 17;refine HS.mono ?_;clear HS;rintro e w1 ⟨rfl,ay⟩;have bJ:=hE.trans (af ay hE.size);have Vh:=Below.keep bJ uR;have Vi:=Below.keep bJ kK;have Vj:=Below.keep bJ mR;have Mw:=Below.keep bJ qG;have Vk:=Below.keep bJ sN))
     exact⟨⟨i+1,hlt,by go_num,hB.trans (af (bJ.trans (af aA bJ.size)) hB.size),HX⟩,by simp only[intOf];omega⟩
theorem lF (r:List UInt8) (v:Value) (w:World) (hv:∃p n c,v=.slice p n c):
 Calls Tryz.prog 57 #[str r,v] w λe w'=>e=.returned (.agg #[.bool false,v,str r,.slice none 0 0])∧Below w.heap.size w w':=by
 obtain⟨p,n,c,rfl⟩:=hv
 go_enter Tryz.func57,Tryz.ntmps57
 go_wp2_with fail
 refine bodyPost_ret (v:=.agg #[.bool false,.slice p n c,str r,.slice none 0 0]) (by simp[results,Tryz.results57,go_sem]) rfl ?_
 exact⟨rfl,(Below.refl _ _).alloc (nl _) _⟩
end Go.Proofs.YtakgjcfkdemipaaGreatDoor
namespace Go.Proofs.YtakgjcfkdemipaaGreatDoor
open Go.RowKit
theorem Fb {f:aB} (h:fh [f.name]=false):jT f=false:=by unfold jT r8;rw[h];rfl
theorem Fc {f:aB} (h:ir f.ag=false):jT f=false:=by unfold jT r8;rw[h];simp
theorem Fe {f:aB} (h:8<f.ops.length) (h2:f.ops.length≤20):jT f=false:=by unfold jT r8;rw[decide_eq_true h,decide_eq_true h2];simp
theorem Ff {f:aB} (h:22<f.ops.length):jT f=false:=by unfold jT r8;rw[decide_eq_true h];simp
theorem Fg {f:aB} (h1:fh [f.name]=true) (h2:ir f.ag=true) (h3:¬(8<f.ops.length∧f.ops.length≤20)) (h4:¬22<f.ops.length):jT f=f.ops.all MD:=by
 unfold jT r8
 rw[h1,h2,decide_eq_false h4]
 have:(decide (8<f.ops.length)&&decide (f.ops.length≤20))=false:=by
  rw[Bool.and_eq_false_iff,decide_eq_false_iff_not,decide_eq_false_iff_not];omega
 rw[this]
 rfl
set_option maxRecDepth 4000 in
theorem I5 {D : Nat → Prop} (l : List aB) (v : Value) (w : World) (hv : aZ D w v l) :
 Calls Tryz.prog 15 #[v] w λe w'=>e=.returned (.bool (qq l))∧Below w.heap.size w w':=by
 obtain⟨p,c,rfl,hc,hm,hle⟩:=hv.shape
 unfold maxLen at hm
 clear hle
 go_enter Tryz.func15,Tryz.ntmps15
 go_wp2_with fail
 go_loopw [3] (λy wr=>∃i:Nat,i≤l.length∧y=.int .i64 i∧Below w.heap.size w wr∧Hid (qq l=((l.drop i).all jT&&nL l.length))) (λy _=>l.length - (intOf y).toNat)
 case atStart=>exact⟨0,Nat.zero_le _,by go_num,Below.refl _ _,rfl⟩
 case round =>
  obtain⟨i,hi,rfl,hB,hA⟩:=hrel
  by_cases hlt:i<l.length
  case neg=>
   have HX:=Lib.hid (show qq l=nL l.length by rw[hA.out,List.drop_eq_nil_of_le (by omega)];rfl);clear hA;have hz:(l.length≤8∧nL l.length=true)∨(¬l.length≤8∧¬20<l.length∧nL l.length=false)∨(¬l.length≤8∧20<l.length∧¬l.length≤23∧nL l.length=false)∨(¬l.length≤8∧20<l.length∧l.length≤23∧nL l.length=true):=by
    unfold nL;simp only[Bool.or_eq_true,Bool.or_eq_false_iff,Bool.and_eq_true,Bool.and_eq_false_iff,decide_eq_true_eq,decide_eq_false_iff_not];omega
   rcases hz with⟨z1,z⟩|⟨z1,z2,z⟩|⟨z1,z2,z3,z⟩|⟨z1,z2,z3,z⟩
   all_goals
    have HX:=Lib.hid (HX.out.trans z);have y1:(l.length:Int)≤8↔l.length≤8:=by omega
    have y2:(20:Int)<(l.length:Int)↔20<l.length:=by omega
    have y3:(l.length:Int)≤23↔l.length≤23:=by omega
    clear z;go_wp2_with fail;go_ret;exact⟨by rw[HX.out];first|done|rfl,hB⟩
  case pos=>
   obtain⟨x,hx⟩:∃x,l[i]? =some x:=⟨_,List.getElem?_eq_getElem hlt⟩
   obtain⟨b1,o1,nv,ov,rfl,_,hxl,hN,hO,uR,kK,mR,qG,sN⟩:=(hv.below hB (nl _)).at hx;have HW:=λW (hW:Below wr.heap.size wr W)=>sr x.ag _ W (hN.below hW (nl _))
   have YJ:=hO.shape;have nk:=hO;obtain⟨pn,cn,rfl,_⟩:=hN.shape;obtain⟨po,co,rfl,_,Zu,_⟩:=hO.shape;unfold maxLen at Zu;have HS:=iA [x.name] _ _ (zn wr x.name hxl);have hE:=(Below.refl _ wr).alloc (nl _) (.cells #[str x.name] 9);have rZ:=Lib.hid hA.out;clear hN hO YJ;rcases h1:fh [x.name] with _|_
   · have HX:=Lib.hid (show qq l=false by rw[rZ.out,fF hx (Fb h1)];rfl)
     rw[h1] at HS;clear hA rZ hx HW h1;go_wp2_with (go_at_call 17;refine HS.mono ?_;clear HS;rintro e w1 ⟨rfl,ay⟩);go_ret;exact⟨by rw[HX.out];first|done|rfl,hB.trans (af (hE.trans (af ay hE.size)) hB.size)⟩
   rw[h1] at HS;rcases h2:ir x.ag with _|_
   · have HX:=Lib.hid (show qq l=false by rw[rZ.out,fF hx (Fc h2)];rfl)
     rw[h2] at HW;clear hA rZ hx h1 h2;go_wp2_with (first
      | (go_at_call 16;refine(HW w1 bJ).mono ?_;clear HW;rintro e w2 ⟨rfl,aA⟩)
      | (go_at_call 17;refine HS.mono ?_;clear HS;rintro e w1 ⟨rfl,ay⟩;have bJ:=hE.trans (af ay hE.size);have Mw:=Below.keep bJ qG))
     go_ret;exact⟨by rw[HX.out];first|done|rfl,hB.trans (af (bJ.trans (af aA bJ.size)) hB.size)⟩
   rw [h2] at HW;have hz : (8 < x.ops.length ∧ x.ops.length ≤ 20 ∧ qq l = false) ∨ (8 < x.ops.length ∧ ¬ x.ops.length ≤ 20 ∧ 22 < x.ops.length ∧ qq l = false) ∨ (¬ (8 < x.ops.length ∧ x.ops.length ≤ 20) ∧ ¬ 22 < x.ops.length) := by
    by_cases k1:8<x.ops.length∧x.ops.length≤20
    · exact .inl ⟨k1.1,k1.2,by rw[rZ.out,fF hx (Fe k1.1 k1.2)];rfl⟩
    · by_cases k2:22<x.ops.length
      · exact .inr (.inl ⟨by omega,by omega,k2,by rw[rZ.out,fF hx (Ff k2)];rfl⟩)
      · exact .inr (.inr ⟨k1,k2⟩)
   have y1:(8:Int)<(x.ops.length:Int)↔8<x.ops.length:=by omega
   have y2:(x.ops.length:Int)≤20↔x.ops.length≤20:=by omega
   have y3:(22:Int)<(x.ops.length:Int)↔22<x.ops.length:=by omega
   rcases hz with⟨z1,z2,z⟩|⟨z1,z2,z3,z⟩|⟨z1,z3⟩
   · have HX:=Lib.hid z
     clear z hA rZ hx h1 h2;go_wp2_with (first
      | (go_at_call 16;refine(HW w1 bJ).mono ?_;clear HW;rintro e w2 ⟨rfl,aA⟩;have bW:=bJ.trans (af aA bJ.size);have SC:=Below.keep bW sN)
      | (go_at_call 17;refine HS.mono ?_;clear HS;rintro e w1 ⟨rfl,ay⟩;have bJ:=hE.trans (af ay hE.size);have Mw:=Below.keep bJ qG))
     go_ret;exact⟨by rw[HX.out];first|done|rfl,hB.trans (af bW hB.size)⟩
   · have HX:=Lib.hid z
     clear z hA rZ hx h1 h2;go_wp2_with (first
      | (go_at_call 16;refine(HW w1 bJ).mono ?_;clear HW;rintro e w2 ⟨rfl,aA⟩;have bW:=bJ.trans (af aA bJ.size);have SC:=Below.keep bW sN)
      | (go_at_call 17;refine HS.mono ?_;clear HS;rintro e w1 ⟨rfl,ay⟩;have bJ:=hE.trans (af ay hE.size);have Mw:=Below.keep bJ qG))
     go_ret;exact⟨by rw[HX.out];first|done|rfl,hB.trans (af bW hB.size)⟩
   have HX:=Lib.hid (rZ.out.trans (by rw[bp hx,List.all_cons,Fg h1 h2 z1 z3]));have RG:(8<x.ops.length∧¬x.ops.length≤20)∨¬8<x.ops.length:=by omega
   clear hA rZ hx h1 h2 z1;rcases RG with⟨z1,z2⟩|z1
   all_goals
    go_wp2_with (first
     | (go_at_call 16;refine(HW w1 bJ).mono ?_;clear HW;rintro e w2 ⟨rfl,aA⟩;have bW:=bJ.trans (af aA bJ.size);have SC:=Below.keep bW sN)
     | (go_at_call 17;refine HS.mono ?_;clear HS;rintro e w1 ⟨rfl,ay⟩;have bJ:=hE.trans (af ay hE.size);have Mw:=Below.keep bJ qG))
    have B0:=nk.below bW (nl _);have CD:=hB.trans (af bW hB.size);have ZW:=Lib.hid SC;clear SC Mw uR kK mR qG sN y1 y2 y3 ay aA hE bJ;go_loopw [4] (λy wx=>∃k:Nat,k≤x.ops.length∧y=.int .i64 k∧Below w2.heap.size w2 wx∧Hid (qq l=((x.ops.drop k).all MD&&(l.drop (i+1)).all jT&&nL l.length))) (λy _=>x.ops.length - (intOf y).toNat)
    case atStart=>exact⟨0,Nat.zero_le _,by go_num,Below.refl _ _,HX⟩
    case round =>
     obtain⟨k,hk,rfl,dg,hA⟩:=hrel;have WW:=Below.keep dg ZW.out;clear HX
     by_cases hlk:k<x.ops.length
     case neg=>
      have HX:=Lib.hid (show qq l=((l.drop (i+1)).all jT&&nL l.length) by rw[hA.out,List.drop_eq_nil_of_le (by omega)];rfl);clear hA;go_wp2_with fail;exact⟨⟨i+1,hlt,by go_num,CD.trans (af dg CD.size),HX⟩,by simp only[intOf];omega⟩
     case pos=>
      obtain⟨y,hy⟩:∃y,x.ops[k]? =some y:=⟨_,List.getElem?_eq_getElem hlk⟩
      obtain⟨b2,o2,av,sv,kj,_,KY,dy,cQ,SG,SH,Vp,SI,Vq⟩:=(B0.below dg (nl _)).at hy;subst kj;have GO:=λW (hW:Below wr.heap.size wr W)=>A3 y.sig _ W ⟨av,sv,rfl,KY.2,dy.below hW (nl _),cQ.below hW (nl _)⟩
      obtain⟨pa,ca,rfl,_⟩:=dy.shape;obtain⟨ps,cs,rfl,_⟩:=cQ.shape;have HS:=iA [y.name] _ _ (zn wr y.name KY.1);have hE:=(Below.refl _ wr).alloc (nl _) (.cells #[str y.name] 9);have HO:=Lib.hid (show MD y=(fh [y.name]&&BG y.sig) from rfl);have rZ:=Lib.hid hA.out;have hBw:=CD.trans (af dg CD.size);clear dy cQ hA;generalize fh [y.name]=q1 at *;generalize BG y.sig=q2 at *;rcases q1 with _|_
      · have HX:=Lib.hid (show qq l=false by rw[rZ.out,fF hy (by rw[HO.out];rfl)];rfl)
        clear rZ hy HO GO;go_wp2_with (go_at_call 17;refine HS.mono ?_;clear HS;rintro e w3 ⟨rfl,aK⟩);go_ret;exact⟨by rw[HX.out];first|done|rfl,hBw.trans (af (hE.trans (af aK hE.size)) hBw.size)⟩
      rcases q2 with _|_
      · have HX:=Lib.hid (show qq l=false by rw[rZ.out,fF hy (by rw[HO.out];rfl)];rfl)
        clear rZ hy HO;go_wp2_with (first
         | (go_at_call 55;refine(GO w3 dH).mono ?_;clear GO;rintro e w4 ⟨rfl,hb4⟩)
         | (go_at_call 17;refine HS.mono ?_;clear HS;rintro e w3 ⟨rfl,aK⟩;have dH:=hE.trans (af aK hE.size);have ZQ:=Below.keep dH WW;have Vh:=Below.keep dH SG;have Vi:=Below.keep dH SH;have Vj:=Below.keep dH Vp;have Mw:=Below.keep dH SI;have Vk:=Below.keep dH Vq))
        go_ret;exact⟨by rw[HX.out];first|done|rfl,hBw.trans (af (dH.trans (af hb4 dH.size)) hBw.size)⟩
      · have HX:=Lib.hid (rZ.out.trans (by rw[lM hy (by rw[HO.out];rfl)]))
        clear rZ hy HO;go_wp2_with (first
         | (go_at_call 55;refine(GO w3 dH).mono ?_;clear GO;rintro e w4 ⟨rfl,hb4⟩)
         | (go_at_call 17;refine HS.mono ?_;clear HS;rintro e w3 ⟨rfl,aK⟩;have dH:=hE.trans (af aK hE.size);have ZQ:=Below.keep dH WW;have Vh:=Below.keep dH SG;have Vi:=Below.keep dH SH;have Vj:=Below.keep dH Vp;have Mw:=Below.keep dH SI;have Vk:=Below.keep dH Vq))
        exact⟨⟨k+1,hlk,by go_num,dg.trans (af (dH.trans (af hb4 dH.size)) dg.size),HX⟩,by simp only[intOf];omega⟩
end Go.Proofs.YtakgjcfkdemipaaGreatDoor
