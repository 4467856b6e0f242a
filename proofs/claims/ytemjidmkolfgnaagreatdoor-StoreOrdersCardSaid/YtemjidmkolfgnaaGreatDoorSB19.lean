/-
  Lemmas for the statement: a region that draws its order, told by the specifications of its values: each operation by one lemma. No condition.
-/
import Derived.Test.YtemjidmkolfgnaaGreatDoorSBn
import Derived.Test.YtemjidmkolfgnaaGreatDoorSB17
import Derived.Test.YtemjidmkolfgnaaGreatDoorSB18
namespace Go.Proofs.YtemjidmkolfgnaaGreatDoor
open Go Go.RowKit
inductive VS where
 | skip
 | eq (v:Value)
 | ss (L:List (List UInt8))
 | sig (s:fT)
 | op (o:dw)
 | ops (l:List dw)
 | faces (l:List aZ)
 | prop (F:World→Value→Prop)
 | int (k:IntKind)
def VS.holds (D:Nat→Prop) (w:World) (v:Value):VS→Prop
 | .skip=>v=undef
 | .eq u=>v=u
 | .ss L=>SS D w v L
 | .sig s=>iX D w v s
 | .op o=>CS D w v o
 | .ops l=>dM D w v l
 | .faces l=>jF D w v l
 | .prop F=>∀w',Below w.heap.size w w'→F w' v
 | .int k=>∃x,v=.int k x
theorem VS.holds.below {D:Nat→Prop} {w w':World} {v:Value} {s:VS} (h:s.holds D w v) (hb:Below w.heap.size w w'):s.holds D w' v:=by
 cases s with
 | skip=>exact h
 | eq u=>exact h
 | ss L=>exact SS.below (show SS D w v L from h) hb zr
 | sig x=>exact iX.below (show iX D w v x from h) hb zr
 | op x=>exact CS.below (show CS D w v x from h) hb zr
 | ops l=>exact dM.below (show dM D w v l from h) hb zr
 | faces l=>exact jF.below (show jF D w v l from h) hb zr
 | prop F=>exact λw2 h2=>h w2 (hb.trans (aa h2 hb.size))
 | int k=>exact h
theorem Fg {j:Nat} (h:j≤1000000):IntKind.i64.wrap (j:Int)=j:=by
 simp[IntKind.wrap,IntKind.bits,IntKind.signed]
 omega
def jr (o:Oper) (j:Nat):Bool:=o.after.toList.any λe=>decide (e.on=j)&&Region.binds .any e
def aL (ops:Array Oper) (h:Nat) (V:List VS) (E:List (Nat×VS)) (o:Oper):Operand→Option VS
 | .const v=>some (.eq v)
 | .tmp d=>match (ops.toList.take h).findIdx? (λp=>decide (p.dst=some d)) with
  | some j=>if jr o j then V[j]? else none
  | none=>(E.find? λp=>decide (p.1=d)).map (·.2)
 | _=>none
def cw (ops:Array Oper) (h:Nat) (V:List VS) (o:Oper):Option Bool:=
 match o.guard with
 | none=>some true
 | some (g,b)=>if jr o g&&decide (g<h)&&((ops[g]?).bind (·.dst)).isSome then
  match V[g]? with
  | some (.eq (.bool c))=>some (c==b)
  | some .skip=>some false
  | _=>none
  else none
def mB (D:Nat→Prop) (V:List VS) (j:Nat) (v:Value) (w:World):Prop:=∀s,V[j]? =some s→s.holds D w v
section
variable {D:Nat→Prop} {P:Program} {ops:Array Oper} {h:Nat} {V:List VS} {E:List (Nat×VS)} {a0:Act} {S:World→Prop}
def AK (D:Nat→Prop) (S:World→Prop) (E:List (Nat×VS)) (a0:Act) (w:World):Prop:=S w∧∀p∈E,p.2.holds D w (a0.eval (.tmp p.1))
theorem gC {o:Oper} {j:Nat} (he:jr o j=true):∃e∈o.after,Region.binds .any e=true∧e.on=j:=by
 unfold jr at he
 rw[List.any_eq_true] at he
 obtain⟨e,Bi,yu⟩:=he
 simp only[Bool.and_eq_true,decide_eq_true_eq] at yu
 exact⟨e,by simpa using Bi,yu.2,yu.1⟩
theorem ji {o:Oper} {x:Operand} {s:VS} (hs:aL ops h V E o x=some s) {a:Act} {w:World} (hS:AK D S E a0 w)
 (hd:∀e∈o.after,Region.binds .any e=true→∀ok d,ops[e.on]? =some ok→ok.dst=some d→mB D V e.on (a.eval (.tmp d)) w) (ho:∀s,jI ops h s→a.eval (.tmp s)=a0.eval (.tmp s)):s.holds D w (a.eval x):=by
 cases x with
 | const v=>unfold aL at hs;cases hs;rfl
 | tmp d=>
  unfold aL at hs;simp only at hs;split at hs
  · rename_i j hj
    split at hs
    · rename_i he
      obtain⟨e,Bi,yu,rfl⟩:=gC he;rw[List.findIdx?_eq_some_iff_getElem] at hj;obtain⟨hlt,DK,_⟩:=hj;have hlt2:e.on<ops.size:=by simp at hlt;omega
      refine hd e Bi yu ops[e.on] d (Array.getElem?_eq_getElem hlt2) ?_ s hs
      simpa using DK
    · cases hs
  · rename_i hj
    rw[List.findIdx?_eq_none_iff] at hj;rw[ho d λj p UI hjp e=>by
     have hm:p∈ops.toList.take h:=List.mem_of_getElem? (i:=j) (by rw[List.getElem?_take_of_lt UI,Array.getElem?_toList];exact hjp);have:=hj p hm;simp[e] at this]
    rw[Option.map_eq_some_iff] at hs;obtain⟨p,hp,rfl⟩:=hs;have:=hS.2 p (List.mem_of_find?_eq_some hp);have N2:p.1=d:=by simpa using List.find?_some hp
    rwa [N2] at this
 | global g=>unfold aL at hs;cases hs
 | func f=>unfold aL at hs;cases hs
theorem AG {o:Oper} {c:Bool} (hw:cw ops h V o=some c) {a:Act} {w:World}
 (hd:∀e∈o.after,Region.binds .any e=true→∀ok d,ops[e.on]? =some ok→ok.dst=some d→mB D V e.on (a.eval (.tmp d)) w):Region.wanted o (yielded ops a.tmps)=c:=by
 unfold cw at hw
 rcases hg:o.guard with _|⟨g,b⟩
 · rw[hg] at hw
   cases hw;simp[Region.wanted,hg]
 · rw [hg] at hw
   simp only at hw;split at hw
   · rename_i hc
     rw[Bool.and_eq_true,Bool.and_eq_true] at hc;obtain⟨e,Bi,yu,rfl⟩:=gC hc.1.1;rcases hop:ops[e.on]? with _|og
     · rw[hop] at hc;simp at hc
     · rw [hop] at hc
       rcases DK:og.dst with _|d
       · simp[DK] at hc
       · have hf:=hd e Bi yu og d hop DK
         have hy:∀v,a.eval (.tmp d)=v→yielded ops a.tmps e.on=(match v with|.bool x=>some x|_=>none):=by
          intro v hv;have hv:a.tmps[d]?.getD undef=v:=kU hv;unfold yielded;rw[hop];simp only[Option.bind_some,DK];rcases hq:a.tmps[d]? with _|u
          · rw[hq] at hv;simp at hv;rw[←hv];rfl
          · rw[hq] at hv;simp at hv;subst hv;cases u<;>rfl
         split at hw
         · rename_i x hx
           cases hw;have:=hy _ (hf _ hx);simp only[Region.wanted,hg,this];cases x<;>cases b<;>rfl
         · rename_i hx
           cases hw;have:=hy _ (hf _ hx);simp only[Region.wanted,hg,this]
           rfl
         · cases hw
   · cases hw
def Hh (D:Nat→Prop) (P:Program) (S:World→Prop) (o:Oper) (ins:List (Operand×VS)) (s:VS):Prop:=
 ∀(a:Act) (w:World) (Q:Exit→Act→World→Prop),S w→(∀p∈ins,p.2.holds D w (a.eval p.1))→∀next:Act→World→Prop,(∀v w',s.holds D w' v→Below w.heap.size w w'→next (a.put o.dst v) w')→o.wp P a w next Q
def bB (D:Nat→Prop) (P:Program) (S:World→Prop) (ops:Array Oper) (h:Nat) (V:List VS) (E:List (Nat×VS)) (k:Nat) (o:Oper):Prop:=
 ∃s,V[k]? =some s∧((cw ops h V o=some false∧s=.skip)∨(cw ops h V o=some true∧∃ins,(∀p∈ins,aL ops h V E o p.1=some p.2)∧Hh D P S o ins s))
def dJ (D:Nat→Prop) (P:Program) (S:World→Prop) (ops:Array Oper) (h:Nat) (V:List VS) (E:List (Nat×VS)):Nat→List Oper→Prop
 | _,[]=>True
 | k,o::l=>bB D P S ops h V E k o∧dJ D P S ops h V E (k+1) l
theorem GZ {Q:Exit→Act→World→Prop} {k:Nat} {o:Oper} {S':World→Prop} (T6:∀w,S' w→S w) (hs:bB D P S ops h V E k o):CX P .any ops Q (AK D S' E a0) (mB D V) a0 h k o:=by
 intro a w hS hd ho next hn
 obtain⟨s,h1,⟨h2,rfl⟩|⟨h2,ins,h3,h4⟩⟩:=hs
 · rw[AG h2 hd,if_neg (by simp)]
   exact hn undef w (λs' hs'=>by rw[h1] at hs';cases hs';rfl) (zb _)
 · rw[AG h2 hd,if_pos rfl]
   exact .inl (h4 a w Q (T6 w hS.1) (λp hp=>ji (h3 p hp) hS hd ho) next λv w' hv hb=>hn v w' (λs' hs'=>by rw[h1] at hs';cases hs';exact hv) hb)
theorem qP:∀(l:List Oper) (k:Nat),dJ D P S ops h V E k l→∀i o,l[i]? =some o→bB D P S ops h V E (k+i) o
 | [],_,_,i,o,ho=>by simp at ho
 | x::l,k,hs,0,o,ho=>by
  simp only[List.getElem?_cons_zero,Option.some.injEq] at ho;subst ho;exact hs.1
 | x::l,k,hs,i+1,o,ho=>by
  rw[List.getElem?_cons_succ] at ho;have:=qP l (k+1) hs.2 i o ho
  rwa [show k+1+i=k+(i+1) by omega] at this
theorem gM {Q:Exit→Act→World→Prop} {id:Nat} {w:World} (h:Nat) (E:List (Nat×VS)) (V:List VS) (S:World→Prop) (hm:P.follows .mixedOrders=true) (hsz:ops.size=h+1) (hf:gq .any ops=true) (hb:iF .any ops h=true) (hd:AZ ops a0.tmps.size=true)
 (fR:∀w w',S w→Below w.heap.size w w'→S w') (hS:S w.drew) (hE:∀p∈E,p.2.holds D w.drew (a0.eval (.tmp p.1))) (hst:dJ D P S ops h V E 0 ops.toList)
 (hend:∀a v w',S w'→Below w.heap.size w w'→a=bD a (ops.toList.take h) a0→(∀(j:Nat) (s:VS) (d:Nat),j<h→V[j]? =some s→(ops[j]?).bind (·.dst)=some d→s.holds D w' (a.tmps.getD d undef))→(∀s,V[h]? =some s→s.holds D w' v)→Q .normal (a.put ((ops[h]?).bind (·.dst)) v) w'):
 (Code.region id ops true).wp P Q a0 w:=by
 refine xM (S:=AK D (λw'=>S w'∧Below w.heap.size w w') E a0) (A:=mB D V) h hm hsz hf hb hd (λj v w1 w2 h hb s hs=>(h s hs).below hb) (λw1 w2 h hb=>⟨⟨fR _ _ h.1.1 hb,h.1.2.trans (aa hb h.1.2.size)⟩,λp hp=>(h.2 p hp).below hb⟩) ⟨⟨hS,(zb w).drew⟩,hE⟩ (λi o ho=>GZ (λw h=>h.1) ?_) ?_
 · have:=qP _ 0 hst i o (by rw[Array.getElem?_toList];exact ho)
   rwa [Nat.zero_add] at this
 · intro a w1 v w' o h1 h2 h3 h4 h5 ho hv Ab
   have hq:=hend a v w' (fR _ _ h4.1.1 Ab) (h4.1.2.trans (aa Ab h4.1.2.size)) (ng h1 h2 h3) (λj s d hj hs js=>by
    rw[Option.bind_eq_some_iff] at js;obtain⟨oj,jt,rG⟩:=js;exact(h5 j oj d hj jt rG s hs).below Ab) hv
   rwa [ho] at hq
theorem nS {k:Nat} {o:Oper} (hw:cw ops h V o=some false) (hk:V[k]? =some .skip):bB D P S ops h V E k o:=⟨_,hk,.inl ⟨hw,rfl⟩⟩
theorem rQ {k:Nat} {o:Oper} {s:VS} (ins:List (Operand×VS)) (hw:cw ops h V o=some true) (hk:V[k]? =some s) (hi:ins.map (λp=>aL ops h V E o p.1)=ins.map λp=>some p.2) (hs:Hh D P S o ins s):bB D P S ops h V E k o:=
 ⟨s,hk,.inr ⟨hw,ins,λp hp=>List.map_inj_left.1 hi p hp,hs⟩⟩
theorem Oc {k:Nat} {o:Oper} {x:Operand} {s:VS} (ho:o.op=.assign x∨o.op=.move x) (hw:cw ops h V o=some true) (hk:V[k]? =some s) (hx:aL ops h V E o x=some s):bB D P S ops h V E k o:=by
 refine⟨s,hk,.inr ⟨hw,[(x,s)],by simpa using hx,λa w Q hS hi next hn=>?_⟩⟩
 have Vc:=hi (x,s) (by simp)
 unfold Oper.wp
 have hrun:(execOp a.eval o).run P w=.ok (.value (a.eval x)) w:=by
  unfold execOp;rcases ho with ho|ho<;>simp[ho]
 rw[hrun]
 exact hn _ _ Vc (zb _)
theorem QS {k:Nat} {o:Oper} {r:Value} (ins:List (Operand×Value)) (hw:cw ops h V o=some true) (hk:V[k]? =some (.eq r)) (hi:ins.map (λp=>aL ops h V E o p.1)=ins.map λp=>some (.eq p.2))
 (hrun:∀(a:Act) (w:World),S w→(∀p∈ins,a.eval p.1=p.2)→(execOp a.eval o).run P w=.ok (.value r) w):bB D P S ops h V E k o:=by
 refine⟨_,hk,.inr ⟨hw,ins.map λp=>(p.1,.eq p.2),?_,λa w Q hS hi2 next hn=>?_⟩⟩
 · intro p hp
   obtain⟨q,hq,rfl⟩:=List.mem_map.1 hp;exact List.map_inj_left.1 hi q hq
 · unfold Oper.wp
   rw[hrun a w hS λp hp=>hi2 (p.1,.eq p.2) (List.mem_map_of_mem hp)];exact hn _ _ rfl (zb _)
end
def eD (L:List (Addr×Value)) (w:World):Prop:=∀p∈L,w.cell? p.1=some p.2
theorem eD.below {L:List (Addr×Value)} {w w':World} (h:eD L w) (hb:Below w.heap.size w w'):eD L w':=λp hp=>Below.keep hb (h p hp)
theorem eD.get {L:List (Addr×Value)} {w:World} (h:eD L w) (k:Nat) {p:Addr×Value} (hk:L[k]? =some p):w.cell? p.1=some p.2:=h p (List.mem_of_getElem? hk)
section
variable {D:Nat→Prop} {ops:Array Oper} {h:Nat} {V:List VS} {E:List (Nat×VS)} {S:World→Prop} {k:Nat} {o:Oper}
theorem qM {r u:Value} (x:Operand) (hw:cw ops h V o=some true) (hk:V[k]? =some (.eq r)) (hx:aL ops h V E o x=some (.eq u))
 (hrun:∀(ev:Operand→Value) (w:World),S w→ev x=u→(execOp ev o).run Tryz.prog w=.ok (.value r) w):bB D Tryz.prog S ops h V E k o:=
 QS [(x,u)] hw hk (by simp[hx]) λa w hS hi=>hrun a.eval w hS (hi (x,u) (by simp))
theorem B5 {r u v:Value} (x y:Operand) (hw:cw ops h V o=some true) (hk:V[k]? =some (.eq r)) (hx:aL ops h V E o x=some (.eq u)) (hy:aL ops h V E o y=some (.eq v))
 (hrun:∀(ev:Operand→Value) (w:World),S w→ev x=u→ev y=v→(execOp ev o).run Tryz.prog w=.ok (.value r) w):bB D Tryz.prog S ops h V E k o:=
 QS [(x,u),(y,v)] hw hk (by simp[hx,hy]) λa w hS hi=>hrun a.eval w hS (hi (x,u) (by simp)) (hi (y,v) (by simp))
theorem E1 {r:Value} {c a b:Operand} {q:Bool} (ho:o.op=.pick c a b) (hw:cw ops h V o=some true) (hk:V[k]? =some (.eq r)) (hc:aL ops h V E o c=some (.eq (.bool q)))
 (hx:aL ops h V E o (if q then a else b)=some (.eq r)):bB D Tryz.prog S ops h V E k o:=
 QS [(c,.bool q),(if q then a else b,r)] hw hk (by simp[hc,hx]) λac w hS hi=>by
  have h1:=hi (c,.bool q) (by simp);have h2:=hi (if q then a else b,r) (by simp);simp only at h1 h2;cases q<;>simp_all[execOp,asBool]
theorem Iz {x:Operand} {t:TypeId} {q r:Bool} (ho:o.op=.unOp .not t x) (hw:cw ops h V o=some true) (hk:V[k]? =some (.eq (.bool r))) (hx:aL ops h V E o x=some (.eq (.bool q))) (hq:(!q)=r):bB D Tryz.prog S ops h V E k o:=
 qM x hw hk hx λev w hS h1=>by subst hq;simp[execOp,ho,h1,go_sem]
theorem uS {f:FuncId} {x:Operand} {tys:Array TypeId} {s s1:VS} (ho:o.op=.call {callee:=.value (.func f),args:= #[x],argTypes:=tys }) (en:∀args w,(callFunc f args).run Tryz.prog w=.ok (.enter f args) w)
 (hw:cw ops h V o=some true) (hk:V[k]? =some s) (hx:aL ops h V E o x=some s1)
 (hc:∀(v:Value) (w:World),S w→s1.holds D w v→Calls Tryz.prog f #[v] w λe w'=>∃u,e=.returned u∧s.holds D w' u∧Below w.heap.size w w'):bB D Tryz.prog S ops h V E k o:=
 rQ [(x,s1)] hw hk (by simp[hx]) λa w Q hS hi next hn=>by
  have h1:=hi (x,s1) (by simp);have hrun:(execOp a.eval o).run Tryz.prog w=.ok (.enter f #[a.eval x]) w:=by
   simp[execOp,ho,resolve,Deferred.ofValue,invoke,Act.eval,en]
  unfold Oper.wp;rw[hrun,Oper.upon_enter];refine(hc _ w hS h1).mono ?_;rintro e w' ⟨u,rfl,hu,hb⟩;exact hn u w' hu hb
theorem uT {f:FuncId} {x y:Operand} {tys:Array TypeId} {s s1 s2:VS} (ho:o.op=.call {callee:=.value (.func f),args:= #[x,y],argTypes:=tys }) (en:∀args w,(callFunc f args).run Tryz.prog w=.ok (.enter f args) w)
 (hw:cw ops h V o=some true) (hk:V[k]? =some s) (hx:aL ops h V E o x=some s1) (hy:aL ops h V E o y=some s2)
 (hc:∀(v v2:Value) (w:World),S w→s1.holds D w v→s2.holds D w v2→Calls Tryz.prog f #[v,v2] w λe w'=>∃u,e=.returned u∧s.holds D w' u∧Below w.heap.size w w'):bB D Tryz.prog S ops h V E k o:=
 rQ [(x,s1),(y,s2)] hw hk (by simp[hx,hy]) λa w Q hS hi next hn=>by
  have h1:=hi (x,s1) (by simp);have h2:=hi (y,s2) (by simp);have hrun:(execOp a.eval o).run Tryz.prog w=.ok (.enter f #[a.eval x,a.eval y]) w:=by
   simp[execOp,ho,resolve,Deferred.ofValue,invoke,Act.eval,en]
  unfold Oper.wp;rw[hrun,Oper.upon_enter];refine(hc _ _ w hS h1 h2).mono ?_;rintro e w' ⟨u,rfl,hu,hb⟩;exact hn u w' hu hb
end
section
variable {D:Nat→Prop} {ops:Array Oper} {h:Nat} {V:List VS} {E:List (Nat×VS)} {S:World→Prop} {k:Nat} {o:Oper}
theorem gQ {t:TypeId} {x:Operand} {f:Nat} {a:Addr} {r:Value} (ho:o.op=.fieldAddr t x f) (hw:cw ops h V o=some true) (hk:V[k]? =some (.eq r)) (hx:aL ops h V E o x=some (.eq (.pointer (some a))))
 (hr:∀w,(Instr.fieldAt t (.pointer (some a)) f).run Tryz.prog w=.ok r w):bB D Tryz.prog S ops h V E k o:=
 qM x hw hk hx λev w hS h1=>by unfold execOp;simp[ho,h1,hr]
theorem iQ {t:TypeId} {x i:Operand} {u v r:Value} (ho:o.op=.indexAddr t x i) (hw:cw ops h V o=some true) (hk:V[k]? =some (.eq r)) (hx:aL ops h V E o x=some (.eq u)) (hi:aL ops h V E o i=some (.eq v))
 (hr:∀w,(Instr.indexAt t u v).run Tryz.prog w=.ok r w):bB D Tryz.prog S ops h V E k o:=
 B5 x i hw hk hx hi λev w hS h1 h2=>by unfold execOp;simp[ho,h1,h2,hr]
theorem dV {t:TypeId} {x:Operand} {a:Addr} {r:Value} (ho:o.op=.load t x) (hw:cw ops h V o=some true) (hk:V[k]? =some (.eq r)) (hx:aL ops h V E o x=some (.eq (.pointer (some a))))
 (hr:∀w,S w→(Instr.loadAt t (.pointer (some a))).run Tryz.prog w=.ok r w):bB D Tryz.prog S ops h V E k o:=
 qM x hw hk hx λev w hS h1=>by unfold execOp;simp[ho,h1,hr w hS]
theorem gJ {b:BinOp} {t t2:TypeId} {x y:Operand} {u v r:Value} (ho:o.op=.binOp b t x y t2) (hw:cw ops h V o=some true) (hk:V[k]? =some (.eq r)) (hx:aL ops h V E o x=some (.eq u)) (hy:aL ops h V E o y=some (.eq v))
 (hr:∀(w:World),(do eqGuard b t x y u v;Go.binOp b t u v:Sem Value).run Tryz.prog w=.ok r w):bB D Tryz.prog S ops h V E k o:=
 B5 x y hw hk hx hy λev w hS h1 h2=>by
  have:=hr w;simp only[Sem.run_bind] at this;unfold execOp;simp only[ho,h1,h2,Sem.run_bind,Sem.run_pure];revert this;cases Sem.run Tryz.prog (eqGuard b t x y u v) w with
  | ok g w1=>
   intro this;simp only[Result.andThen_ok] at this ⊢;rw[this]
   rfl
  | _=>intro this;simp[Result.andThen] at this
end
section
variable {D:Nat→Prop} {ops:Array Oper} {h:Nat} {V:List VS} {E:List (Nat×VS)} {S:World→Prop} {k:Nat} {o:Oper}
def isSlice:Option TypeDesc→Bool
 | some (.slice _)=>true
 | _=>false
theorem td {t:TypeId} {x:Operand} {p:Option Addr} {n c:Nat} (ho:o.op=.call {callee:=.builtin .len,args:= #[x],argTypes:= #[t] }) (ht:isSlice (Tryz.prog.underlying t)=true) (hw:cw ops h V o=some true) (hk:V[k]? =some (.eq (.int .i64 n))) (hx:aL ops h V E o x=some (.eq (.slice p n c))):bB D Tryz.prog S ops h V E k o:=
 qM x hw hk hx λev w hS h1=>by
  unfold isSlice at ht;split at ht
  · rename_i e he
    unfold execOp;simp[ho,resolve,invoke,builtin,h1,Builtin.len_,run_underlying he]
    rfl
  · cases ht
end
abbrev vP (b o:Nat):VS:=.eq (.pointer (some ⟨b,o,none⟩))
abbrev vL (b o n c:Nat):VS:=.eq (.slice (some ⟨b,o,none⟩) n c)
abbrev vT (s:List UInt8):VS:=.eq (str s)
abbrev vI (n:Int):VS:=.eq (.int .i64 n)
abbrev vY:VS:=.eq (.bool true)
abbrev vN:VS:=.eq (.bool false)
abbrev vK:VS:=.skip
abbrev cA (b o:Nat) (v:Value):Addr×Value:=(⟨b,o,none⟩,v)
def Iu (ops : Array Oper) (h : Nat) (V : List VS) (E : List (Nat × VS)) (o : Oper) : Option VS :=
 match cw ops h V o with
 | some false=>some .skip
 | some true=>match o.op with
  | .assign x=>aL ops h V E o x
  | .move x=>aL ops h V E o x
  | .pick c a b=>match aL ops h V E o c with
   | some (.eq (.bool q))=>match aL ops h V E o (if q then a else b) with
    | some (.eq r)=>some (.eq r)
    | _=>none
   | _=>none
  | .unOp .not _ x=>match aL ops h V E o x with
   | some (.eq (.bool q))=>some (.eq (.bool (!q)))
   | _=>none
  | _=>none
 | none=>none
def JN:Op→Bool
 | .assign _=>true
 | .move _=>true
 | .pick _ _ _=>true
 | .unOp .not _ _=>true
 | _=>false
section
variable {D:Nat→Prop} {ops:Array Oper} {h:Nat} {V:List VS} {E:List (Nat×VS)} {S:World→Prop}
theorem iU {k:Nat} {o:Oper} {s:VS} (_:JN o.op=true) (hk:V[k]? =some s) (hp:Iu ops h V E o=some s):bB D Tryz.prog S ops h V E k o:=by
 unfold Iu at hp
 split at hp
 · cases hp
   exact nS ‹_› hk
 · rename_i hw
   split at hp
   · rename_i ho;exact Oc (.inl ho) hw hk hp
   · rename_i ho;exact Oc (.inr ho) hw hk hp
   · rename_i ho
     split at hp
     · rename_i hc
       split at hp
       · rename_i hx
         cases hp;exact E1 ho hw hk hc hx
       · cases hp
     · cases hp
   · rename_i ho
     split at hp
     · rename_i hx
       cases hp;exact Iz ho hw hk hx rfl
     · cases hp
   · cases hp
 · cases hp
end
def jG (D:Nat→Prop) (w:World) (a:Act):List (Nat×VS)→Prop
 | []=>True
 | p::l=>p.2.holds D w (a.eval (.tmp p.1))∧jG D w a l
theorem jG.all {D:Nat→Prop} {w:World} {a:Act}:∀{E:List (Nat×VS)},jG D w a E→∀p∈E,p.2.holds D w (a.eval (.tmp p.1))
 | [],_,p,hp=>by cases hp
 | q::l,hE,p,hp=>by
  rcases List.mem_cons.1 hp with rfl|hp
  · exact hE.1
  · exact jG.all hE.2 p hp
def xu (P:Program) (ops:Array Oper) (h n:Nat):Bool:=P.follows .mixedOrders&&(decide (ops.size=h+1)&&(gq .any ops&&(iF .any ops h&&AZ ops n)))
theorem u0 {D:Nat→Prop} {P:Program} {ops:Array Oper} {a0:Act} {Q:Exit→Act→World→Prop} {id:Nat} {w:World} {v:Value} (h:Nat) (E:List (Nat×VS)) (V:List VS) (S:World→Prop) (hok:xu P ops h a0.tmps.size=true) (hl:V[h]? =some (.eq v))
 (fR:∀w w',S w→Below w.heap.size w w'→S w') (hS:S w.drew) (hE:jG D w.drew a0 E) (hst:dJ D P S ops h V E 0 ops.toList)
 (hend:∀a w',S w'→Below w.heap.size w w'→(∀(j:Nat) (s:VS) (d:Nat),j<h→V[j]? =some s→(ops[j]?).bind (·.dst)=some d→s.holds D w' (a.tmps.getD d undef))→Q .normal ((bD a (ops.toList.take h) a0).put ((ops[h]?).bind (·.dst)) v) w'):
 (Code.region id ops true).wp P Q a0 w:=by
 unfold xu at hok
 simp only[Bool.and_eq_true,decide_eq_true_eq] at hok
 obtain⟨h1,h2,h3,h4,h5⟩:=hok
 refine gM h E V S h1 h2 h3 h4 h5 fR hS hE.all hst λa u w' Po hb ha hf hv=>?_
 obtain rfl:u=v:=hv _ hl
 have:=hend a w' Po hb hf
 rwa [←ha] at this
theorem u5 {D:Nat→Prop} {P:Program} {ops:Array Oper} {a0:Act} {Q:Exit→Act→World→Prop} {id:Nat} {w:World} {v:Value} {d:Option Nat} (h:Nat) (E:List (Nat×VS)) (V:List VS) (S:World→Prop) (hok:xu P ops h a0.tmps.size=true) (hl:V[h]? =some (.eq v)) (hd:(ops[h]?).bind (·.dst)=d)
 (fR:∀w w',S w→Below w.heap.size w w'→S w') (hS:S w.drew) (hE:jG D w.drew a0 E) (hst:dJ D P S ops h V E 0 ops.toList)
 (hend:∀a w',S w'→Below w.heap.size w w'→(∀(j:Nat) (s:VS) (d:Nat),j<h→V[j]? =some s→(ops[j]?).bind (·.dst)=some d→s.holds D w' (a.tmps.getD d undef))→Q .normal ((bD a (ops.toList.take h) a0).put d v) w'):
 (Code.region id ops true).wp P Q a0 w:=u0 h E V S hok hl fR hS hE hst λa w' h1 h2 h3=>by rw[hd];exact hend a w' h1 h2 h3
theorem pq:(∀{α:Type} (a:α) (l:List α) (n:Nat),(a::l).take (n+1)=a::l.take n)∧(∀{α:Type} (l:List α),l.take 0=[])∧(∀(a b:Act),bD a [] b=b)∧(∀(a b:Act) (o:Oper) (l:List Oper),bD a (o::l) b=bD a l (b.put o.dst (match o.dst with|some d=>a.tmps.getD d undef|none=>undef))):=⟨λ_ _ _=>rfl,λ_=>rfl,λ_ _=>rfl,λ_ _ _ _=>rfl⟩
theorem IW {w:World}:eD [] w:=λp hp=>by cases hp
theorem Dh {w:World} {b o:Nat} {v:Value} {L:List (Addr×Value)} (h:w.cell? ⟨b,o,none⟩=some v) (hL:eD L w):eD (cA b o v::L) w:=λp hp=>by
 rcases List.mem_cons.1 hp with rfl|hp
 · exact h
 · exact hL p hp
end Go.Proofs.YtemjidmkolfgnaaGreatDoor
