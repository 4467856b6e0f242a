/-
  Lemmas for the statement: contracts: of the law: wanted, few, proc. No condition.
-/
import Derived.Test.YtakgjcfkdemipaaGreatDoorZBn
import Derived.Test.YtakgjcfkdemipaaGreatDoorZB16
import Derived.Test.YtakgjcfkdemipaaGreatDoorZB18
set_option maxHeartbeats 6400000
namespace Go.Proofs.YtakgjcfkdemipaaGreatDoor
section
open Go Go.RowKit
inductive VS where
 | skip
 | eq (v:Value)
 | ss (L:List (List UInt8))
 | sig (s:bP)
 | op (o:aL)
 | ops (l:List aL)
 | dG (l:List aA)
 | prop (F:World→Value→Prop)
def VS.holds (D:Nat→Prop) (w:World) (v:Value):VS→Prop
 | .skip=>v=undef
 | .eq u=>v=u
 | .ss L=>SS D w v L
 | .sig s=>aT D w v s
 | .op o=>gx D w v o
 | .ops l=>aY D w v l
 | .dG l=>bG D w v l
 | .prop F=>∀w',Below w.heap.size w w'→F w' v
theorem VS.holds.below {D:Nat→Prop} {w w':World} {v:Value} {s:VS} (h:s.holds D w v) (hb:Below w.heap.size w w'):s.holds D w' v:=by
 cases s with
 | skip=>exact h
 | eq u=>exact h
 | ss L=>exact SS.below (show SS D w v L from h) hb zr
 | sig x=>exact aT.below (show aT D w v x from h) hb zr
 | op x=>exact gx.below (show gx D w v x from h) hb zr
 | ops l=>exact aY.below (show aY D w v l from h) hb zr
 | dG l=>exact bG.below (show bG D w v l from h) hb zr
 | prop F=>exact λw2 h2=>h w2 (hb.trans (af h2 hb.size))
theorem yP {j:Nat} (h:j≤1000000):IntKind.i64.wrap (j:Int)=j:=by
 simp[IntKind.wrap,IntKind.bits,IntKind.signed]
 omega
def AW (o:Oper) (j:Nat):Bool:=o.after.toList.any λe=>decide (e.on=j)&&Region.binds .any e
def aJ (ops:Array Oper) (h:Nat) (V:List VS) (E:List (Nat×VS)) (o:Oper):Operand→Option VS
 | .const v=>some (.eq v)
 | .tmp d=>match (ops.toList.take h).findIdx? (λp=>decide (p.dst=some d)) with
  | some j=>if AW o j then V[j]? else none
  | none=>(E.find? λp=>decide (p.1=d)).map (·.2)
 | _=>none
def cO (ops:Array Oper) (h:Nat) (V:List VS) (o:Oper):Option Bool:=
 match o.guard with
 | none=>some true
 | some (g,b)=>if AW o g&&decide (g<h)&&((ops[g]?).bind (·.dst)).isSome then
  match V[g]? with
  | some (.eq (.bool c))=>some (c==b)
  | some .skip=>some false
  | _=>none
  else none
def FJ (D:Nat→Prop) (V:List VS) (j:Nat) (v:Value) (w:World):Prop:=∀s,V[j]? =some s→s.holds D w v
section
variable {D:Nat→Prop} {P:Program} {ops:Array Oper} {h:Nat} {V:List VS} {E:List (Nat×VS)} {a0:Act} {S:World→Prop}
def MB (D:Nat→Prop) (S:World→Prop) (E:List (Nat×VS)) (a0:Act) (w:World):Prop:=S w∧∀p∈E,p.2.holds D w (a0.eval (.tmp p.1))
theorem wM {o:Oper} {j:Nat} (he:AW o j=true):∃e∈o.after,Region.binds .any e=true∧e.on=j:=by
 unfold AW at he
 rw[List.any_eq_true] at he
 obtain⟨e,IA,A5⟩:=he
 simp only[Bool.and_eq_true,decide_eq_true_eq] at A5
 exact⟨e,by simpa using IA,A5.2,A5.1⟩
theorem AD {o:Oper} {x:Operand} {s:VS} (hs:aJ ops h V E o x=some s) {a:Act} {w:World} (hS:MB D S E a0 w)
 (hd:∀e∈o.after,Region.binds .any e=true→∀ok d,ops[e.on]? =some ok→ok.dst=some d→FJ D V e.on (a.eval (.tmp d)) w) (ho:∀s,qo ops h s→a.eval (.tmp s)=a0.eval (.tmp s)):s.holds D w (a.eval x):=by
 cases x with
 | const v=>unfold aJ at hs;cases hs;rfl
 | tmp d=>
  unfold aJ at hs;simp only at hs;split at hs
  · rename_i j hj
    split at hs
    · rename_i he
      obtain⟨e,IA,A5,rfl⟩:=wM he;rw[List.findIdx?_eq_some_iff_getElem] at hj;obtain⟨hlt,DQ,_⟩:=hj;have hlt2:e.on<ops.size:=by simp at hlt;omega
      refine hd e IA A5 ops[e.on] d (Array.getElem?_eq_getElem hlt2) ?_ s hs
      simpa using DQ
    · cases hs
  · rename_i hj
    rw[List.findIdx?_eq_none_iff] at hj;rw[ho d λj p Sb hjp e=>by
     have hm:p∈ops.toList.take h:=List.mem_of_getElem? (i:=j) (by rw[List.getElem?_take_of_lt Sb,Array.getElem?_toList];exact hjp);have:=hj p hm;simp[e] at this]
    rw[Option.map_eq_some_iff] at hs;obtain⟨p,hp,rfl⟩:=hs;have:=hS.2 p (List.mem_of_find?_eq_some hp);have Su:p.1=d:=by simpa using List.find?_some hp
    rwa [Su] at this
 | global g=>unfold aJ at hs;cases hs
 | func f=>unfold aJ at hs;cases hs
theorem BB {o:Oper} {c:Bool} (hw:cO ops h V o=some c) {a:Act} {w:World}
 (hd:∀e∈o.after,Region.binds .any e=true→∀ok d,ops[e.on]? =some ok→ok.dst=some d→FJ D V e.on (a.eval (.tmp d)) w):Region.wanted o (yielded ops a.tmps)=c:=by
 unfold cO at hw
 rcases hg:o.guard with _|⟨g,b⟩
 · rw[hg] at hw
   cases hw;simp[Region.wanted,hg]
 · rw [hg] at hw
   simp only at hw;split at hw
   · rename_i hc
     rw[Bool.and_eq_true,Bool.and_eq_true] at hc;obtain⟨e,IA,A5,rfl⟩:=wM hc.1.1;rcases hop:ops[e.on]? with _|og
     · rw[hop] at hc;simp at hc
     · rw [hop] at hc
       rcases DQ:og.dst with _|d
       · simp[DQ] at hc
       · have hf:=hd e IA A5 og d hop DQ
         have hy:∀v,a.eval (.tmp d)=v→yielded ops a.tmps e.on=(match v with|.bool x=>some x|_=>none):=by
          intro v hv;have hv:a.tmps[d]?.getD undef=v:=aR hv;unfold yielded;rw[hop];simp only[Option.bind_some,DQ];rcases hq:a.tmps[d]? with _|u
          · rw[hq] at hv;simp at hv;rw[←hv];rfl
          · rw[hq] at hv;simp at hv;subst hv;cases u<;>rfl
         split at hw
         · rename_i x hx
           cases hw;have:=hy _ (hf _ hx);simp only[Region.wanted,hg,this];cases x<;>cases b<;>rfl
         · rename_i hx
           cases hw;have:=hy _ (hf _ hx);simp only[Region.wanted,hg,this]
           rfl
         · cases hw
   · cases hw
def GO (D:Nat→Prop) (P:Program) (S:World→Prop) (o:Oper) (ins:List (Operand×VS)) (s:VS):Prop:=
 ∀(a:Act) (w:World) (Q:Exit→Act→World→Prop),S w→(∀p∈ins,p.2.holds D w (a.eval p.1))→∀next:Act→World→Prop,(∀v w',s.holds D w' v→Below w.heap.size w w'→next (a.put o.dst v) w')→o.wp P a w next Q
def bM (D:Nat→Prop) (P:Program) (S:World→Prop) (ops:Array Oper) (h:Nat) (V:List VS) (E:List (Nat×VS)) (k:Nat) (o:Oper):Prop:=
 ∃s,V[k]? =some s∧((cO ops h V o=some false∧s=.skip)∨(cO ops h V o=some true∧∃ins,(∀p∈ins,aJ ops h V E o p.1=some p.2)∧GO D P S o ins s))
def lI (D:Nat→Prop) (P:Program) (S:World→Prop) (ops:Array Oper) (h:Nat) (V:List VS) (E:List (Nat×VS)):Nat→List Oper→Prop
 | _,[]=>True
 | k,o::l=>bM D P S ops h V E k o∧lI D P S ops h V E (k+1) l
theorem Gx {Q:Exit→Act→World→Prop} {k:Nat} {o:Oper} {S':World→Prop} (yT:∀w,S' w→S w) (hs:bM D P S ops h V E k o):Dg P .any ops Q (MB D S' E a0) (FJ D V) a0 h k o:=by
 intro a w hS hd ho next hn
 obtain⟨s,h1,⟨h2,rfl⟩|⟨h2,ins,h3,h4⟩⟩:=hs
 · rw[BB h2 hd,if_neg (by simp)]
   exact hn undef w (λs' hs'=>by rw[h1] at hs';cases hs';rfl) (zb _)
 · rw[BB h2 hd,if_pos rfl]
   exact .inl (h4 a w Q (yT w hS.1) (λp hp=>AD (h3 p hp) hS hd ho) next λv w' hv hb=>hn v w' (λs' hs'=>by rw[h1] at hs';cases hs';exact hv) hb)
theorem rZ:∀(l:List Oper) (k:Nat),lI D P S ops h V E k l→∀i o,l[i]? =some o→bM D P S ops h V E (k+i) o
 | [],_,_,i,o,ho=>by simp at ho
 | x::l,k,hs,0,o,ho=>by
  simp only[List.getElem?_cons_zero,Option.some.injEq] at ho;subst ho;exact hs.1
 | x::l,k,hs,i+1,o,ho=>by
  rw[List.getElem?_cons_succ] at ho;have:=rZ l (k+1) hs.2 i o ho
  rwa [show k+1+i=k+(i+1) by omega] at this
theorem jc {Q:Exit→Act→World→Prop} {id:Nat} {w:World} (h:Nat) (E:List (Nat×VS)) (V:List VS) (S:World→Prop) (hm:P.follows .mixedOrders=true) (hsz:ops.size=h+1) (hf:sw .any ops=true) (hb:nL .any ops h=true) (hd:BK ops a0.tmps.size=true)
 (eE:∀w w',S w→Below w.heap.size w w'→S w') (hS:S w.drew) (hE:∀p∈E,p.2.holds D w.drew (a0.eval (.tmp p.1))) (hst:lI D P S ops h V E 0 ops.toList)
 (hend:∀a v w',S w'→Below w.heap.size w w'→a=dA a (ops.toList.take h) a0→(∀(j:Nat) (s:VS) (d:Nat),j<h→V[j]? =some s→(ops[j]?).bind (·.dst)=some d→s.holds D w' (a.tmps.getD d undef))→(∀s,V[h]? =some s→s.holds D w' v)→Q .normal (a.put ((ops[h]?).bind (·.dst)) v) w'):
 (Code.region id ops true).wp P Q a0 w:=by
 refine yO (S:=MB D (λw'=>S w'∧Below w.heap.size w w') E a0) (A:=FJ D V) h hm hsz hf hb hd (λj v w1 w2 h hb s hs=>(h s hs).below hb) (λw1 w2 h hb=>⟨⟨eE _ _ h.1.1 hb,h.1.2.trans (af hb h.1.2.size)⟩,λp hp=>(h.2 p hp).below hb⟩) ⟨⟨hS,(zb w).drew⟩,hE⟩ (λi o ho=>Gx (λw h=>h.1) ?_) ?_
 · have:=rZ _ 0 hst i o (by rw[Array.getElem?_toList];exact ho)
   rwa [Nat.zero_add] at this
 · intro a w1 v w' o h1 h2 h3 h4 h5 ho hv mE
   have hq:=hend a v w' (eE _ _ h4.1.1 mE) (h4.1.2.trans (af mE h4.1.2.size)) (oh h1 h2 h3) (λj s d hj hs sD=>by
    rw[Option.bind_eq_some_iff] at sD;obtain⟨oj,Sn,Sm⟩:=sD;exact(h5 j oj d hj Sn Sm s hs).below mE) hv
   rwa [ho] at hq
theorem dr {k:Nat} {o:Oper} (hw:cO ops h V o=some false) (hk:V[k]? =some .skip):bM D P S ops h V E k o:=⟨_,hk,.inl ⟨hw,rfl⟩⟩
theorem oI {k:Nat} {o:Oper} {s:VS} (ins:List (Operand×VS)) (hw:cO ops h V o=some true) (hk:V[k]? =some s) (hi:ins.map (λp=>aJ ops h V E o p.1)=ins.map λp=>some p.2) (hs:GO D P S o ins s):bM D P S ops h V E k o:=
 ⟨s,hk,.inr ⟨hw,ins,λp hp=>List.map_inj_left.1 hi p hp,hs⟩⟩
theorem Mn {k:Nat} {o:Oper} {x:Operand} {s:VS} (ho:o.op=.assign x∨o.op=.move x) (hw:cO ops h V o=some true) (hk:V[k]? =some s) (hx:aJ ops h V E o x=some s):bM D P S ops h V E k o:=by
 refine⟨s,hk,.inr ⟨hw,[(x,s)],by simpa using hx,λa w Q hS hi next hn=>?_⟩⟩
 have SQ:=hi (x,s) (by simp)
 unfold Oper.wp
 have hrun:(execOp a.eval o).run P w=.ok (.value (a.eval x)) w:=by
  unfold execOp;rcases ho with ho|ho<;>simp[ho]
 rw[hrun]
 exact hn _ _ SQ (zb _)
theorem OA {k:Nat} {o:Oper} {r:Value} (ins:List (Operand×Value)) (hw:cO ops h V o=some true) (hk:V[k]? =some (.eq r)) (hi:ins.map (λp=>aJ ops h V E o p.1)=ins.map λp=>some (.eq p.2))
 (hrun:∀(a:Act) (w:World),S w→(∀p∈ins,a.eval p.1=p.2)→(execOp a.eval o).run P w=.ok (.value r) w):bM D P S ops h V E k o:=by
 refine⟨_,hk,.inr ⟨hw,ins.map λp=>(p.1,.eq p.2),?_,λa w Q hS hi2 next hn=>?_⟩⟩
 · intro p hp
   obtain⟨q,hq,rfl⟩:=List.mem_map.1 hp;exact List.map_inj_left.1 hi q hq
 · unfold Oper.wp
   rw[hrun a w hS λp hp=>hi2 (p.1,.eq p.2) (List.mem_map_of_mem hp)];exact hn _ _ rfl (zb _)
end
def aZ (L:List (Addr×Value)) (w:World):Prop:=∀p∈L,w.cell? p.1=some p.2
theorem aZ.below {L:List (Addr×Value)} {w w':World} (h:aZ L w) (hb:Below w.heap.size w w'):aZ L w':=λp hp=>Below.keep hb (h p hp)
theorem aZ.get {L:List (Addr×Value)} {w:World} (h:aZ L w) (k:Nat) {p:Addr×Value} (hk:L[k]? =some p):w.cell? p.1=some p.2:=h p (List.mem_of_getElem? hk)
section
variable {D:Nat→Prop} {ops:Array Oper} {h:Nat} {V:List VS} {E:List (Nat×VS)} {S:World→Prop} {k:Nat} {o:Oper}
theorem EX {r u:Value} (x:Operand) (hw:cO ops h V o=some true) (hk:V[k]? =some (.eq r)) (hx:aJ ops h V E o x=some (.eq u))
 (hrun:∀(ev:Operand→Value) (w:World),S w→ev x=u→(execOp ev o).run Tryz.prog w=.ok (.value r) w):bM D Tryz.prog S ops h V E k o:=
 OA [(x,u)] hw hk (by simp[hx]) λa w hS hi=>hrun a.eval w hS (hi (x,u) (by simp))
theorem AE {r u v:Value} (x y:Operand) (hw:cO ops h V o=some true) (hk:V[k]? =some (.eq r)) (hx:aJ ops h V E o x=some (.eq u)) (hy:aJ ops h V E o y=some (.eq v))
 (hrun:∀(ev:Operand→Value) (w:World),S w→ev x=u→ev y=v→(execOp ev o).run Tryz.prog w=.ok (.value r) w):bM D Tryz.prog S ops h V E k o:=
 OA [(x,u),(y,v)] hw hk (by simp[hx,hy]) λa w hS hi=>hrun a.eval w hS (hi (x,u) (by simp)) (hi (y,v) (by simp))
theorem EY {r:Value} {c a b:Operand} {q:Bool} (ho:o.op=.pick c a b) (hw:cO ops h V o=some true) (hk:V[k]? =some (.eq r)) (hc:aJ ops h V E o c=some (.eq (.bool q)))
 (hx:aJ ops h V E o (if q then a else b)=some (.eq r)):bM D Tryz.prog S ops h V E k o:=
 OA [(c,.bool q),(if q then a else b,r)] hw hk (by simp[hc,hx]) λac w hS hi=>by
  have h1:=hi (c,.bool q) (by simp);have h2:=hi (if q then a else b,r) (by simp);simp only at h1 h2;cases q<;>simp_all[execOp,asBool]
theorem Hy {x:Operand} {t:TypeId} {q r:Bool} (ho:o.op=.unOp .not t x) (hw:cO ops h V o=some true) (hk:V[k]? =some (.eq (.bool r))) (hx:aJ ops h V E o x=some (.eq (.bool q))) (hq:(!q)=r):bM D Tryz.prog S ops h V E k o:=
 EX x hw hk hx λev w hS h1=>by subst hq;simp[execOp,ho,h1,go_sem]
theorem er {f:FuncId} {x:Operand} {tys:Array TypeId} {s s1:VS} (ho:o.op=.call {callee:=.value (.func f),args:= #[x],argTypes:=tys }) (en:∀args w,(callFunc f args).run Tryz.prog w=.ok (.enter f args) w)
 (hw:cO ops h V o=some true) (hk:V[k]? =some s) (hx:aJ ops h V E o x=some s1)
 (hc:∀(v:Value) (w:World),S w→s1.holds D w v→Calls Tryz.prog f #[v] w λe w'=>∃u,e=.returned u∧s.holds D w' u∧Below w.heap.size w w'):bM D Tryz.prog S ops h V E k o:=
 oI [(x,s1)] hw hk (by simp[hx]) λa w Q hS hi next hn=>by
  have h1:=hi (x,s1) (by simp);have hrun:(execOp a.eval o).run Tryz.prog w=.ok (.enter f #[a.eval x]) w:=by
   simp[execOp,ho,resolve,Deferred.ofValue,invoke,Act.eval,en]
  unfold Oper.wp;rw[hrun,Oper.upon_enter];refine(hc _ w hS h1).mono ?_;rintro e w' ⟨u,rfl,hu,hb⟩;exact hn u w' hu hb
theorem gu {f:FuncId} {x y:Operand} {tys:Array TypeId} {s s1 s2:VS} (ho:o.op=.call {callee:=.value (.func f),args:= #[x,y],argTypes:=tys }) (en:∀args w,(callFunc f args).run Tryz.prog w=.ok (.enter f args) w)
 (hw:cO ops h V o=some true) (hk:V[k]? =some s) (hx:aJ ops h V E o x=some s1) (hy:aJ ops h V E o y=some s2)
 (hc:∀(v v2:Value) (w:World),S w→s1.holds D w v→s2.holds D w v2→Calls Tryz.prog f #[v,v2] w λe w'=>∃u,e=.returned u∧s.holds D w' u∧Below w.heap.size w w'):bM D Tryz.prog S ops h V E k o:=
 oI [(x,s1),(y,s2)] hw hk (by simp[hx,hy]) λa w Q hS hi next hn=>by
  have h1:=hi (x,s1) (by simp);have h2:=hi (y,s2) (by simp);have hrun:(execOp a.eval o).run Tryz.prog w=.ok (.enter f #[a.eval x,a.eval y]) w:=by
   simp[execOp,ho,resolve,Deferred.ofValue,invoke,Act.eval,en]
  unfold Oper.wp;rw[hrun,Oper.upon_enter];refine(hc _ _ w hS h1 h2).mono ?_;rintro e w' ⟨u,rfl,hu,hb⟩;exact hn u w' hu hb
end
section
variable {D:Nat→Prop} {ops:Array Oper} {h:Nat} {V:List VS} {E:List (Nat×VS)} {S:World→Prop} {k:Nat} {o:Oper}
theorem gN {t:TypeId} {x:Operand} {f:Nat} {a:Addr} {r:Value} (ho:o.op=.fieldAddr t x f) (hw:cO ops h V o=some true) (hk:V[k]? =some (.eq r)) (hx:aJ ops h V E o x=some (.eq (.pointer (some a))))
 (hr:∀w,(Instr.fieldAt t (.pointer (some a)) f).run Tryz.prog w=.ok r w):bM D Tryz.prog S ops h V E k o:=
 EX x hw hk hx λev w hS h1=>by unfold execOp;simp[ho,h1,hr]
theorem iC {t:TypeId} {x i:Operand} {u v r:Value} (ho:o.op=.indexAddr t x i) (hw:cO ops h V o=some true) (hk:V[k]? =some (.eq r)) (hx:aJ ops h V E o x=some (.eq u)) (hi:aJ ops h V E o i=some (.eq v))
 (hr:∀w,(Instr.indexAt t u v).run Tryz.prog w=.ok r w):bM D Tryz.prog S ops h V E k o:=
 AE x i hw hk hx hi λev w hS h1 h2=>by unfold execOp;simp[ho,h1,h2,hr]
theorem gv {t:TypeId} {x:Operand} {a:Addr} {r:Value} (ho:o.op=.load t x) (hw:cO ops h V o=some true) (hk:V[k]? =some (.eq r)) (hx:aJ ops h V E o x=some (.eq (.pointer (some a))))
 (hr:∀w,S w→(Instr.loadAt t (.pointer (some a))).run Tryz.prog w=.ok r w):bM D Tryz.prog S ops h V E k o:=
 EX x hw hk hx λev w hS h1=>by unfold execOp;simp[ho,h1,hr w hS]
theorem eW {b:BinOp} {t t2:TypeId} {x y:Operand} {u v r:Value} (ho:o.op=.binOp b t x y t2) (hw:cO ops h V o=some true) (hk:V[k]? =some (.eq r)) (hx:aJ ops h V E o x=some (.eq u)) (hy:aJ ops h V E o y=some (.eq v))
 (hr:∀(w:World),(do eqGuard b t x y u v;Go.binOp b t u v:Sem Value).run Tryz.prog w=.ok r w):bM D Tryz.prog S ops h V E k o:=
 AE x y hw hk hx hy λev w hS h1 h2=>by
  have:=hr w;simp only[Sem.run_bind] at this;unfold execOp;simp only[ho,h1,h2,Sem.run_bind,Sem.run_pure];revert this;cases Sem.run Tryz.prog (eqGuard b t x y u v) w with
  | ok g w1=>
   intro this;simp only[Result.andThen_ok] at this ⊢;rw[this]
   rfl
  | _=>intro this;simp[Result.andThen] at this
end
section
variable {D:Nat→Prop} {ops:Array Oper} {h:Nat} {V:List VS} {E:List (Nat×VS)} {S:World→Prop} {k:Nat} {o:Oper}
def isSlice:Option TypeDesc→Bool
 | some (.slice _)=>true
 | _=>false
theorem eX {t:TypeId} {x:Operand} {p:Option Addr} {n c:Nat} (ho:o.op=.call {callee:=.builtin .len,args:= #[x],argTypes:= #[t] }) (ht:isSlice (Tryz.prog.underlying t)=true) (hw:cO ops h V o=some true) (hk:V[k]? =some (.eq (.int .i64 n))) (hx:aJ ops h V E o x=some (.eq (.slice p n c))):bM D Tryz.prog S ops h V E k o:=
 EX x hw hk hx λev w hS h1=>by
  unfold isSlice at ht;split at ht
  · rename_i e he
    unfold execOp;simp[ho,resolve,invoke,builtin,h1,Builtin.len_,run_underlying he]
    rfl
  · cases ht
theorem Hz {t:TypeId} {x:Operand} {s:List UInt8} (ho:o.op=.buildSlice t 1 #[(0,x)]) (ht:t=34) (hw:cO ops h V o=some true) (hk:V[k]? =some (.ss [s])) (hx:aJ ops h V E o x=some (.eq (str s))) (hl:s.length≤maxLen) (hD:∀w,S w→D w.heap.size):bM D Tryz.prog S ops h V E k o:=
 oI [(x,.eq (str s))] hw hk (by simp[hx]) λa w Q hS hi next hn=>by
  have h1:a.eval x=str s:=hi (x,.eq (str s)) (by simp);subst ht;unfold Oper.wp;have hrun:∀ev:Operand→Value,ev x=str s→(execOp ev o).run Tryz.prog w=.ok (.value (.slice (some ⟨w.heap.size,0,none⟩) 1 1)) (w.alloc (.cells #[str s] 9)):=λev h1=>by
   unfold execOp;simp[ho,h1,go_sem]
  rw[hrun _ h1];exact hn _ _ (SS.new D w (hD w hS) [s] 9 (0,0) (by unfold maxLen;simp) (by intro u hu;rw[List.mem_singleton.1 hu];exact hl)) ((zb w).alloc zr _)
theorem Bz {t:TypeId} {x y:Operand} {s u:List UInt8} (ho:o.op=.buildSlice t 2 #[(0,x),(1,y)]) (ht:t=34) (hw:cO ops h V o=some true) (hk:V[k]? =some (.ss [s,u])) (hx:aJ ops h V E o x=some (.eq (str s))) (hy:aJ ops h V E o y=some (.eq (str u))) (hl:s.length≤maxLen) (hl2:u.length≤maxLen) (hD:∀w,S w→D w.heap.size):bM D Tryz.prog S ops h V E k o:=
 oI [(x,.eq (str s)),(y,.eq (str u))] hw hk (by simp[hx,hy]) λa w Q hS hi next hn=>by
  have h1:a.eval x=str s:=hi (x,.eq (str s)) (by simp);have h2:a.eval y=str u:=hi (y,.eq (str u)) (by simp);subst ht;unfold Oper.wp;have hrun:∀ev:Operand→Value,ev x=str s→ev y=str u→(execOp ev o).run Tryz.prog w=.ok (.value (.slice (some ⟨w.heap.size,0,none⟩) 2 2)) (w.alloc (.cells #[str s,str u] 9)):=λev h1 h2=>by
   unfold execOp;simp[ho,h1,h2,go_sem]
  rw[hrun _ h1 h2];exact hn _ _ (SS.new D w (hD w hS) [s,u] 9 (0,0) (by unfold maxLen;simp) (by
   intro z hz;rcases List.mem_cons.1 hz with rfl|hz
   · exact hl
   · rw[List.mem_singleton.1 hz];exact hl2)) ((zb w).alloc zr _)
end
abbrev vP (b o:Nat):VS:=.eq (.pointer (some ⟨b,o,none⟩))
abbrev vL (b o n c:Nat):VS:=.eq (.slice (some ⟨b,o,none⟩) n c)
abbrev vT (s:List UInt8):VS:=.eq (str s)
abbrev vI (n:Int):VS:=.eq (.int .i64 n)
abbrev vY:VS:=.eq (.bool true)
abbrev vN:VS:=.eq (.bool false)
abbrev vK:VS:=.skip
abbrev cA (b o:Nat) (v:Value):Addr×Value:=(⟨b,o,none⟩,v)
def Hv (ops : Array Oper) (h : Nat) (V : List VS) (E : List (Nat × VS)) (o : Oper) : Option VS :=
 match cO ops h V o with
 | some false=>some .skip
 | some true=>match o.op with
  | .assign x=>aJ ops h V E o x
  | .move x=>aJ ops h V E o x
  | .pick c a b=>match aJ ops h V E o c with
   | some (.eq (.bool q))=>match aJ ops h V E o (if q then a else b) with
    | some (.eq r)=>some (.eq r)
    | _=>none
   | _=>none
  | .unOp .not _ x=>match aJ ops h V E o x with
   | some (.eq (.bool q))=>some (.eq (.bool (!q)))
   | _=>none
  | _=>none
 | none=>none
def IZ:Op→Bool
 | .assign _=>true
 | .move _=>true
 | .pick _ _ _=>true
 | .unOp .not _ _=>true
 | _=>false
section
variable {D:Nat→Prop} {ops:Array Oper} {h:Nat} {V:List VS} {E:List (Nat×VS)} {S:World→Prop}
theorem oe {k:Nat} {o:Oper} {s:VS} (_:IZ o.op=true) (hk:V[k]? =some s) (hp:Hv ops h V E o=some s):bM D Tryz.prog S ops h V E k o:=by
 unfold Hv at hp
 split at hp
 · cases hp
   exact dr ‹_› hk
 · rename_i hw
   split at hp
   · rename_i ho;exact Mn (.inl ho) hw hk hp
   · rename_i ho;exact Mn (.inr ho) hw hk hp
   · rename_i ho
     split at hp
     · rename_i hc
       split at hp
       · rename_i hx
         cases hp;exact EY ho hw hk hc hx
       · cases hp
     · cases hp
   · rename_i ho
     split at hp
     · rename_i hx
       cases hp;exact Hy ho hw hk hx rfl
     · cases hp
   · cases hp
 · cases hp
end
def ql (D:Nat→Prop) (w:World) (a:Act):List (Nat×VS)→Prop
 | []=>True
 | p::l=>p.2.holds D w (a.eval (.tmp p.1))∧ql D w a l
theorem ql.all {D:Nat→Prop} {w:World} {a:Act}:∀{E:List (Nat×VS)},ql D w a E→∀p∈E,p.2.holds D w (a.eval (.tmp p.1))
 | [],_,p,hp=>by cases hp
 | q::l,hE,p,hp=>by
  rcases List.mem_cons.1 hp with rfl|hp
  · exact hE.1
  · exact ql.all hE.2 p hp
def yx (P:Program) (ops:Array Oper) (h n:Nat):Bool:=P.follows .mixedOrders&&(decide (ops.size=h+1)&&(sw .any ops&&(nL .any ops h&&BK ops n)))
theorem dK {D:Nat→Prop} {P:Program} {ops:Array Oper} {a0:Act} {Q:Exit→Act→World→Prop} {id:Nat} {w:World} {v:Value} (h:Nat) (E:List (Nat×VS)) (V:List VS) (S:World→Prop) (hok:yx P ops h a0.tmps.size=true) (hl:V[h]? =some (.eq v))
 (eE:∀w w',S w→Below w.heap.size w w'→S w') (hS:S w.drew) (hE:ql D w.drew a0 E) (hst:lI D P S ops h V E 0 ops.toList)
 (hend:∀a w',S w'→Below w.heap.size w w'→(∀(j:Nat) (s:VS) (d:Nat),j<h→V[j]? =some s→(ops[j]?).bind (·.dst)=some d→s.holds D w' (a.tmps.getD d undef))→Q .normal ((dA a (ops.toList.take h) a0).put ((ops[h]?).bind (·.dst)) v) w'):
 (Code.region id ops true).wp P Q a0 w:=by
 unfold yx at hok
 simp only[Bool.and_eq_true,decide_eq_true_eq] at hok
 obtain⟨h1,h2,h3,h4,h5⟩:=hok
 refine jc h E V S h1 h2 h3 h4 h5 eE hS hE.all hst λa u w' Np hb ha hf hv=>?_
 obtain rfl:u=v:=hv _ hl
 have:=hend a w' Np hb hf
 rwa [←ha] at this
theorem qj {D:Nat→Prop} {P:Program} {ops:Array Oper} {a0:Act} {Q:Exit→Act→World→Prop} {id:Nat} {w:World} {v:Value} {d:Option Nat} (h:Nat) (E:List (Nat×VS)) (V:List VS) (S:World→Prop) (hok:yx P ops h a0.tmps.size=true) (hl:V[h]? =some (.eq v)) (hd:(ops[h]?).bind (·.dst)=d)
 (eE:∀w w',S w→Below w.heap.size w w'→S w') (hS:S w.drew) (hE:ql D w.drew a0 E) (hst:lI D P S ops h V E 0 ops.toList)
 (hend:∀a w',S w'→Below w.heap.size w w'→(∀(j:Nat) (s:VS) (d:Nat),j<h→V[j]? =some s→(ops[j]?).bind (·.dst)=some d→s.holds D w' (a.tmps.getD d undef))→Q .normal ((dA a (ops.toList.take h) a0).put d v) w'):
 (Code.region id ops true).wp P Q a0 w:=dK h E V S hok hl eE hS hE hst λa w' h1 h2 h3=>by rw[hd];exact hend a w' h1 h2 h3
theorem vW {D:Nat→Prop} {P:Program} {ops:Array Oper} {a0:Act} {Q:Exit→Act→World→Prop} {id:Nat} {w:World} {s:VS} (h:Nat) (E:List (Nat×VS)) (V:List VS) (S:World→Prop) (hok:yx P ops h a0.tmps.size=true) (hl:V[h]? =some s) {d:Option Nat} (hd:(ops[h]?).bind (·.dst)=d)
 (eE:∀w w',S w→Below w.heap.size w w'→S w') (hS:S w.drew) (hE:ql D w.drew a0 E) (hst:lI D P S ops h V E 0 ops.toList)
 (hend:∀a v w',S w'→Below w.heap.size w w'→s.holds D w' v→Q .normal ((dA a (ops.toList.take h) a0).put d v) w'):
 (Code.region id ops true).wp P Q a0 w:=by
 unfold yx at hok
 simp only[Bool.and_eq_true,decide_eq_true_eq] at hok
 obtain⟨h1,h2,h3,h4,h5⟩:=hok
 subst hd
 refine jc h E V S h1 h2 h3 h4 h5 eE hS hE.all hst λa u w' Np hb ha hf hv=>?_
 have:=hend a u w' Np hb (hv _ hl)
 rwa [←ha] at this
theorem pq:(∀{α:Type} (a:α) (l:List α) (n:Nat),(a::l).take (n+1)=a::l.take n)∧(∀{α:Type} (l:List α),l.take 0=[])∧(∀(a b:Act),dA a [] b=b)∧(∀(a b:Act) (o:Oper) (l:List Oper),dA a (o::l) b=dA a l (b.put o.dst (match o.dst with|some d=>a.tmps.getD d undef|none=>undef))):=⟨λ_ _ _=>rfl,λ_=>rfl,λ_ _=>rfl,λ_ _ _ _=>rfl⟩
theorem gy {w:World}:aZ [] w:=λp hp=>by cases hp
theorem b9 {w:World} {b o:Nat} {v:Value} {L:List (Addr×Value)} (h:w.cell? ⟨b,o,none⟩=some v) (hL:aZ L w):aZ (cA b o v::L) w:=λp hp=>by
 rcases List.mem_cons.1 hp with rfl|hp
 · exact h
 · exact hL p hp
end
open Go.RowKit
def ef (l:List (List UInt8)):Bool:=l.all λs=>decide (s.length≤200)
def yF (s:bP):Bool:=decide (s.args.length≤8)&&decide (s.sigs.length≤8)&&ef s.args&&ef s.sigs&&ef [s.res]
def Hr (o:aL):Bool:=ef [o.name]&&yF o.sig
def iD (l:List aL):Bool:=l.all Hr&&decide (l.length≤6)
def qQ (f:aA):Bool:=ef [f.name]&&iD f.ag&& !(decide (8<f.ops.length)&&decide (f.ops.length≤20))&& !decide (22<f.ops.length)
def lG (n:Nat):Bool:=decide (n≤8)||(decide (20<n)&&decide (n≤23))
def pQ (l:List aA):Bool:=l.all (λf=>qQ f&&f.ops.all Hr)&&lG l.length
theorem dP {α:Type} {p:α→Bool} {l:List α} {k:Nat} {x:α} (hk:l[k]? =some x) (hx:p x=false):(l.drop k).all p=false:=by rw[bp hk,List.all_cons,hx];rfl
theorem jZ {α:Type} {p:α→Bool} {l:List α} {k:Nat} {x:α} (hk:l[k]? =some x) (hx:p x=true):(l.drop k).all p=(l.drop (k+1)).all p:=by rw[bp hk,List.all_cons,hx];rfl
set_option maxRecDepth 4000 in
theorem gI {D:Nat→Prop} (l:List (List UInt8)) (v:Value) (w:World) (hv:SS D w v l):
 Calls Tryz.prog 17 #[v] w λe w'=>e=.returned (.bool (ef l))∧Below w.heap.size w w':=by
 obtain⟨p,c,rfl,hc,hm,hle⟩:=hv.shape
 unfold maxLen at hm
 have hle:=zh hle
 go_enter Tryz.func17,Tryz.ntmps17
 go_wp2_with fail
 go_loopw [3] (λy wr=>∃i:Nat,i≤l.length∧y=.int .i64 i∧Below w.heap.size w wr∧Hid (ef l=(l.drop i).all λs=>decide (s.length≤200))) (λy _=>l.length - (intOf y).toNat)
 case atStart=>exact⟨0,Nat.zero_le _,by go_num,zb _,rfl⟩
 case round=>
  obtain⟨i,hi,rfl,hB,hA⟩:=hrel
  by_cases hlt:i<l.length
  case neg=>
   have HX:=zh (show ef l=true by rw[hA.out,List.drop_eq_nil_of_le (by omega)];rfl);clear hA;go_wp2_with fail;go_ret;exact⟨by rw[HX.out];rfl,hB⟩
  case pos=>
   obtain⟨t,ht⟩:∃t,l[i]? =some t:=⟨_,List.getElem?_eq_getElem hlt⟩
   obtain⟨b1,o1,rfl,_,hct⟩:=(hv.below hB zr).at ht
   by_cases h2:t.length≤200
   · have HX:=zh (hA.out.trans (jZ ht (decide_eq_true h2)))
     have g1:¬200<t.length:=by omega
     have g2:¬(200:Int)<(t.length:Int):=by omega
     clear hA ht;go_wp2_with fail;exact⟨⟨i+1,hlt,by go_num,hB,HX⟩,by simp only[intOf];omega⟩
   · have HX:=zh (hA.out.trans (dP ht (decide_eq_false h2)))
     have g1:200<t.length:=by omega
     have g2:(200:Int)<(t.length:Int):=by omega
     clear hA ht;go_wp2_with fail;go_ret;exact⟨by rw[HX.out];rfl,hB⟩
theorem vJ (w:World) (s:List UInt8) (h:s.length≤maxLen):SS Any (w.alloc (.cells #[str s] 9)) (.slice (some ⟨w.heap.size,0,none⟩) 1 1) [s]:=
 SS.new Any w trivial [s] 9 (0,0) (by simp[maxLen]) (by intro x hx;rw[List.mem_singleton.1 hx];exact h)
set_option maxRecDepth 4000 in
theorem xN {D:Nat→Prop} (s:bP) (v:Value) (w:World) (hv:aT D w v s):
 Calls Tryz.prog 55 #[v] w λe w'=>e=.returned (.bool (yF s))∧Below w.heap.size w w':=by
 obtain⟨a,g,rfl,Cc,fe,DG⟩:=hv
 have hA:=(zb w).alloc zr (.cells #[.bool s.iter,a,str s.res,g] 36)
 have bT:=heap_alloc_new w (.cells #[.bool s.iter,a,str s.res,g] 36)
 have H1:=gI s.args a _ (fe.below hA zr)
 have H2:=λW (hW:Below (w.alloc (.cells #[.bool s.iter,a,str s.res,g] 36)).heap.size (w.alloc (.cells #[.bool s.iter,a,str s.res,g] 36)) W)=>gI s.sigs g W ((DG.below hA zr).below hW zr)
 have H3:=λW=>gI [s.res] _ _ (vJ W s.res Cc)
 have bx:=aN bT
 obtain⟨pa,ca,rfl,_,ha1,_⟩:=fe.shape
 obtain⟨pg,cg,rfl,_,hg1,_⟩:=DG.shape
 unfold maxLen at ha1 hg1
 have HS:=zh (show yF s=(decide (s.args.length≤8)&&decide (s.sigs.length≤8)&&ef s.args&&ef s.sigs&&ef [s.res]) from rfl)
 generalize yF s=SK at *
 generalize ef s.args=r1 at *
 generalize ef s.sigs=r2 at *
 generalize ef [s.res]=r3 at *
 clear fe DG
 by_cases g1:s.args.length≤8
 case neg=>
  have HX:=zh (show SK=false by rw[HS.out,decide_eq_false g1];rfl);have g2:¬(s.args.length:Int)≤8:=by omega
  clear HS H1 H2 H3;go_enter Tryz.func55,Tryz.ntmps55;go_wp2_with fail;go_ret;exact⟨by rw[HX.out];first|done|rfl,hA⟩
 case pos =>
  have g2:(s.args.length:Int)≤8:=by omega
  by_cases g3:s.sigs.length≤8
  case neg=>
   have HX:=zh (show SK=false by rw[HS.out,decide_eq_false g3];simp);have g4:¬(s.sigs.length:Int)≤8:=by omega
   clear HS H1 H2 H3;go_enter Tryz.func55,Tryz.ntmps55;go_wp2_with fail;go_ret;exact⟨by rw[HX.out];first|done|rfl,hA⟩
  case pos=>
   have g4:(s.sigs.length:Int)≤8:=by omega
   have Ju:=zh (show SK=(r1&&r2&&r3) by rw[HS.out,decide_eq_true g1,decide_eq_true g3];simp);clear HS;rcases r1 with _|_
   · have HX:=zh (show SK=false by rw[Ju.out];rfl)
     clear Ju H2 H3;go_enter Tryz.func55,Tryz.ntmps55;go_wp2_with (go_at_call 17;refine H1.mono ?_;clear H1;rintro e w1 ⟨rfl,au⟩);go_ret;exact⟨by rw[HX.out];first|done|rfl,hA.trans (af au hA.size)⟩
   rcases r2 with _|_
   · have HX:=zh (show SK=false by rw[Ju.out];rfl)
     clear Ju H3;go_enter Tryz.func55,Tryz.ntmps55;go_wp2_with (first
      | (go_at_call 17;refine H1.mono ?_;clear H1;rintro e w1 ⟨rfl,au⟩;have H2:=H2 _ au;have hk:=aN (ah bT au))
      | (go_at_call 17;refine H2.mono ?_;clear H2;rintro e w2 ⟨rfl,aC⟩))
     go_ret;exact⟨by rw[HX.out];first|done|rfl,(hA.trans (af au hA.size)).trans (af aC (by have:=au.size;simp at this;omega))⟩
   · have HX:=zh (show SK=r3 by rw[Ju.out];rfl)
     clear Ju;go_enter Tryz.func55,Tryz.ntmps55;go_wp2_with (first
      | (go_at_call 17;refine H1.mono ?_;clear H1;rintro e w1 ⟨rfl,au⟩;have H2:=H2 _ au;have hk:=aN (ah bT au))
      | (go_at_call 17;refine H2.mono ?_;clear H2;rintro e w2 ⟨rfl,aC⟩;have hk2:=aN (ah (ah bT au) aC))
      | (go_at_call 17;refine(H3 _).mono ?_;clear H3;rintro e w3 ⟨rfl,aH⟩))
     go_ret;have bL:=(hA.trans (af au hA.size)).trans (af aC (by have:=au.size;simp at this;omega));exact⟨by rw[HX.out];first|done|rfl,(bL.alloc bL.size _).trans (af aH (by have:=bL.size;simp;omega))⟩
def jk (f:aA):Bool:=qQ f&&f.ops.all Hr
theorem LZ (l:List aA):pQ l=(l.all jk&&lG l.length):=rfl
set_option maxRecDepth 4000 in
theorem xP {D:Nat→Prop} (l:List aL) (v:Value) (w:World) (hv:aY D w v l):
 Calls Tryz.prog 16 #[v] w λe w'=>e=.returned (.bool (iD l))∧Below w.heap.size w w':=by
 obtain⟨p,c,rfl,hc,hm,hle⟩:=hv.shape
 unfold maxLen at hm
 clear hle
 go_enter Tryz.func16,Tryz.ntmps16
 go_wp2_with fail
 go_loopw [3] (λy wr=>∃i:Nat,i≤l.length∧y=.int .i64 i∧Below w.heap.size w wr∧Hid (iD l=((l.drop i).all Hr&&decide (l.length≤6)))) (λy _=>l.length - (intOf y).toNat)
 case atStart=>exact⟨0,Nat.zero_le _,by go_num,zb _,rfl⟩
 case round =>
  obtain⟨i,hi,rfl,hB,hA⟩:=hrel
  by_cases hlt:i<l.length
  case neg=>
   have HX:=zh (show iD l=decide (l.length≤6) by rw[hA.out,List.drop_eq_nil_of_le (by omega)];rfl);clear hA
   by_cases h6:l.length≤6
   all_goals
    have HX:=zh (HX.out.trans (by first|exact decide_eq_true h6|exact decide_eq_false h6));have h7:(l.length:Int)≤6↔l.length≤6:=by omega
    simp only[h6,iff_true,iff_false] at h7;go_wp2_with fail;go_ret;exact⟨by rw[HX.out];first|done|rfl,hB⟩
  case pos=>
   obtain⟨x,hx⟩:∃x,l[i]? =some x:=⟨_,List.getElem?_eq_getElem hlt⟩
   obtain⟨b1,o1,av,sv,rfl,_,hxl,fe,eE,uq,pG,od,pZ,rK⟩:=(hv.below hB zr).at hx;have Db:=λW (hW:Below wr.heap.size wr W)=>xN x.sig _ W ⟨av,sv,rfl,hxl.2,fe.below hW zr,eE.below hW zr⟩
   obtain⟨pa,ca,rfl,_⟩:=fe.shape;obtain⟨ps,cs,rfl,_⟩:=eE.shape;have HS:=gI [x.name] _ _ (vJ wr x.name hxl.1);have hE:=(zb wr).alloc zr (.cells #[str x.name] 9);have HO:=zh (show Hr x=(ef [x.name]&&yF x.sig) from rfl);have qc:=zh hA.out;clear fe eE;generalize ef [x.name]=q1 at *;generalize yF x.sig=q2 at *;rcases q1 with _|_
   · have HX:=zh (show iD l=false by rw[qc.out,dP hx (by rw[HO.out];rfl)];rfl)
     clear hA qc hx HO Db;go_wp2_with (go_at_call 17;refine HS.mono ?_;clear HS;rintro e w1 ⟨rfl,au⟩);go_ret;exact⟨by rw[HX.out];first|done|rfl,hB.trans (af (hE.trans (af au hE.size)) hB.size)⟩
   rcases q2 with _|_
   · have HX:=zh (show iD l=false by rw[qc.out,dP hx (by rw[HO.out];rfl)];rfl)
     clear hA qc hx HO;go_wp2_with (first
      | (go_at_call 55;refine(Db w1 bL).mono ?_;clear Db;rintro e w2 ⟨rfl,aC⟩)
      | (go_at_call 17;refine HS.mono ?_;clear HS;rintro e w1 ⟨rfl,au⟩;have bL:=hE.trans (af au hE.size);have Oq:=Below.keep bL uq;have Ot:=Below.keep bL pG;have Ou:=Below.keep bL od;have Hf:=Below.keep bL pZ;have Ov:=Below.keep bL rK))
     go_ret;exact⟨by rw[HX.out];first|done|rfl,hB.trans (af (bL.trans (af aC bL.size)) hB.size)⟩
   · have HX:=zh (qc.out.trans (by rw[jZ hx (by rw[HO.out];rfl)]))
     clear hA qc hx HO;go_wp2_with (first
      | (go_at_call 55;refine(Db w1 bL).mono ?_;clear Db;rintro e w2 ⟨rfl,aC⟩)
      | (go_at_call 17;refine HS.mono ?_;clear HS;rintro e w1 ⟨rfl,au⟩;have bL:=hE.trans (af au hE.size);have Oq:=Below.keep bL uq;have Ot:=Below.keep bL pG;have Ou:=Below.keep bL od;have Hf:=Below.keep bL pZ;have Ov:=Below.keep bL rK))
     exact⟨⟨i+1,hlt,by go_num,hB.trans (af (bL.trans (af aC bL.size)) hB.size),HX⟩,by simp only[intOf];omega⟩
theorem jR (r:List UInt8) (v:Value) (w:World) (hv:∃p n c,v=.slice p n c):
 Calls Tryz.prog 57 #[str r,v] w λe w'=>e=.returned (.agg #[.bool false,v,str r,.slice none 0 0])∧Below w.heap.size w w':=by
 obtain⟨p,n,c,rfl⟩:=hv
 go_enter Tryz.func57,Tryz.ntmps57
 go_wp2_with fail
 refine bodyPost_ret (v:=.agg #[.bool false,.slice p n c,str r,.slice none 0 0]) (by simp[results,Tryz.results57,go_sem]) rfl ?_
 exact⟨rfl,(zb _).alloc zr _⟩
theorem BV {f:aA} (h:ef [f.name]=false):jk f=false:=by unfold jk qQ;rw[h];rfl
theorem BW {f:aA} (h:iD f.ag=false):jk f=false:=by unfold jk qQ;rw[h];simp
theorem BX {f:aA} (h:8<f.ops.length) (h2:f.ops.length≤20):jk f=false:=by unfold jk qQ;rw[decide_eq_true h,decide_eq_true h2];simp
theorem BZ {f:aA} (h:22<f.ops.length):jk f=false:=by unfold jk qQ;rw[decide_eq_true h];simp
theorem B0 {f:aA} (h1:ef [f.name]=true) (h2:iD f.ag=true) (h3:¬(8<f.ops.length∧f.ops.length≤20)) (h4:¬22<f.ops.length):jk f=f.ops.all Hr:=by
 unfold jk qQ
 rw[h1,h2,decide_eq_false h4]
 have:(decide (8<f.ops.length)&&decide (f.ops.length≤20))=false:=by
  rw[Bool.and_eq_false_iff,decide_eq_false_iff_not,decide_eq_false_iff_not];omega
 rw[this]
 rfl
set_option maxRecDepth 4000 in
theorem Ll {D : Nat → Prop} (l : List aA) (v : Value) (w : World) (hv : bG D w v l) :
 Calls Tryz.prog 15 #[v] w λe w'=>e=.returned (.bool (pQ l))∧Below w.heap.size w w':=by
 obtain⟨p,c,rfl,hc,hm,hle⟩:=hv.shape
 unfold maxLen at hm
 clear hle
 go_enter Tryz.func15,Tryz.ntmps15
 go_wp2_with fail
 go_loopw [3] (λy wr=>∃i:Nat,i≤l.length∧y=.int .i64 i∧Below w.heap.size w wr∧Hid (pQ l=((l.drop i).all jk&&lG l.length))) (λy _=>l.length - (intOf y).toNat)
 case atStart=>exact⟨0,Nat.zero_le _,by go_num,zb _,rfl⟩
 case round =>
  obtain⟨i,hi,rfl,hB,hA⟩:=hrel
  by_cases hlt:i<l.length
  case neg=>
   have HX:=zh (show pQ l=lG l.length by rw[hA.out,List.drop_eq_nil_of_le (by omega)];rfl);clear hA;have hz:(l.length≤8∧lG l.length=true)∨(¬l.length≤8∧¬20<l.length∧lG l.length=false)∨(¬l.length≤8∧20<l.length∧¬l.length≤23∧lG l.length=false)∨(¬l.length≤8∧20<l.length∧l.length≤23∧lG l.length=true):=by
    unfold lG;simp only[Bool.or_eq_true,Bool.or_eq_false_iff,Bool.and_eq_true,Bool.and_eq_false_iff,decide_eq_true_eq,decide_eq_false_iff_not];omega
   rcases hz with⟨z1,z⟩|⟨z1,z2,z⟩|⟨z1,z2,z3,z⟩|⟨z1,z2,z3,z⟩
   all_goals
    have HX:=zh (HX.out.trans z);have y1:(l.length:Int)≤8↔l.length≤8:=by omega
    have y2:(20:Int)<(l.length:Int)↔20<l.length:=by omega
    have y3:(l.length:Int)≤23↔l.length≤23:=by omega
    clear z;go_wp2_with fail;go_ret;exact⟨by rw[HX.out];first|done|rfl,hB⟩
  case pos=>
   obtain⟨x,hx⟩:∃x,l[i]? =some x:=⟨_,List.getElem?_eq_getElem hlt⟩
   obtain⟨b1,o1,nv,ov,rfl,_,hxl,hN,hO,uq,pG,od,pZ,rK⟩:=(hv.below hB zr).at hx;have HW:=λW (hW:Below wr.heap.size wr W)=>xP x.ag _ W (hN.below hW zr)
   have RH:=hO.shape;have L9:=hO;obtain⟨pn,cn,rfl,_⟩:=hN.shape;obtain⟨po,co,rfl,_,Sr,_⟩:=hO.shape;unfold maxLen at Sr;have HS:=gI [x.name] _ _ (vJ wr x.name hxl);have hE:=(zb wr).alloc zr (.cells #[str x.name] 9);have qc:=zh hA.out;clear hN hO RH;rcases h1:ef [x.name] with _|_
   · have HX:=zh (show pQ l=false by rw[qc.out,dP hx (BV h1)];rfl)
     rw[h1] at HS;clear hA qc hx HW h1;go_wp2_with (go_at_call 17;refine HS.mono ?_;clear HS;rintro e w1 ⟨rfl,au⟩);go_ret;exact⟨by rw[HX.out];first|done|rfl,hB.trans (af (hE.trans (af au hE.size)) hB.size)⟩
   rw[h1] at HS;rcases h2:iD x.ag with _|_
   · have HX:=zh (show pQ l=false by rw[qc.out,dP hx (BW h2)];rfl)
     rw[h2] at HW;clear hA qc hx h1 h2;go_wp2_with (first
      | (go_at_call 16;refine(HW w1 bL).mono ?_;clear HW;rintro e w2 ⟨rfl,aC⟩)
      | (go_at_call 17;refine HS.mono ?_;clear HS;rintro e w1 ⟨rfl,au⟩;have bL:=hE.trans (af au hE.size);have Hf:=Below.keep bL pZ))
     go_ret;exact⟨by rw[HX.out];first|done|rfl,hB.trans (af (bL.trans (af aC bL.size)) hB.size)⟩
   rw [h2] at HW;have hz : (8 < x.ops.length ∧ x.ops.length ≤ 20 ∧ pQ l = false) ∨ (8 < x.ops.length ∧ ¬ x.ops.length ≤ 20 ∧ 22 < x.ops.length ∧ pQ l = false) ∨ (¬ (8 < x.ops.length ∧ x.ops.length ≤ 20) ∧ ¬ 22 < x.ops.length) := by
    by_cases k1:8<x.ops.length∧x.ops.length≤20
    · exact .inl ⟨k1.1,k1.2,by rw[qc.out,dP hx (BX k1.1 k1.2)];rfl⟩
    · by_cases k2:22<x.ops.length
      · exact .inr (.inl ⟨by omega,by omega,k2,by rw[qc.out,dP hx (BZ k2)];rfl⟩)
      · exact .inr (.inr ⟨k1,k2⟩)
   have y1:(8:Int)<(x.ops.length:Int)↔8<x.ops.length:=by omega
   have y2:(x.ops.length:Int)≤20↔x.ops.length≤20:=by omega
   have y3:(22:Int)<(x.ops.length:Int)↔22<x.ops.length:=by omega
   rcases hz with⟨z1,z2,z⟩|⟨z1,z2,z3,z⟩|⟨z1,z3⟩
   · have HX:=zh z
     clear z hA qc hx h1 h2;go_wp2_with (first
      | (go_at_call 16;refine(HW w1 bL).mono ?_;clear HW;rintro e w2 ⟨rfl,aC⟩;have cD:=bL.trans (af aC bL.size);have Mj:=Below.keep cD rK)
      | (go_at_call 17;refine HS.mono ?_;clear HS;rintro e w1 ⟨rfl,au⟩;have bL:=hE.trans (af au hE.size);have Hf:=Below.keep bL pZ))
     go_ret;exact⟨by rw[HX.out];first|done|rfl,hB.trans (af cD hB.size)⟩
   · have HX:=zh z
     clear z hA qc hx h1 h2;go_wp2_with (first
      | (go_at_call 16;refine(HW w1 bL).mono ?_;clear HW;rintro e w2 ⟨rfl,aC⟩;have cD:=bL.trans (af aC bL.size);have Mj:=Below.keep cD rK)
      | (go_at_call 17;refine HS.mono ?_;clear HS;rintro e w1 ⟨rfl,au⟩;have bL:=hE.trans (af au hE.size);have Hf:=Below.keep bL pZ))
     go_ret;exact⟨by rw[HX.out];first|done|rfl,hB.trans (af cD hB.size)⟩
   have HX:=zh (qc.out.trans (by rw[bp hx,List.all_cons,B0 h1 h2 z1 z3]));have Li:(8<x.ops.length∧¬x.ops.length≤20)∨¬8<x.ops.length:=by omega
   clear hA qc hx h1 h2 z1;rcases Li with⟨z1,z2⟩|z1
   all_goals
    go_wp2_with (first
     | (go_at_call 16;refine(HW w1 bL).mono ?_;clear HW;rintro e w2 ⟨rfl,aC⟩;have cD:=bL.trans (af aC bL.size);have Mj:=Below.keep cD rK)
     | (go_at_call 17;refine HS.mono ?_;clear HS;rintro e w1 ⟨rfl,au⟩;have bL:=hE.trans (af au hE.size);have Hf:=Below.keep bL pZ))
    have Kq:=L9.below cD zr;have zw:=hB.trans (af cD hB.size);have S1:=zh Mj;clear Mj Hf uq pG od pZ rK y1 y2 y3 au aC hE bL;go_loopw [4] (λy wx=>∃k:Nat,k≤x.ops.length∧y=.int .i64 k∧Below w2.heap.size w2 wx∧Hid (pQ l=((x.ops.drop k).all Hr&&(l.drop (i+1)).all jk&&lG l.length))) (λy _=>x.ops.length - (intOf y).toNat)
    case atStart=>exact⟨0,Nat.zero_le _,by go_num,zb _,HX⟩
    case round =>
     obtain⟨k,hk,rfl,dx,hA⟩:=hrel;have P7:=Below.keep dx S1.out;clear HX
     by_cases hlk:k<x.ops.length
     case neg=>
      have HX:=zh (show pQ l=((l.drop (i+1)).all jk&&lG l.length) by rw[hA.out,List.drop_eq_nil_of_le (by omega)];rfl);clear hA;go_wp2_with fail;exact⟨⟨i+1,hlt,by go_num,zw.trans (af dx zw.size),HX⟩,by simp only[intOf];omega⟩
     case pos=>
      obtain⟨y,hy⟩:∃y,x.ops[k]? =some y:=⟨_,List.getElem?_eq_getElem hlk⟩
      obtain⟨b2,o2,av,sv,mq,_,Mh,fe,eE,Qi,Qj,Qk,Ql,Qm⟩:=(Kq.below dx zr).at hy;subst mq;have Db:=λW (hW:Below wr.heap.size wr W)=>xN y.sig _ W ⟨av,sv,rfl,Mh.2,fe.below hW zr,eE.below hW zr⟩
      obtain⟨pa,ca,rfl,_⟩:=fe.shape;obtain⟨ps,cs,rfl,_⟩:=eE.shape;have HS:=gI [y.name] _ _ (vJ wr y.name Mh.1);have hE:=(zb wr).alloc zr (.cells #[str y.name] 9);have HO:=zh (show Hr y=(ef [y.name]&&yF y.sig) from rfl);have qc:=zh hA.out;have hBw:=zw.trans (af dx zw.size);clear fe eE hA;generalize ef [y.name]=q1 at *;generalize yF y.sig=q2 at *;rcases q1 with _|_
      · have HX:=zh (show pQ l=false by rw[qc.out,dP hy (by rw[HO.out];rfl)];rfl)
        clear qc hy HO Db;go_wp2_with (go_at_call 17;refine HS.mono ?_;clear HS;rintro e w3 ⟨rfl,aH⟩);go_ret;exact⟨by rw[HX.out];first|done|rfl,hBw.trans (af (hE.trans (af aH hE.size)) hBw.size)⟩
      rcases q2 with _|_
      · have HX:=zh (show pQ l=false by rw[qc.out,dP hy (by rw[HO.out];rfl)];rfl)
        clear qc hy HO;go_wp2_with (first
         | (go_at_call 55;refine(Db w3 eD).mono ?_;clear Db;rintro e w4 ⟨rfl,hb4⟩)
         | (go_at_call 17;refine HS.mono ?_;clear HS;rintro e w3 ⟨rfl,aH⟩;have eD:=hE.trans (af aH hE.size);have SU:=Below.keep eD P7;have Oq:=Below.keep eD Qi;have Ot:=Below.keep eD Qj;have Ou:=Below.keep eD Qk;have Hf:=Below.keep eD Ql;have Ov:=Below.keep eD Qm))
        go_ret;exact⟨by rw[HX.out];first|done|rfl,hBw.trans (af (eD.trans (af hb4 eD.size)) hBw.size)⟩
      · have HX:=zh (qc.out.trans (by rw[jZ hy (by rw[HO.out];rfl)]))
        clear qc hy HO;go_wp2_with (first
         | (go_at_call 55;refine(Db w3 eD).mono ?_;clear Db;rintro e w4 ⟨rfl,hb4⟩)
         | (go_at_call 17;refine HS.mono ?_;clear HS;rintro e w3 ⟨rfl,aH⟩;have eD:=hE.trans (af aH hE.size);have SU:=Below.keep eD P7;have Oq:=Below.keep eD Qi;have Ot:=Below.keep eD Qj;have Ou:=Below.keep eD Qk;have Hf:=Below.keep eD Ql;have Ov:=Below.keep eD Qm))
        exact⟨⟨k+1,hlk,by go_num,dx.trans (af (eD.trans (af hb4 eD.size)) dx.size),HX⟩,by simp only[intOf];omega⟩
end Go.Proofs.YtakgjcfkdemipaaGreatDoor
