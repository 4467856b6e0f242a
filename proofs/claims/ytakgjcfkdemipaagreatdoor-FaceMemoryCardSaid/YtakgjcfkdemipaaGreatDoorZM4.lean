/-
  Lemmas: a region that draws its order, told by the specifications of its values: each operation by one lemma. No condition.
-/
import Derived.Test.YtakgjcfkdemipaaGreatDoorZB20
import Derived.Test.YtakgjcfkdemipaaGreatDoorZM3
namespace Go.Proofs.YtakgjcfkdemipaaGreatDoor
open Go Go.RowKit
section
variable {D:Nat→Prop} {P:Program} {ops:Array Oper} {h:Nat} {V:List VS} {E:List (Nat×VS)} {a0:Act} {S:World→Prop}
end
section
variable {D:Nat→Prop} {ops:Array Oper} {h:Nat} {V:List VS} {E:List (Nat×VS)} {S:World→Prop} {k:Nat} {o:Oper}
theorem vdu {f:FuncId} {x y z t:Operand} {tys:Array TypeId} {s s1 s2 s3 s4:VS} (ho:o.op=.call {callee:=.value (.func f),args:= #[x,y,z,t],argTypes:=tys }) (en:∀args w,(callFunc f args).run Tryz.prog w=.ok (.enter f args) w)
 (hw:cO ops h V o=some true) (hk:V[k]? =some s) (hx:aJ ops h V E o x=some s1) (hy:aJ ops h V E o y=some s2) (hz:aJ ops h V E o z=some s3) (ht:aJ ops h V E o t=some s4)
 (hc:∀(v v2 v3 v4:Value) (w:World),S w→s1.holds D w v→s2.holds D w v2→s3.holds D w v3→s4.holds D w v4→Calls Tryz.prog f #[v,v2,v3,v4] w λe w'=>∃u,e=.returned u∧s.holds D w' u∧Below w.heap.size w w'):bM D Tryz.prog S ops h V E k o:=
 oI [(x,s1),(y,s2),(z,s3),(t,s4)] hw hk (by simp[hx,hy,hz,ht]) λa w Q hS hi next hn=>by
  have h1:=hi (x,s1) (by simp);have h2:=hi (y,s2) (by simp);have h3:=hi (z,s3) (by simp);have h4:=hi (t,s4) (by simp);have hrun:(execOp a.eval o).run Tryz.prog w=.ok (.enter f #[a.eval x,a.eval y,a.eval z,a.eval t]) w:=by
   simp[execOp,ho,resolve,Deferred.ofValue,invoke,Act.eval,en]
  unfold Oper.wp;rw[hrun,Oper.upon_enter];refine(hc _ _ _ _ w hS h1 h2 h3 h4).mono ?_;rintro e w' ⟨u,rfl,hu,hb⟩;exact hn u w' hu hb
end
section
variable {D:Nat→Prop} {ops:Array Oper} {h:Nat} {V:List VS} {E:List (Nat×VS)} {S:World→Prop} {k:Nat} {o:Oper}
end
section
variable {D:Nat→Prop} {ops:Array Oper} {h:Nat} {V:List VS} {E:List (Nat×VS)} {S:World→Prop} {k:Nat} {o:Oper}
end
