/-
  Lemmas for the statement: five parameters of a function, read and shut. No condition.
-/
import Derived.Carry
namespace Go.Proofs.YtakgjcfkdemipaaGreatDoor
open Go Go.RowKit Go.ChangeShapes
section
variable {H:Type} {enc:TypeId×Value→H} {P:Program} {w:World} {base:Nat} {spare:Nat→Bool} {held:Bool}
theorem Gz {t t' t'' t3 t4:TypeId} {args:Array Value} {ds:List (DataW H)} {ps:List MemPlace} (h:DataW.TrodAll enc P w base spare held [t,t',t'',t3,t4] args.toList ds ps):
 ∃v v' v'' v3 v4 d d' d'' d3 d4 p p' p'' p3 p4,args= #[v,v',v'',v3,v4]∧ds=[d,d',d'',d3,d4]∧ps=p++p'++p''++p3++p4∧DataW.Trod enc P w base spare held t v d p∧DataW.Trod enc P w base spare held t' v' d' p'∧DataW.Trod enc P w base spare held t'' v'' d'' p''∧DataW.Trod enc P w base spare held t3 v3 d3 p3∧DataW.Trod enc P w base spare held t4 v4 d4 p4:=by
 obtain⟨v,vs,d,ds',p,q,hargs,rfl,rfl,hd,xo⟩:=trodAll_cons h
 obtain⟨v',vs',d',Q8,p',q',rfl,rfl,rfl,hd',IK⟩:=trodAll_cons xo
 obtain⟨v'',Tw,d'',O2,p'',UF,rfl,rfl,rfl,NG,F3⟩:=trodAll_cons IK
 obtain⟨v3,UG,d3,TU,p3,q3,rfl,rfl,rfl,R1,IL⟩:=trodAll_cons F3
 obtain⟨v4,UH,d4,TW,p4,q4,rfl,rfl,rfl,R2,IM⟩:=trodAll_cons IL
 obtain⟨rfl,rfl,rfl⟩:=trodAll_nil IM
 exact⟨v,v',v'',v3,v4,d,d',d'',d3,d4,p,p',p'',p3,p4,by cases args;simp_all,rfl,by simp,hd,hd',NG,R1,R2⟩
theorem H6 {t t' t'' t3 t4:TypeId} {v v' v'' v3 v4:Value} {d d' d'' d3 d4:DataW H} {p p' p'' p3 p4:List MemPlace} (h:DataW.Trod enc P w base spare held t v d p) (h':DataW.Trod enc P w base spare held t' v' d' p')
 (h'':DataW.Trod enc P w base spare held t'' v'' d'' p'') (h3:DataW.Trod enc P w base spare held t3 v3 d3 p3) (h4:DataW.Trod enc P w base spare held t4 v4 d4 p4):DataW.TrodAll enc P w base spare held [t,t',t'',t3,t4] [v,v',v'',v3,v4] [d,d',d'',d3,d4] (p++(p'++(p''++(p3++p4)))):=⟨p,p'++(p''++(p3++p4)),h,trodAll_mk4 h' h'' h3 h4,rfl⟩
end
end Go.Proofs.YtakgjcfkdemipaaGreatDoor
