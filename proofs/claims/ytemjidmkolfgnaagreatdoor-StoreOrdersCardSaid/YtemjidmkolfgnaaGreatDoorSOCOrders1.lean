/-
  The statement StoreOrders of the package store: for every input it answers true, and each argument reads as it did. The four package-level variables that its row lists (unicode/utf8.acceptRanges, unicode.White_Space, strings.asciiSpace, unicode/utf8.first) hold what the program's text lays in them: the card ties that to the text.
-/
import Derived.Test.YtemjidmkolfgnaaGreatDoorSO2
import Derived.Test.YtemjidmkolfgnaaGreatDoorSO3
namespace Go.Proofs.YtemjidmkolfgnaaGreatDoor.storeOrders
open Go.ChangeShapes Go.WideShapes Go.ChangeAt Go.RowKit Go.Deep

set_option maxRecDepth 100000 in
theorem contract (H:Type) (enc:TypeId×Value→H) (W:World) (base:Nat) (args:Array Value) (ds gs:List (DataW H)) (before:List MemPlace)
    (hval:∀(j:Nat) t v,Tryz.f3.params[j]? =some t→args[j]? =some v→Value.okWide Tryz.prog W .any base t v)
    (hW:DataW.Whole enc Tryz.prog Tryz.f3.params.toList Rows.storeOrdersSpec.vars false W args.toList ds gs before) (hL:laidMetH Tryz.prog va6 W) (hsh:W.ShapedOpen Tryz.prog):
    Calls Tryz.prog 3 args W λe W'=>∃v,e=.returned v∧Rows.storeOrdersSpec.post enc Tryz.prog Tryz.f3 false true false false W args v W':=by
  have Uk:=hW
  obtain⟨p,q,A6,hV,rfl,hfz,hnd⟩:=hW
  have hA:DataW.TrodAll enc Tryz.prog W 0 (λ_=>true) true Tryz.f3.params.toList args.toList ds p:=A6
  rw[Tryz.params3] at hA hval
  obtain⟨v0,d0,rfl,rfl,h0⟩:=trodAll_one hA
  obtain⟨rfl,rfl⟩:=trodVars_none hV
  obtain⟨a0,n0,c0,rfl⟩:=okWide_slice Tryz.underlying22 (hval 0 22 v0 rfl rfl)
  obtain⟨x0,X0⟩:=ve5 rfl h0
  have hlt:∀x∈p,x.block<W.heap.size:=λx hx=>by simpa using Uk.lt x (by simpa using hx)
  have ht:=va5 hL
  have walk:=vbg x0 _ W X0 ht (va3 hsh) (Nat.lt_of_le_of_lt (Nat.zero_le _) ht.lt)
  refine walk.mono λe W' ⟨he,hb⟩=>?_
  subst he
  refine⟨_,rfl,_,_,_,[],p,[],by simpa using Uk,?_,?_,?_,hb.frame _,λh=>by cases h⟩
  · exact trodAll_mk1 (shut_bool Tryz.underlying4 true)
  · exact trodAll_mk1 (Below.trod vad (by kernel_rfl) (of_decide_eq_true (by kernel_rfl)) h0 hb (λx hx=>hlt x (by simp[hx])))
  · rfl

/-- A world for the witness. -/
theorem reads (os:Os) {H:Type} (enc:TypeId×Value→H):∃places,DataW.whole enc Tryz.prog ((va9 os).forCall (λ_ _=>0) ⟨#[],#[.slice none 0 0],[]⟩).memory Tryz.f3.params.toList Rows.storeOrdersSpec.vars false (#[.slice none 0 0]:Array Value).toList 8=some ([.nil],[],places):=
  ⟨[],by kernel_rfl⟩

set_option maxRecDepth 100000 in
theorem lifted (os:Os) (started:os.Started) (H:Type) (enc:TypeId×Value→H) (F:Stop.Interp):
    ReturnsInHanded {} Tryz.checked os 3 .any ((OpenSpec.ofChange Rows.storeOrdersSpec).preRow enc Tryz.prog Tryz.f3 Rows.storeOrdersRow.domain false Rows.storeOrdersRow.laid) (((OpenSpec.ofChange Rows.storeOrdersSpec).at F).post enc Tryz.prog Tryz.f3 false true false false):=by
  obtain⟨places,hx⟩:=reads os enc
  refine returnsInHanded_of_row (C:=Tryz.checked) (s:=OpenSpec.ofChange Rows.storeOrdersSpec) own started (by kernel_rfl) Tryz.func3
    (witness_row_atRef (enc:=enc) (C:=Tryz.checked) false (va9 os) #[.slice none 0 0] rfl (by kernel_rfl) (by kernel_rfl) (by kernel_rfl)
      (OpenSpec.preRow_of_cond 8 hx (by kernel_rfl) (λk hk=>by cases hk) (by kernel_rfl) (vab os _))) ?_
  intro W base args ds gs before hval hW _ _ _ hL hsh _
  exact contract H enc W base args ds gs before hval hW hL hsh
end Go.Proofs.YtemjidmkolfgnaaGreatDoor.storeOrders
