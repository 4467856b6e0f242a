/-
  The statement FaceMemory of the layer face: for every input it answers true, and each argument reads as it did. The two package-level variables that it may read (unicode.White_Space, strings.asciiSpace) hold what the program's text lays in them: the card ties that to the text.
-/
import Derived.Test.YtakgjcfkdemipaaGreatDoorZB22
import Derived.Test.YtakgjcfkdemipaaGreatDoorZB34
import Derived.Test.YtakgjcfkdemipaaGreatDoorZM12
import Derived.Deep.SlicePairs
import Derived.Carry
namespace Go.Proofs.YtakgjcfkdemipaaGreatDoor.faceMemory
open Go.ChangeShapes Go.WideShapes Go.ChangeAt Go.RowKit Go.Deep

theorem laidOutP:laidOutB Tryz.prog=true:=by kernel_rfl
theorem faces_of {H:Type} {enc:TypeId×Value→H} {W:World} {a:Option Addr} {n c:Nat} {d:DataW H} {p:List MemPlace} (h:DataW.Trod enc Tryz.prog W 0 (λ_=>true) true 22 (.slice a n c) d p):∃l,bG Any W (.slice a n c) l:=by
  obtain⟨fuel,hf⟩:=h
  exact Ij (show DataW.trod enc Tryz.prog W 0 (λ_=>true) true fuel 22 [.slice a n c]=some (d,p) from hf)
theorem needs_of {H:Type} {enc:TypeId×Value→H} {W:World} {a:Option Addr} {n c:Nat} {d:DataW H} {p:List MemPlace} (h:DataW.Trod enc Tryz.prog W 0 (λ_=>true) true 23 (.slice a n c) d p):∃l,aY Any W (.slice a n c) l:=by
  obtain⟨fuel,hf⟩:=h
  exact z6 (show DataW.trod enc Tryz.prog W 0 (λ_=>true) true fuel 23 [.slice a n c]=some (d,p) from hf)
set_option maxRecDepth 100000 in
theorem contract (H:Type) (enc:TypeId×Value→H) (W:World) (base:Nat) (args:Array Value) (ds gs:List (DataW H)) (before:List MemPlace)
    (hval:∀(j:Nat) t v,Tryz.f10.params[j]? =some t→args[j]? =some v→Value.okWide Tryz.prog W .any base t v)
    (hW:DataW.Whole enc Tryz.prog Tryz.f10.params.toList Rows.faceMemorySpec.vars false W args.toList ds gs before) (hL:laidMetH Tryz.prog Hh W):
    Calls Tryz.prog 10 args W λe W'=>∃v,e=.returned v∧Rows.faceMemorySpec.post enc Tryz.prog Tryz.f10 false true false false W args v W':=by
  have vl8:=hW
  obtain⟨p,q,qc,hV,rfl,hfz,hnd⟩:=hW
  have hA:DataW.TrodAll enc Tryz.prog W 0 (λ_=>true) true Tryz.f10.params.toList args.toList ds p:=qc
  rw[Tryz.params10] at hA hval
  obtain⟨v0,v1,v2,v3,d0,d1,d2,d3,p0,p1,p2,p3,rfl,rfl,rfl,h0,h1,h2,h3⟩:=trodAll_four hA
  obtain⟨rfl,rfl⟩:=trodVars_none hV
  obtain⟨a0,n0,c0,rfl⟩:=okWide_slice Tryz.underlying22 (hval 0 22 v0 rfl rfl)
  obtain⟨x0,X0⟩:=faces_of h0
  obtain⟨a1,n1,c1,rfl⟩:=okWide_slice Tryz.underlying23 (hval 1 23 v1 rfl rfl)
  obtain⟨x1,X1⟩:=needs_of h1
  obtain⟨a2,rfl,rfl,rfl,s2⟩:=Go.ChangeMaps.open_string Tryz.underlying9 (hval 2 9 v2 rfl rfl) h2
  obtain⟨a3,rfl,rfl,rfl,s3⟩:=Go.ChangeMaps.open_string Tryz.underlying9 (hval 3 9 v3 rfl rfl) h3
  have hlt:∀x∈p0++(p1++([]++[])),x.block<W.heap.size:=λx hx=>by simpa using vl8.lt x (by simpa using hx)
  have walk:=vd4 x0 x1 a2.data.toList a3.data.toList _ _ W (HH hL) X0 X1 s2 s3
  refine walk.mono λe W' ⟨he,hb⟩=>?_
  subst he
  refine⟨_,rfl,_,_,_,[],p0++(p1++([]++[])),[],by simpa using vl8,?_,?_,?_,hb.frame _,λh=>by cases h⟩
  · exact trodAll_mk1 (shut_bool Tryz.underlying4 true)
  · exact trodAll_mk4 (Below.trod laidOutP (by kernel_rfl) (of_decide_eq_true (by kernel_rfl)) h0 hb (λx hx=>hlt x (by simp[hx]))) (Below.trod laidOutP (by kernel_rfl) (of_decide_eq_true (by kernel_rfl)) h1 hb (λx hx=>hlt x (by simp[hx]))) (Go.ChangeMaps.shut_string Tryz.underlying9 s2) (Go.ChangeMaps.shut_string Tryz.underlying9 s3)
  · rfl

/-- A world for the witness. -/
theorem reads (os:Os) {H:Type} (enc:TypeId×Value→H):∃places,DataW.whole enc Tryz.prog ((World.doorLaid Tryz.prog 400 os).forCall (λ_ _=>0) ⟨#[],#[.slice none 0 0,.slice none 0 0,.string ⟨#[]⟩,.string ⟨#[]⟩],[]⟩).memory Tryz.f10.params.toList Rows.faceMemorySpec.vars false (#[.slice none 0 0,.slice none 0 0,.string ⟨#[]⟩,.string ⟨#[]⟩]:Array Value).toList 8=some ([.nil,.nil,.lit (.string []),.lit (.string [])],[],places):=
  ⟨[],by kernel_rfl⟩

set_option maxRecDepth 100000 in
theorem lifted (os:Os) (started:os.Started) (H:Type) (enc:TypeId×Value→H) (F:Stop.Interp):
    ReturnsInHanded {} Tryz.checked os 10 .any ((OpenSpec.ofChange Rows.faceMemorySpec).preRow enc Tryz.prog Tryz.f10 Rows.faceMemoryRow.domain false Rows.faceMemoryRow.laid) (((OpenSpec.ofChange Rows.faceMemorySpec).at F).post enc Tryz.prog Tryz.f10 false true false false):=by
  obtain⟨places,hx⟩:=reads os enc
  refine returnsInHanded_of_row (C:=Tryz.checked) (s:=OpenSpec.ofChange Rows.faceMemorySpec) own started (by kernel_rfl) Tryz.func10
    (witness_row_atRef (enc:=enc) (C:=Tryz.checked) false (World.doorLaid Tryz.prog 400 os) #[.slice none 0 0,.slice none 0 0,.string ⟨#[]⟩,.string ⟨#[]⟩] rfl (by kernel_rfl) (by kernel_rfl) (by kernel_rfl)
      (OpenSpec.preRow_of_cond 8 hx (by kernel_rfl) (λk hk=>by cases hk) (by kernel_rfl) (J8 os _))) ?_
  intro W base args ds gs before hval hW _ _ _ hL _ _
  exact contract H enc W base args ds gs before hval hW hL
end Go.Proofs.YtakgjcfkdemipaaGreatDoor.faceMemory
