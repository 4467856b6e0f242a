/-
  The statement FaceChecks of the layer face: for every input it answers true, and each argument reads as it did. The two package-level variables that it may read (unicode.White_Space, strings.asciiSpace) hold what the program's text lays in them: the card ties that to the text.
-/
import Derived.Test.YtakgjcfkdemipaaGreatDoorZB22
import Derived.Test.YtakgjcfkdemipaaGreatDoorZB34
import Derived.Test.YtakgjcfkdemipaaGreatDoorZC13
import Derived.Deep.SlicePairs
import Derived.Carry
namespace Go.Proofs.YtakgjcfkdemipaaGreatDoor.faceChecks
open Go.ChangeShapes Go.WideShapes Go.ChangeAt Go.RowKit Go.Deep

theorem laidOutP:laidOutB Tryz.prog=true:=by kernel_rfl
theorem faces_of {H:Type} {enc:TypeId×Value→H} {W:World} {a:Option Addr} {n c:Nat} {d:DataW H} {p:List MemPlace} (h:DataW.Trod enc Tryz.prog W 0 (λ_=>true) true 22 (.slice a n c) d p):∃l,bG Any W (.slice a n c) l:=by
  obtain⟨fuel,hf⟩:=h
  exact Ij (show DataW.trod enc Tryz.prog W 0 (λ_=>true) true fuel 22 [.slice a n c]=some (d,p) from hf)
set_option maxRecDepth 100000 in
theorem contract (H:Type) (enc:TypeId×Value→H) (W:World) (base:Nat) (args:Array Value) (ds gs:List (DataW H)) (before:List MemPlace)
    (hval:∀(j:Nat) t v,Tryz.f9.params[j]? =some t→args[j]? =some v→Value.okWide Tryz.prog W .any base t v)
    (hW:DataW.Whole enc Tryz.prog Tryz.f9.params.toList Rows.faceChecksSpec.vars false W args.toList ds gs before) (hL:laidMetH Tryz.prog Hh W):
    Calls Tryz.prog 9 args W λe W'=>∃v,e=.returned v∧Rows.faceChecksSpec.post enc Tryz.prog Tryz.f9 false true false false W args v W':=by
  have vkc:=hW
  obtain⟨p,q,qc,hV,rfl,hfz,hnd⟩:=hW
  have hA:DataW.TrodAll enc Tryz.prog W 0 (λ_=>true) true Tryz.f9.params.toList args.toList ds p:=qc
  rw[Tryz.params9] at hA hval
  obtain⟨v0,v1,d0,d1,p0,p1,rfl,rfl,rfl,h0,h1⟩:=trodAll_two hA
  obtain⟨rfl,rfl⟩:=trodVars_none hV
  obtain⟨a0,n0,c0,rfl⟩:=okWide_slice Tryz.underlying22 (hval 0 22 v0 rfl rfl)
  obtain⟨x0,X0⟩:=faces_of h0
  obtain⟨a1,rfl,rfl,rfl,s1⟩:=Go.ChangeMaps.open_string Tryz.underlying9 (hval 1 9 v1 rfl rfl) h1
  have hlt:∀x∈p0++[],x.block<W.heap.size:=λx hx=>by simpa using vkc.lt x (by simpa using hx)
  have walk:=vck x0 a1.data.toList _ W (HH hL) X0 s1
  refine walk.mono λe W' ⟨he,hb⟩=>?_
  subst he
  refine⟨_,rfl,_,_,_,[],p0++[],[],by simpa using vkc,?_,?_,?_,hb.frame _,λh=>by cases h⟩
  · exact trodAll_mk1 (shut_bool Tryz.underlying4 true)
  · exact trodAll_mk2 (Below.trod laidOutP (by kernel_rfl) (of_decide_eq_true (by kernel_rfl)) h0 hb (λx hx=>hlt x (by simp[hx]))) (Go.ChangeMaps.shut_string Tryz.underlying9 s1)
  · rfl

/-- A world for the witness. -/
theorem reads (os:Os) {H:Type} (enc:TypeId×Value→H):∃places,DataW.whole enc Tryz.prog ((World.doorLaid Tryz.prog 400 os).forCall (λ_ _=>0) ⟨#[],#[.slice none 0 0,.string ⟨#[]⟩],[]⟩).memory Tryz.f9.params.toList Rows.faceChecksSpec.vars false (#[.slice none 0 0,.string ⟨#[]⟩]:Array Value).toList 8=some ([.nil,.lit (.string [])],[],places):=
  ⟨[],by kernel_rfl⟩

set_option maxRecDepth 100000 in
theorem lifted (os:Os) (started:os.Started) (H:Type) (enc:TypeId×Value→H) (F:Stop.Interp):
    ReturnsInHanded {} Tryz.checked os 9 .any ((OpenSpec.ofChange Rows.faceChecksSpec).preRow enc Tryz.prog Tryz.f9 Rows.faceChecksRow.domain false Rows.faceChecksRow.laid) (((OpenSpec.ofChange Rows.faceChecksSpec).at F).post enc Tryz.prog Tryz.f9 false true false false):=by
  obtain⟨places,hx⟩:=reads os enc
  refine returnsInHanded_of_row (C:=Tryz.checked) (s:=OpenSpec.ofChange Rows.faceChecksSpec) own started (by kernel_rfl) Tryz.func9
    (witness_row_atRef (enc:=enc) (C:=Tryz.checked) false (World.doorLaid Tryz.prog 400 os) #[.slice none 0 0,.string ⟨#[]⟩] rfl (by kernel_rfl) (by kernel_rfl) (by kernel_rfl)
      (OpenSpec.preRow_of_cond 8 hx (by kernel_rfl) (λk hk=>by cases hk) (by kernel_rfl) (J8 os _))) ?_
  intro W base args ds gs before hval hW _ _ _ hL _ _
  exact contract H enc W base args ds gs before hval hW hL
end Go.Proofs.YtakgjcfkdemipaaGreatDoor.faceChecks
