/-
  The statement FaceExtends of the layer face: for every input it answers true, and each argument reads as it did. The two package-level variables that it may read (unicode.White_Space, strings.asciiSpace) hold what the program's text lays in them: the card ties that to the text.
-/
import Derived.Test.YtakgjcfkdemipaaGreatDoorZB22
import Derived.Test.YtakgjcfkdemipaaGreatDoorZB34
import Derived.Test.YtakgjcfkdemipaaGreatDoorZX6
import Derived.Deep.SlicePairs
import Derived.Carry
namespace Go.Proofs.YtakgjcfkdemipaaGreatDoor.faceExtends
open Go.ChangeShapes Go.WideShapes Go.ChangeAt Go.RowKit Go.Deep

theorem laidOutP:laidOutB Tryz.prog=true:=by kernel_rfl
theorem face_of {H:Type} {enc:TypeId×Value→H} {W:World} {cs:Array Value} {d:DataW H} {p:List MemPlace} (h:DataW.Trod enc Tryz.prog W 0 (λ_=>true) true 58 (.agg cs) d p) (hs:cs.size=Tryz.prog.cellsOf 58):∃f,dO Any W (.agg cs) f:=by
  obtain⟨fuel,hf⟩:=h
  obtain⟨l⟩:=cs
  have h5:l.length=5:=hs.trans (by kernel_rfl)
  match l,h5 with
  | [c0,c1,c2,c3,c4],_=>
    obtain⟨f,e0,e1,e2,hl,hn,ho⟩:=BL (show DataW.trod enc Tryz.prog W 0 (λ_=>true) true fuel 58 [c0,c1,c2,c3,c4]=some (d,p) from hf)
    exact⟨f,c3,c4,by rw[e0,e1,e2],hl,hn,ho⟩
set_option maxRecDepth 100000 in
theorem contract (H:Type) (enc:TypeId×Value→H) (W:World) (base:Nat) (args:Array Value) (ds gs:List (DataW H)) (before:List MemPlace)
    (hval:∀(j:Nat) t v,Tryz.f11.params[j]? =some t→args[j]? =some v→Value.okWide Tryz.prog W .any base t v)
    (hW:DataW.Whole enc Tryz.prog Tryz.f11.params.toList Rows.faceExtendsSpec.vars false W args.toList ds gs before) (hL:laidMetH Tryz.prog Hh W):
    Calls Tryz.prog 11 args W λe W'=>∃v,e=.returned v∧Rows.faceExtendsSpec.post enc Tryz.prog Tryz.f11 false true false false W args v W':=by
  have vdx:=hW
  obtain⟨p,q,qc,hV,rfl,hfz,hnd⟩:=hW
  have hA:DataW.TrodAll enc Tryz.prog W 0 (λ_=>true) true Tryz.f11.params.toList args.toList ds p:=qc
  rw[Tryz.params11] at hA hval
  obtain⟨v0,v1,d0,d1,p0,p1,rfl,rfl,rfl,h0,h1⟩:=trodAll_two hA
  obtain⟨rfl,rfl⟩:=trodVars_none hV
  obtain⟨cs0,rfl,z0⟩:=okWide_struct Tryz.underlying58 (hval 0 58 v0 rfl rfl)
  obtain⟨x0,X0⟩:=face_of h0 z0
  obtain⟨TT,rfl,z1⟩:=okWide_struct Tryz.underlying58 (hval 1 58 v1 rfl rfl)
  obtain⟨x1,X1⟩:=face_of h1 z1
  have hlt:∀x∈p0++p1,x.block<W.heap.size:=λx hx=>by simpa using vdx.lt x (by simpa using hx)
  have walk:=vb4 x0 x1 _ _ W (HH hL) X0 X1
  refine walk.mono λe W' ⟨he,hb⟩=>?_
  subst he
  refine⟨_,rfl,_,_,_,[],p0++p1,[],by simpa using vdx,?_,?_,?_,hb.frame _,λh=>by cases h⟩
  · exact trodAll_mk1 (shut_bool Tryz.underlying4 true)
  · exact trodAll_mk2 (Below.trod laidOutP (by kernel_rfl) (of_decide_eq_true (by kernel_rfl)) h0 hb (λx hx=>hlt x (by simp[hx]))) (Below.trod laidOutP (by kernel_rfl) (of_decide_eq_true (by kernel_rfl)) h1 hb (λx hx=>hlt x (by simp[hx])))
  · rfl

/-- A world for the witness. -/
theorem reads (os:Os) {H:Type} (enc:TypeId×Value→H):∃places,DataW.whole enc Tryz.prog ((World.doorLaid Tryz.prog 400 os).forCall (λ_ _=>0) ⟨#[],#[.agg #[.string ⟨#[]⟩,.int .u8 0,.bool false,.slice none 0 0,.slice none 0 0],.agg #[.string ⟨#[]⟩,.int .u8 0,.bool false,.slice none 0 0,.slice none 0 0]],[]⟩).memory Tryz.f11.params.toList Rows.faceExtendsSpec.vars false (#[.agg #[.string ⟨#[]⟩,.int .u8 0,.bool false,.slice none 0 0,.slice none 0 0],.agg #[.string ⟨#[]⟩,.int .u8 0,.bool false,.slice none 0 0,.slice none 0 0]]:Array Value).toList 8=some ([.agg [.lit (.string []),.lit (.int .u8 0),.lit (.bool false),.nil,.nil],.agg [.lit (.string []),.lit (.int .u8 0),.lit (.bool false),.nil,.nil]],[],places):=
  ⟨[],by kernel_rfl⟩

set_option maxRecDepth 100000 in
theorem lifted (os:Os) (started:os.Started) (H:Type) (enc:TypeId×Value→H) (F:Stop.Interp):
    ReturnsInHanded {} Tryz.checked os 11 .any ((OpenSpec.ofChange Rows.faceExtendsSpec).preRow enc Tryz.prog Tryz.f11 Rows.faceExtendsRow.domain false Rows.faceExtendsRow.laid) (((OpenSpec.ofChange Rows.faceExtendsSpec).at F).post enc Tryz.prog Tryz.f11 false true false false):=by
  obtain⟨places,hx⟩:=reads os enc
  refine returnsInHanded_of_row (C:=Tryz.checked) (s:=OpenSpec.ofChange Rows.faceExtendsSpec) own started (by kernel_rfl) Tryz.func11
    (witness_row_atRef (enc:=enc) (C:=Tryz.checked) false (World.doorLaid Tryz.prog 400 os) #[.agg #[.string ⟨#[]⟩,.int .u8 0,.bool false,.slice none 0 0,.slice none 0 0],.agg #[.string ⟨#[]⟩,.int .u8 0,.bool false,.slice none 0 0,.slice none 0 0]] rfl (by kernel_rfl) (by kernel_rfl) (by kernel_rfl)
      (OpenSpec.preRow_of_cond 8 hx (by kernel_rfl) (λk hk=>by cases hk) (by kernel_rfl) (J8 os _))) ?_
  intro W base args ds gs before hval hW _ _ _ hL _ _
  exact contract H enc W base args ds gs before hval hW hL
end Go.Proofs.YtakgjcfkdemipaaGreatDoor.faceExtends
