/-
  The statement StoreNil of the package store: for every input it answers true, and each argument reads as it did. The four package-level variables that its row lists (unicode/utf8.acceptRanges, unicode.White_Space, strings.asciiSpace, unicode/utf8.first) hold what the program's text lays in them: the card ties that to the text.
-/
import Derived.Test.YtemjidmkolfgnaaGreatDoorSA15
import Derived.Test.YtemjidmkolfgnaaGreatDoorSA42
import Derived.Shelf.Vars
import Derived.Lib.LaidU8
import Derived.Deep.SlicePairs
import Derived.Carry
namespace Go.Proofs.YtemjidmkolfgnaaGreatDoor.storeNil
open Go.ChangeShapes Go.WideShapes Go.ChangeAt Go.RowKit Go.Deep

/-- The four variables of every row of the package store. -/
def laid4:List (String×DataW Unit):=[("unicode/utf8.acceptRanges",Rows.laid_unicode_utf8_acceptRanges),("unicode.White_Space",Rows.laid_unicode_White_Space),("strings.asciiSpace",Rows.laid_strings_asciiSpace),("unicode/utf8.first",Rows.laid_unicode_utf8_first)]
theorem tab_of_laid4 {W:World} (h0:laidMetH Tryz.prog laid4 W):gx W:=by
  rw[MakeChecks.laidMetH_plain _ _ _ (by kernel_rfl)] at h0
  obtain⟨ps,⟨_,_,_,_,_,_,_,_,_,_,⟨g0,t0,cs0,f0,p0,q0,vU,Wv,MT,yt,⟨g1,t1,VV,f1,p1,q1,hg1,ht1,yF,Hy,_,_⟩,_⟩,_⟩,_,_⟩:=h0
  obtain rfl:=Option.some.inj (Dv.symm.trans hg1)
  obtain rfl:=Option.some.inj (Dw.symm.trans ht1)
  rw[Gt] at Hy
  unfold gx Lib.TabIs
  rw[yF,←Lib.cells_of_tab Tryz.underlying275 Tryz.underlying5 FJ Di Hy]
theorem maxi_of_shape {W:World} (h:W.ShapedOpen Tryz.prog):fe W:=
  cell_of_shapedOpen_int (P:=Tryz.prog) (g:=0) (t:=3) (zero:= #[.int .i64 0]) h (of_decide_eq_true (by kernel_rfl)) (by kernel_rfl) rfl (by kernel_rfl) (by kernel_rfl) Tryz.underlying3
/-- A world for the witness: the four variables hold what their initialisers lay. -/
noncomputable def world4 (os:Os):World:=
  let N:=(World.settled Tryz.prog os).heap.size
  let w0:=World.holding Tryz.prog os ⟨#[.cells (Lib.whiteT.map λ(z:Nat)=>Value.int .u16 (z:Int)).toArray 304,.cells #[.slice (some ⟨N,0,none⟩) 7 7,.slice none 0 0,.int .i64 2] 301],#[],[]⟩
  let put (h:Array Obj) (g:Nat) (cs:Array Value):Array Obj:=h.modify g λ
    | .cells _ t frozen=>.cells cs t frozen
    | o=>o
  let h1:=put w0.heap 1 (Lib.asciiSpaceTab.map λz=>Value.int .u8 z).toArray
  let h2:=put h1 3 (Lib.firstTab.map λz=>Value.int .u8 z).toArray
  let h3:=put h2 4 ((List.range 16).flatMap λi=>[Value.int .u8 (Lib.accLo i),Value.int .u8 (Lib.accHi i)]).toArray
  let h4:=put h3 2 #[.pointer (some ⟨N+1,0,none⟩)]
  {w0 with heap:=h4 }
theorem door_met4 (os:Os) (args:Array Value):laidMet Tryz.prog laid4 ((world4 os).forCall (λ_ _=>0) ⟨#[],args,[]⟩).memory:=
  laidMet_of_run' 8 (by kernel_rfl) (by kernel_rfl)
theorem laidOutP:laidOutB Tryz.prog=true:=by kernel_rfl
set_option maxRecDepth 100000 in
theorem contract (H:Type) (enc:TypeId×Value→H) (W:World) (base:Nat) (args:Array Value) (ds gs:List (DataW H)) (before:List MemPlace)
    (hval:∀(j:Nat) t v,Tryz.f9.params[j]? =some t→args[j]? =some v→Value.okWide Tryz.prog W .any base t v)
    (hW:DataW.Whole enc Tryz.prog Tryz.f9.params.toList Rows.storeNilSpec.vars false W args.toList ds gs before) (hL:laidMetH Tryz.prog laid4 W) (hsh:W.ShapedOpen Tryz.prog):
    Calls Tryz.prog 9 args W λe W'=>∃v,e=.returned v∧Rows.storeNilSpec.post enc Tryz.prog Tryz.f9 false true false false W args v W':=by
  have Uk:=hW
  obtain⟨p,q,A6,hV,rfl,hfz,hnd⟩:=hW
  have hA:DataW.TrodAll enc Tryz.prog W 0 (λ_=>true) true Tryz.f9.params.toList args.toList ds p:=A6
  rw[Tryz.params9] at hA hval
  obtain⟨v0,v1,d0,d1,p0,p1,rfl,rfl,rfl,h0,h1⟩:=trodAll_two hA
  obtain⟨rfl,rfl⟩:=trodVars_none hV
  obtain⟨a0,rfl,rfl,rfl,s0⟩:=open_int Tryz.underlying3 (hval 0 3 v0 rfl rfl) h0
  obtain⟨a1,rfl,rfl,rfl,s1⟩:=Go.ChangeMaps.open_string Tryz.underlying9 (hval 1 9 v1 rfl rfl) h1
  have ht:=tab_of_laid4 hL
  have walk:=uV a0 a1.data.toList W ht (maxi_of_shape hsh) (Nat.lt_of_le_of_lt (Nat.zero_le _) ht.lt)
  refine walk.mono λe W' ⟨he,hb⟩=>?_
  subst he
  refine⟨_,rfl,_,_,_,[],[]++[],[],by simpa using Uk,?_,?_,?_,hb.frame _,λh=>by cases h⟩
  · exact trodAll_mk1 (shut_bool Tryz.underlying4 true)
  · exact trodAll_mk2 (shut_int Tryz.underlying3 s0) (Go.ChangeMaps.shut_string Tryz.underlying9 s1)
  · rfl

/-- A world for the witness. -/
theorem reads (os:Os) {H:Type} (enc:TypeId×Value→H):∃places,DataW.whole enc Tryz.prog ((world4 os).forCall (λ_ _=>0) ⟨#[],#[.int .i64 0,.string ⟨#[]⟩],[]⟩).memory Tryz.f9.params.toList Rows.storeNilSpec.vars false (#[.int .i64 0,.string ⟨#[]⟩]:Array Value).toList 8=some ([.lit (.int .i64 0),.lit (.string [])],[],places):=
  ⟨[],by kernel_rfl⟩

set_option maxRecDepth 100000 in
theorem lifted (os:Os) (started:os.Started) (H:Type) (enc:TypeId×Value→H) (F:Stop.Interp):
    ReturnsInHanded {} Tryz.checked os 9 .any ((OpenSpec.ofChange Rows.storeNilSpec).preRow enc Tryz.prog Tryz.f9 Rows.storeNilRow.domain false Rows.storeNilRow.laid) (((OpenSpec.ofChange Rows.storeNilSpec).at F).post enc Tryz.prog Tryz.f9 false true false false):=by
  obtain⟨places,hx⟩:=reads os enc
  refine returnsInHanded_of_row (C:=Tryz.checked) (s:=OpenSpec.ofChange Rows.storeNilSpec) own started (by kernel_rfl) Tryz.func9
    (witness_row_atRef (enc:=enc) (C:=Tryz.checked) false (world4 os) #[.int .i64 0,.string ⟨#[]⟩] rfl (by kernel_rfl) (by kernel_rfl) (by kernel_rfl)
      (OpenSpec.preRow_of_cond 8 hx (by kernel_rfl) (λk hk=>by cases hk) (by kernel_rfl) (door_met4 os _))) ?_
  intro W base args ds gs before hval hW _ _ _ hL hsh _
  exact contract H enc W base args ds gs before hval hW hL hsh
end Go.Proofs.YtemjidmkolfgnaaGreatDoor.storeNil
