/-
  Lemmas for the statement: the cards of the package store: the variables that each row lists; integers that are read. No condition.
-/
import Derived.Lib.LaidU8
import Derived.Test.YtemjidmkolfgnaaGreatDoorSB13
import Derived.Test.YtemjidmkolfgnaaGreatDoorSB42
namespace Go.Proofs.YtemjidmkolfgnaaGreatDoor
open Go.ChangeShapes Go.WideShapes Go.ChangeAt Go.RowKit Go.Deep
def va6:List (String×DataW Unit):=[("unicode/utf8.acceptRanges",Rows.laid_unicode_utf8_acceptRanges),("unicode.White_Space",Rows.laid_unicode_White_Space),("strings.asciiSpace",Rows.laid_strings_asciiSpace),("unicode/utf8.first",Rows.laid_unicode_utf8_first)]
theorem va5 {W:World} (h0:laidMetH Tryz.prog va6 W):gx W:=by
 rw[MakeChecks.laidMetH_plain _ _ _ (by kernel_rfl)] at h0
 obtain⟨ps,⟨_,_,_,_,_,_,_,_,_,_,⟨g0,t0,cs0,f0,p0,q0,vU,Wv,MT,yt,⟨g1,t1,VV,f1,p1,q1,hg1,ht1,yF,Hy,_,_⟩,_⟩,_⟩,_,_⟩:=h0
 obtain rfl:=Option.some.inj (Dv.symm.trans hg1)
 obtain rfl:=Option.some.inj (Dw.symm.trans ht1)
 rw[Gt] at Hy
 unfold gx Lib.TabIs
 rw[yF,←Lib.cells_of_tab Tryz.underlying275 Tryz.underlying5 FJ Di Hy]
theorem va3 {W:World} (h:W.ShapedOpen Tryz.prog):fe W:=
 cell_of_shapedOpen_int (P:=Tryz.prog) (g:=0) (t:=3) (zero:= #[.int .i64 0]) h (of_decide_eq_true (by kernel_rfl)) (by kernel_rfl) rfl (by kernel_rfl) (by kernel_rfl) Tryz.underlying3
noncomputable def va9 (os:Os):World:=
 let N:=(World.settled Tryz.prog os).heap.size
 let w0:=World.holding Tryz.prog os ⟨#[.cells (Lib.whiteT.map λ(z:Nat)=>Value.int .u16 (z:Int)).toArray 304,.cells #[.slice (some ⟨N,0,none⟩) 7 7,.slice none 0 0,.int .i64 2] 301],#[],[]⟩
 let put (h:Array Obj) (g:Nat) (cs:Array Value):Array Obj:=h.modify g λ
  | .cells _ t frozen=>.cells cs t frozen
  | o=>o
 let h1:=put w0.heap 1 (Lib.asciiSpaceTab.map λz=>Value.int .u8 z).toArray
 let h2:=put h1 3 (Lib.firstTab.map λz=>Value.int .u8 z).toArray
 let h3:=put h2 4 ((List.range 16).flatMap λi=>[Value.int .u8 (Lib.accLo i),Value.int .u8 (Lib.accHi i)]).toArray
 let h4:=put h3 2 #[.pointer (some ⟨N+1,0,none⟩)]
 {w0 with heap:=h4 }
theorem vab (os:Os) (args:Array Value):laidMet Tryz.prog va6 ((va9 os).forCall (λ_ _=>0) ⟨#[],args,[]⟩).memory:=
 laidMet_of_run' 8 (by kernel_rfl) (by kernel_rfl)
theorem vad:laidOutB Tryz.prog=true:=by kernel_rfl
theorem vae {n:Int} (h:(Lit.int .i64 n).wf=true): -9223372036854775808≤n∧n≤9223372036854775807:=by
 unfold Lit.wf at h
 rw[Bool.and_eq_true,decide_eq_true_eq,decide_eq_true_eq] at h
 have e1:IntKind.i64.min= -9223372036854775808:=by decide
 have e2:IntKind.i64.max=9223372036854775807:=by decide
 rw[e1,e2] at h
 exact h
theorem va8 {n:Int} (h:(Lit.int .u8 n).wf=true):0≤n∧n≤255:=by
 unfold Lit.wf at h
 rw[Bool.and_eq_true,decide_eq_true_eq,decide_eq_true_eq] at h
 have e1:IntKind.u8.min=0:=by decide
 have e2:IntKind.u8.max=255:=by decide
 rw[e1,e2] at h
 exact h
section
variable {H:Type} {enc:TypeId×Value→H} {W:World}
theorem va4 {α:Type} [Inhabited α] (mk:α→Value) {t e:TypeId} {fuel:Nat} {v:Value} {x:DataW H×List MemPlace} (ht:Tryz.prog.underlying t=some (.slice e)) (hc1:Tryz.prog.cellsOf e=1)
 (hE:∀n c0 y,DataW.trod enc Tryz.prog W 0 (λ_=>true) true n e [c0]=some y→∃o,c0=mk o)
 (h:DataW.trod enc Tryz.prog W 0 (λ_=>true) true fuel t [v]=some x):∃l:List α,CV (λb=>b<W.heap.size) W v (l.map mk):=by
 rcases open_slice ht h with⟨e,_⟩|⟨a,len,cap,m,n,D,Pl,e,hb,hl,hm,hmm,_,hx⟩
 · simp only[List.cons.injEq,and_true] at e
   subst e;exact⟨[],CV.nil _ _ _ _⟩
 · simp only[List.cons.injEq,and_true] at e
   subst e
   by_cases h0:len=0
   · subst h0
     exact⟨[],CV.nil _ _ _ _⟩
   · have vaf:m=cap:=by rw[hmm];simp
     have each:∀i,i<len→∃o:α,W.cell? (a.add i)=some (mk o):=by
      intro i hi;obtain⟨cs',h1,h2⟩:=hx i (by omega);rw[hc1,Nat.mul_one] at h1;obtain⟨_,hlen,hcell⟩:=World.cells?_some h1
      match cs',hlen with
      | [c0],_=>
       obtain⟨o,rfl⟩:=hE _ _ _ h2;have:=hcell 0 (by omega);rw[add_add] at this;exact⟨o,by simpa using this⟩
     obtain⟨f,hf⟩:=choose_lt each;obtain⟨blk,off,spot⟩:=a;have hsp:spot=none:=by
      have:=hf 0 (by omega)
      simpa[Addr.add] using World.cell?_spot this
     subst hsp;have hcell:∀i,i<len→W.cell? ⟨blk,off+i,none⟩=some (mk (f i)):=λi hi=>by
      have:=hf i hi
      rwa [Go.WideShapes.add_plain] at this
     have hlt:blk<W.heap.size:=by
      have:=World.block_lt_of_cell? _ _ (hcell 0 (by omega))
      simpa using this
     refine⟨(List.range len).map f,some ⟨blk,off,none⟩,cap,by simp,by simpa using hl,by simp;omega,.inr ⟨blk,off,rfl,hlt,hlt,λj u hj=>?_⟩⟩;rw[List.map_map,List.getElem?_map] at hj;obtain⟨i,hi,rfl⟩:=Option.map_eq_some_iff.1 hj;obtain⟨hi2,rfl⟩:=List.getElem?_eq_some_iff.1 hi;rw[List.length_range] at hi2;rw[List.getElem_range];exact hcell j hi2
theorem va7 {fuel:Nat} {v:Value} {x:DataW H×List MemPlace} (h:DataW.trod enc Tryz.prog W 0 (λ_=>true) true fuel 38 [v]=some x):∃l:List UInt8,CV (λb=>b<W.heap.size) W v (aH l):=
 va4 (λb:UInt8=>.int .u8 (b.toNat:Int)) Tryz.underlying38 va1 (λn c0 y h=>by
  obtain⟨k,e,_,hw⟩:=DataW.trod_int Tryz.underlying5 h;simp only[List.cons.injEq,and_true] at e;subst e;obtain⟨h0,h1⟩:=va8 hw;refine⟨UInt8.ofNat k.toNat,?_⟩;rw[UInt8.toNat_ofNat']
  congr 1
  omega) h
theorem vaa:Tryz.prog.cellsOf 3=1:=by kernel_rfl
end
end Go.Proofs.YtemjidmkolfgnaaGreatDoor
