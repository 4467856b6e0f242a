/-
  Lemmas for the statement: contract of the law: StoreNil. Conditions: bounds of lengths; the variable strings.asciiSpace.
-/
import Derived.Test.YtemjidmkolfgnaaGreatDoorSAn
import Derived.Test.YtemjidmkolfgnaaGreatDoorSA41
set_option maxHeartbeats 25600000
namespace Go.Proofs.YtemjidmkolfgnaaGreatDoor
open Go Go.RowKit
theorem Bt (w:World):Calls Tryz.prog 48 #[.int .i64 3] w λe w'=>e=.returned (.bool false)∧w'=w:=by
 go_enter Tryz.func48,Tryz.ntmps48
 go_wp2_with fail
 go_ret
 exact⟨rfl,rfl⟩
set_option maxRecDepth 8000 in
theorem uk {n b c:Nat} (w:World) (hn:n≤1000) (h:∀j,j<n→w.cell? ⟨b,0+j,none⟩=some (.int .i64 3)):
 Calls Tryz.prog 91 #[.slice (some ⟨b,0,none⟩) n c,.func (.func 48) #[] #[]] w λe w'=>e=.returned (.int .i64 (-1))∧w'=w:=by
 go_enter Tryz.func91,Tryz.ntmps91
 go_wp2_with fail
 go_loopw [8] (λa wx=>∃i:Nat,i≤n∧a=.int .i64 i∧wx=w) (λa _=>n - (intOf a).toNat)
 case atStart=>exact⟨0,Nat.zero_le _,by go_num,rfl⟩
 case round=>
  obtain⟨i,hi,rfl,rfl⟩:=hrel
  by_cases hlt:i<n
  case neg=>
   obtain rfl:i=n:=by omega
   go_wp2_with fail;go_ret;exact⟨rfl,rfl⟩
  case pos=>
   have hc:=h i hlt;rw[Nat.zero_add] at hc;have HB:=Bt wr;have h63:(i:Int)+1≤9223372036854775807:=by omega
   go_wp2_with (go_at_call 48;refine HB.mono ?_;clear HB;rintro e w1 ⟨rfl,rfl⟩);exact⟨⟨i+1,hlt,by go_num,trivial⟩,by simp only[intOf];omega⟩
theorem oM {n b c:Nat} (w:World) (hn:n≤1000) (h:∀j,j<n→w.cell? ⟨b,0+j,none⟩=some (.int .i64 3)):
 Calls Tryz.prog 47 #[.slice (some ⟨b,0,none⟩) n c,.func (.func 48) #[] #[]] w λe w'=>e=.returned (.bool false)∧w'=w:=by
 have HI:=uk (c:=c) w hn h
 go_enter Tryz.func47,Tryz.ntmps47
 go_wp2_with (go_at_call 91;refine HI.mono ?_;clear HI;rintro e w1 ⟨rfl,rfl⟩)
 go_ret
 exact⟨rfl,rfl⟩
theorem uG (i:Int) (w:World):Calls Tryz.prog 81 #[.pointer none,.int .i64 i] w λe w'=>e=.returned (.int .i64 3)∧w'=w:=by
 go_enter Tryz.func81,Tryz.ntmps81
 go_wp2_with fail
 go_ret
 exact⟨rfl,rfl⟩
theorem EE (i:Int) (w:World):Calls Tryz.prog 42 #[.pointer none,.int .i64 i] w λe w'=>e=.returned (.tuple #[.slice none 0 0,.int .i64 3])∧w'=w:=by
 go_enter Tryz.func42,Tryz.ntmps42
 go_wp2_with (go_at_call 81;refine(uG i _).mono ?_;rintro e w1 ⟨rfl,rfl⟩)
 go_ret2
 exact⟨rfl,rfl⟩
theorem BO (i:Int) (p:Option Addr) (n c:Nat) (w:World):Calls Tryz.prog 43 #[.pointer none,.int .i64 i,.slice p n c] w λe w'=>e=.returned (.int .i64 3)∧w'=w:=by
 go_enter Tryz.func43,Tryz.ntmps43
 go_wp2_with (go_at_call 81;refine(uG i _).mono ?_;rintro e w1 ⟨rfl,rfl⟩)
 go_ret
 exact⟨rfl,rfl⟩
theorem BK (w:World):Calls Tryz.prog 44 #[.pointer none] w λe w'=>e=.returned (.int .i64 3)∧w'=w:=by
 go_enter Tryz.func44,Tryz.ntmps44
 go_wp2_with (go_at_call 81;refine(uG 0 _).mono ?_;rintro e w1 ⟨rfl,rfl⟩)
 go_ret
 exact⟨rfl,rfl⟩
theorem EF (i:Int) (w:World):Calls Tryz.prog 37 #[.pointer none,.int .i64 i] w λe w'=>e=.returned (.int .i64 3)∧w'=w:=by
 go_enter Tryz.func37,Tryz.ntmps37
 go_wp2_with (go_at_call 81;refine(uG 0 _).mono ?_;rintro e w1 ⟨rfl,rfl⟩)
 go_ret
 exact⟨rfl,rfl⟩
theorem BJ (w:World):Calls Tryz.prog 38 #[.pointer none,.slice none 0 0] w λe w'=>e=.returned (.tuple #[])∧w'=w:=by
 go_enter Tryz.func38,Tryz.ntmps38
 go_wp2_with fail
 refine bodyPost_ret (results_none rfl _ _ _) rfl ?_
 exact⟨rfl,rfl⟩
theorem EB (w:World):Calls Tryz.prog 40 #[.pointer none] w λe w'=>e=.returned (.bool true)∧w'=w:=by
 go_enter Tryz.func40,Tryz.ntmps40
 go_wp2_with fail
 go_ret
 exact⟨rfl,rfl⟩
theorem EC (s:List UInt8) (w:World):Calls Tryz.prog 28 #[.pointer none,str s] w λe w'=>e=.returned (.int .i64 3)∧w'=w:=by
 go_enter Tryz.func28,Tryz.ntmps28
 go_wp2_with fail
 go_ret
 exact⟨rfl,rfl⟩
theorem GH (s:List UInt8) (w:World):Calls Tryz.prog 46 #[.pointer none,str s] w λe w'=>e=.returned (.tuple #[str [],.int .i64 3])∧w'=w:=by
 go_enter Tryz.func46,Tryz.ntmps46
 go_wp2_with fail
 go_ret2
 exact⟨rfl,rfl⟩
theorem ED (w:World):Calls Tryz.prog 35 #[.pointer none] w λe w'=>e=.returned (.tuple #[.pointer none,.int .i64 3])∧w'=w:=by
 go_enter Tryz.func35,Tryz.ntmps35
 go_wp2_with fail
 go_ret2
 exact⟨rfl,rfl⟩
theorem BL (w:World):Calls Tryz.prog 16 #[.pointer none] w λe w'=>e=.returned (.slice none 0 0)∧w'=w:=by
 go_enter Tryz.func16,Tryz.ntmps16
 go_wp2_with fail
 go_ret
 exact⟨rfl,rfl⟩
theorem BN (w:World):Calls Tryz.prog 24 #[.pointer none] w λe w'=>e=.returned (.slice none 0 0)∧w'=w:=by
 go_enter Tryz.func24,Tryz.ntmps24
 go_wp2_with fail
 go_ret
 exact⟨rfl,rfl⟩
theorem xb (w:World):Calls Tryz.prog 15 #[.pointer none] w λe w'=>e=.returned (.slice none 0 0)∧w'=w:=by
 go_enter Tryz.func15,Tryz.ntmps15
 go_wp2_with fail
 go_ret
 exact⟨rfl,rfl⟩
theorem BM (w:World):Calls Tryz.prog 14 #[.pointer none] w λe w'=>e=.returned (.slice none 0 0)∧w'=w:=by
 go_enter Tryz.func14,Tryz.ntmps14
 go_wp2_with fail
 go_ret
 exact⟨rfl,rfl⟩
theorem GG (a b c:List UInt8) (w:World):Calls Tryz.prog 21 #[.pointer none,str a,str b,str c,.slice none 0 0] w λe w'=>e=.returned (.tuple #[.int .i64 0,.int .i64 3])∧Below w.heap.size w w':=by
 obtain⟨W5,rC,oo,_,g0,_⟩:=mC w (.cells #[.pointer none] 26) (.cells #[str a] 9) (.cells #[str b] 9) (.cells #[str c] 9) (.cells #[.slice none 0 0] 31)
 have c0:=(af g0 0).trans rfl
 go_enter Tryz.func21,Tryz.ntmps21
 go_wp2_with fail
 go_ret2
 exact⟨rfl,oo⟩
theorem BI (a:List UInt8) (i:Int) (w:World):Calls Tryz.prog 45 #[.pointer none,str a,.int .i64 i,.slice none 0 0,.slice none 0 0] w λe w'=>e=.returned (.int .i64 3)∧Below w.heap.size w w':=by
 obtain⟨W5,rC,oo,_,g0,_⟩:=mC w (.cells #[.pointer none] 26) (.cells #[str a] 9) (.cells #[.int .i64 i] 3) (.cells #[.slice none 0 0] 38) (.cells #[.slice none 0 0] 39)
 have c0:=(af g0 0).trans rfl
 go_enter Tryz.func45,Tryz.ntmps45
 go_wp2_with fail
 go_ret
 exact⟨rfl,oo⟩
set_option maxRecDepth 8000 in
theorem EG (a:List UInt8) (w:World):Calls Tryz.prog 27 #[.pointer none,str a] w λe w'=>e=.returned (.tuple #[xG,.int .i64 3])∧Below w.heap.size w w':=by
 have hA:=(zb w).alloc zr (.cells #[str [],.int .i64 0,str [],str [],.slice none 0 0,.bool false,.slice none 0 0,.slice none 0 0] 41)
 have hh:=heap_alloc_new w (.cells #[str [],.int .i64 0,str [],str [],.slice none 0 0,.bool false,.slice none 0 0,.slice none 0 0] 41)
 go_enter Tryz.func27,Tryz.ntmps27
 go_wp2_with fail
 have h1:=run_loadVar_row (P:=Tryz.prog) _ w.heap.size 41 41 _ (0,0) _ hh Tryz.underlying41 rfl (by kernel_rfl)
 refine bodyPost_ret (v:=.tuple #[xG,.int .i64 3]) ((results_cell_tmp (fn:=Tryz.f27) (p:=4) (u:=5) (ty:=41) rfl _ _ _).trans ?_) rfl ⟨rfl,hA⟩
 show((loadVar 41 ⟨w.heap.size,0,none⟩).run Tryz.prog _).andThen _=_
 rw[h1]
 rfl
theorem tQ {a b c:World} (h:Below a.heap.size a b) (k:Below b.heap.size b c):Below a.heap.size a c:=h.trans (k.mono h.size)
def qR:Obj:=.cells #[.string ⟨#[]⟩,.int .i64 0,.string ⟨#[]⟩,.string ⟨#[]⟩,.slice none 0 0,.bool false,.slice none 0 0,.slice none 0 0] 41
def si:Obj:=.cells #[.int .i64 3,.int .i64 3,.int .i64 3,.int .i64 3,.int .i64 3,.int .i64 3,.int .i64 3,.int .i64 3,.int .i64 3,.int .i64 3] 49
theorem Ce (w:World):((w.alloc qR).alloc si).cell? ⟨w.heap.size,0,none⟩=some (.string ⟨#[]⟩):=by
 have hg:=(Below.heap_alloc (w.alloc qR) si w.heap.size (by simp)).trans (heap_alloc_new w qR)
 unfold qR at hg ⊢
 exact(af hg _).trans rfl
theorem yf (w:World) (j:Nat) (hj:j<10):((w.alloc qR).alloc si).cell? ⟨w.heap.size+1,0+j,none⟩=some (.int .i64 3):=by
 have hg:=heap_alloc2_new w qR si
 rw[Nat.zero_add]
 unfold si at hg ⊢
 have:j=0∨j=1∨j=2∨j=3∨j=4∨j=5∨j=6∨j=7∨j=8∨j=9:=by omega
 rcases this with rfl|rfl|rfl|rfl|rfl|rfl|rfl|rfl|rfl|rfl<;>exact(af hg _).trans rfl
set_option maxRecDepth 20000 in
theorem uV (JZ:Int) (text:List UInt8) (w:World) (ht:gx w) (hm:fe w) (hp:0<w.heap.size):
 Calls Tryz.prog 9 #[.int .i64 JZ,str text] w λe w'=>e=.returned (.bool true)∧Below w.heap.size w w':=by
 by_cases h:text.length≤300
 case neg=>
  have hq:300<(text.length:Int):=by omega
  have HK:=s6 w ht hm hp;clear h;go_enter Tryz.func9,Tryz.ntmps9;go_wp2_with (go_at_call 12;refine HK.mono ?_;clear HK;rintro e w1 ⟨rfl,hb⟩);go_ret;exact⟨rfl,hb⟩
 case pos=>
  have hq:¬300<(text.length:Int):=by omega
  have hcv:=λ(w:World) (b:ByteArray)=>run_bytes_of_string (P:=Tryz.prog) w 9 38 5 b Tryz.underlying9 Tryz.underlying38 Tryz.underlying5
  go_enter Tryz.func9,Tryz.ntmps9;go_wp2_with (first
   | (go_at_call 12;have Bn:=tQ (tQ hp1 hbb) Uu;have hW:=(Bn.alloc Bn.size qR).alloc (by simp;exact Nat.le_succ_of_le Bn.size) si;have hC:=yf wu;refine(s6 _ (ht.below hW zr) (hm.below hW) (Nat.lt_of_lt_of_le hp hW.size)).mono ?_;rintro e w9 ⟨rfl,kM⟩;have hN:=(kM.cell (p:=⟨wu.heap.size,0,none⟩) (by simp;omega)).trans (Ce wu);have HC:=oM (n:=10) (c:=10) w9 (by decide) (λj hj=>(kM.cell (p:=⟨wu.heap.size+1,0+j,none⟩) (by simp)).trans (hC j hj)))
   | (go_at_call 47;refine HC.mono ?_;clear HC;rintro e w1 ⟨rfl,he⟩;rw[he];clear he w1)
   | (go_at_call 14;refine(BM _).mono ?_;rintro e w1 ⟨rfl,he⟩;rw[he];clear he w1)
   | (go_at_call 15;refine(xb _).mono ?_;rintro e w1 ⟨rfl,he⟩;rw[he];clear he w1)
   | (go_at_call 24;refine(BN _).mono ?_;rintro e w1 ⟨rfl,he⟩;rw[he];clear he w1)
   | (go_at_call 16;refine(BL _).mono ?_;rintro e w1 ⟨rfl,he⟩;rw[he];clear he w1)
   | (go_at_call 40;refine(EB _).mono ?_;rintro e w1 ⟨rfl,he⟩;rw[he];clear he w1)
   | (go_at_call 35;refine(ED _).mono ?_;rintro e w1 ⟨rfl,he⟩;rw[he];clear he w1)
   | (go_at_call 46;refine(GH _ _).mono ?_;rintro e w1 ⟨rfl,he⟩;rw[he];clear he w1)
   | (go_at_call 27;refine(EG _ _).mono ?_;rintro e wu ⟨rfl,Uu⟩)
   | (go_at_call 45;refine(BI _ _ _).mono ?_;rintro e wb ⟨rfl,hbb⟩)
   | (go_at_call 28;refine(EC _ _).mono ?_;rintro e w1 ⟨rfl,he⟩;rw[he];clear he w1)
   | (go_at_call 21;refine(GG _ _ _ _).mono ?_;rintro e wp ⟨rfl,Ut⟩;have hp1:=tQ (((zb w).alloc zr _).drew) Ut)
   | (go_at_call 38;refine(BJ _).mono ?_;rintro e w1 ⟨rfl,he⟩;rw[he];clear he w1)
   | (go_at_call 37;refine(EF _ _).mono ?_;rintro e w1 ⟨rfl,he⟩;rw[he];clear he w1)
   | (go_at_call 44;refine(BK _).mono ?_;rintro e w1 ⟨rfl,he⟩;rw[he];clear he w1)
   | (go_at_call 43;refine(BO _ _ _ _ _).mono ?_;rintro e w1 ⟨rfl,he⟩;rw[he];clear he w1)
   | (go_at_call 42;refine(EE _ _).mono ?_;rintro e w1 ⟨rfl,he⟩;rw[he];clear he w1))
  go_ret;exact⟨rfl,hW.trans (kM.mono hW.size)⟩
end Go.Proofs.YtemjidmkolfgnaaGreatDoor
