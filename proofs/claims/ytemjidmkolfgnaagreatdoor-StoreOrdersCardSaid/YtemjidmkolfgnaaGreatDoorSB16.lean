/-
  Lemmas for the statement: what the words are is not said: only that there are as many. Conditions: bounds of lengths; the variable strings.asciiSpace.
-/
import Derived.Deep.CutRange
import Derived.Test.YtemjidmkolfgnaaGreatDoorSB4
import Derived.Test.YtemjidmkolfgnaaGreatDoorSB14
namespace Go.Proofs.YtemjidmkolfgnaaGreatDoor
section
open Go.RowKit
theorem dg:Tryz.prog.underlying 31=some (.slice 9):=by kernel_rfl
theorem ag {w w':World} {b:Nat} {o:Obj} (h:w.heap[b]? =some o) (hb:Below w.heap.size w w'):w'.heap[b]? =some o:=fB h hb (aj h)
theorem size_set (w:World) (a:Addr) (u:Value):(w.setCell a u).heap.size=w.heap.size:=by simp[World.setCell]
end
open Go Go.RowKit
theorem J3 (k yk:IntKind) (x y:Int) (h:0≤y):∃z,Op.shift .shl k x yk y=pure (.int k z):=by
 unfold Op.shift
 rw[if_neg (by omega)]
 exact⟨_,rfl⟩
theorem zw (k yk:IntKind) (x y:Int) (h:0≤y):∃z,Op.shift .shr k x yk y=pure (.int k z):=by
 unfold Op.shift
 rw[if_neg (by omega)]
 exact⟨_,rfl⟩
theorem K2 (k:Int):∃m:Nat,bits .and .u64 (IntKind.u64.wrap k) 31=(m:Int)∧m≤31:=by
 have hw:=IntKind.wrap_u64 k
 generalize IntKind.u64.wrap k=z at *
 obtain⟨n,hn⟩:∃n:Nat,z=(n:Int):=⟨z.toNat,by omega⟩
 subst hn
 refine⟨n&&& 31,bits_and_u64_nat n 31 (by omega) (by omega),Nat.and_le_right⟩
theorem GP (x k:Int) (w:World):Calls Tryz.prog 181 #[.int .u32 x,.int .i64 k] w λe w'=>(∃y,e=.returned (.int .u32 y))∧w'=w:=by
 obtain⟨m,hm,CH⟩:=K2 k
 have g1:(0:Int)≤32 - (m:Int):=by omega
 have g2:(32:Int) - (m:Int)≤18446744073709551615:=by omega
 obtain⟨z1,hz1⟩:=J3 .u32 .u64 x m (by omega)
 obtain⟨z2,hz2⟩:=zw .u32 .u64 x (32 - m) (by omega)
 have g3:IntKind.u64.wrap (32 - (m:Int))=32 - m:=by rw[IntKind.wrap_u64];omega
 go_enter Tryz.func181,Tryz.ntmps181
 go_upto_region 1 with fail
 go_upto_region 2 with fail
 go_wp2_with fail
 go_ret
 exact⟨⟨_,rfl⟩,rfl⟩
theorem tu {D:Nat→Prop} {cs:List Value} (x:Int) (v:Value) (w:World) (hv:CV D w v cs) (hi:bF .i64 cs) (hn:cs.length≤1000):Calls Tryz.prog 150 #[.int .u32 x,v] w λe w'=>(∃y,e=.returned (.int .u32 y))∧w'=w:=by
 obtain⟨p,c,rfl,_,_⟩:=hv.shape
 have HR:=λk=>GP x k w
 generalize hL:cs.length=L at *
 go_enter Tryz.func150,Tryz.ntmps150
 go_upto_region 3 with fail
 go_loopw [5,10] (λu y wx=>∃k:Nat,k≤L∧y=.int .i64 k∧(∃z,u=.int .u32 z)∧wx=w) (λ_ y _=>L - (intOf y).toNat)
 case atStart=>exact⟨0,Nat.zero_le _,by go_num,⟨_,rfl⟩,rfl⟩
 case round=>
  obtain⟨k,hk,rfl,⟨z,rfl⟩,rfl⟩:=hrel
  by_cases hlt:k<L
  case neg=>
   obtain rfl:k=L:=by omega
   go_wp2_with fail;go_ret;exact⟨⟨_,rfl⟩,rfl⟩
  case pos=>
   obtain⟨u,hu⟩:=hi.get (j:=k) (by omega);obtain⟨b,o,rfl,_,hc⟩:=hv.at hu;have sA:(k:Int)<(L:Int):=by omega
   have hk1:(k:Int)+1≤9223372036854775807:=by omega
   go_wp2_with (go_at_call 181;refine(HR _).mono ?_;rintro e w1 ⟨⟨y1,rfl⟩,rfl⟩);exact⟨⟨k+1,hlt,by go_num,⟨_,rfl⟩,by trivial⟩,by simp only[intOf];omega⟩
end Go.Proofs.YtemjidmkolfgnaaGreatDoor
