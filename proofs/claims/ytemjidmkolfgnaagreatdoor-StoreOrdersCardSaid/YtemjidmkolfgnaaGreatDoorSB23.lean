/-
  Lemmas for the statement: contract of the library: slices.Clone at bytes. Conditions: bounds of lengths; the variable strings.asciiSpace.
-/
import Derived.Laws.CopyOwn
import Derived.Test.YtemjidmkolfgnaaGreatDoorSBn
import Derived.Test.YtemjidmkolfgnaaGreatDoorSB20
set_option maxHeartbeats 6400000
namespace Go.Proofs.YtemjidmkolfgnaaGreatDoor
open Go Go.RowKit
theorem eH (b o j:Nat):(⟨b,o,none⟩:Addr).add j=⟨b,o+j,none⟩:=by unfold Addr.add;split<;>simp_all
theorem gj {P:Program} {ops:Array Oper} {rest:List Oper} {o:Oper} {a:Act} {w w':World} {Q:Exit→Act→World→Prop} (hgd:o.guard=none) {T:TypeId} (x y:Operand) (ho:o.op=.store T x y) {p v:Value} (e1:a.eval x=p) (e2:a.eval y=v) (hst:(Instr.storeAt T p v).run P w=.ok () w')
 (h:wpList P ops Q rest (a.put o.dst undef) w'):wpList P ops Q (o::rest) a w:=wpList_plain hgd λ_K hK=>aY ho e1 e2 hst (hK _ _ h)
theorem cI (w:World) (z ds:Array Value) (t:TypeId):((w.alloc (.cells z t)).setRow w.heap.size ds).heap[w.heap.size]? =some (.cells ds t (0,0))∧Below w.heap.size w ((w.alloc (.cells z t)).setRow w.heap.size ds):=
 ⟨setRow_heap _ _ _ _ _ _ (heap_alloc_new w _),below_setRow ((zb w).alloc zr _) zr ds⟩
theorem wpList_store_row {P:Program} {ops:Array Oper} {rest:List Oper} {o:Oper} {a:Act} {w:World} {Q:Exit→Act→World→Prop} (hgd:o.guard=none) {T:TypeId} (x y:Operand) (ho:o.op=.store T x y) {g f:Nat} {t:TypeId} {cur Y:Array Value} (hg:w.heap[g]? =some (.cells cur t (0,0)))
 (e1:a.eval x=.pointer (some ⟨g,f,none⟩)) (e2:a.eval y=.agg Y) (hi:(P.info? T).map (·.size)=some Y.size) (hl:f+Y.size≤cur.size) (h1:∀v∈Y.toList,v.oneCell'=true)
 (h:wpList P ops Q rest (a.put o.dst undef) (w.setRow g (cur.toList.take f++Y.toList++cur.toList.drop (f+Y.size)).toArray)):wpList P ops Q (o::rest) a w:=gj hgd x y ho e1 e2 (bK hg hi hl h1) h
theorem wpList_load_row {P:Program} {ops:Array Oper} {rest:List Oper} {o:Oper} {a:Act} {w:World} {Q:Exit→Act→World→Prop} (hgd:o.guard=none) {T:TypeId} (x:Operand) (ho:o.op=.load T x) {g:Nat} {c:Array Value} (e1:a.eval x=.pointer (some ⟨g,0,none⟩)) (hr:(Instr.loadAt T (.pointer (some ⟨g,0,none⟩))).run P w=.ok (.agg c) w)
 (h:wpList P ops Q rest (a.put o.dst (.agg c)) w):wpList P ops Q (o::rest) a w:=wpList_plain hgd λK hK=>by
 unfold Oper.wp execOp
 simp only[ho,e1,Sem.run_bind,hr,Result.andThen_ok]
 exact hK _ _ h
def Il:Value→Bool
 | .int .u32 _=>true
 | _=>false
theorem Af {cs:List Value} (h:cs.all Il=true):bF .u32 cs:=λu hu=>by
 have:=List.all_eq_true.1 h u hu
 unfold Il at this
 split at this
 · exact⟨_,rfl⟩
 · cases this
set_option maxRecDepth 8000 in
theorem BR (w:World):Calls Tryz.prog 149 #[] w λe w'=>(∃cs,e=.returned (.agg cs)∧cs.size=64∧bF .u32 cs.toList)∧Below w.heap.size w w':=by
 go_enter Tryz.func149,Tryz.ntmps149
 go_upto_region 1 with fail
 go_wp2_with (refine gj (o:=⟨none,_,_,_,_,_⟩) rfl (.tmp 0) (.tmp 1) rfl rfl rfl (bK (o:=0) (heap_alloc_new _ _) (by kernel_rfl) (by decide) (List.all_eq_true.1 (by kernel_rfl))) ?_)
 generalize hW:World.setRow _ _ _=W3
 have hf:=(congrArg (λW:World=>W.heap[w.heap.size]?) hW).symm.trans (cI _ _ _ _).1
 have xT:Below w.heap.size w W3:=by
  rw[←hW];exact(cI _ _ _ _).2
 obtain⟨Y,Jn,Bf,Jo⟩:∃Y,W3.heap[w.heap.size]? =some (.cells Y 232 (0,0))∧Y.size=64∧bF .u32 Y.toList:=⟨_,hf,by kernel_rfl,Af (by kernel_rfl)⟩
 clear hW hf
 exact bodyPost_ret (v:=.agg Y) (results_cell_row (fn:=Tryz.f149) (p:=0) (ty:=232) rfl _ W3 w.heap.size 232 Y (0,0) _ rfl Jn Tryz.underlying232 rfl (by rw[Bf];kernel_rfl)) rfl ⟨⟨Y,rfl,Bf,Jo⟩,xT⟩
theorem infoByte:(Tryz.prog.info? 5).map (λi=>(i.zero,i.size,i.bytes))=some (some (.int .u8 0),1,1):=by kernel_rfl
set_option maxRecDepth 4000 in
theorem vr {D:Nat→Prop} (v:Value) (cs:List Value) (w:World) (hv:CV D w v cs) (hi:bF .u8 cs) (hn:cs.length≤100000):
 Calls Tryz.prog 20 #[v] w λe w'=>∃v',e=.returned v'∧w'.ownsRow w.heap.size 5 1 v' cs.length cs∧Below w.heap.size w w':=by
 obtain⟨i0,kN,hz0,hz1,hz2⟩:=aV infoByte
 obtain⟨p,c,rfl,hc,hm,h4⟩:=hv
 have Bj:=λ(w:World) (a:Option Addr) (n c:Nat)=>Lib.run_eql_slice_nil (P:=Tryz.prog) w 38 5 a n c 0 0 (by kernel_rfl)
 cases p with
 | none=>
  obtain rfl:cs=[]:=by
   rcases h4 with h4|⟨b,o,e,_⟩
   · exact h4
   · cases e
  clear hc hm h4 hn;go_enter Tryz.func20,Tryz.ntmps20;go_wp2_with fail;go_ret;exact⟨_,rfl,World.ownsRow_nil _ _ _ _,zb _⟩
 | some a=>
  have hnew:∀j u,cs[j]? =some u→w.cell? (a.add j)=some u:=by
   intro j u hu;rcases h4 with rfl|⟨b,o,e,_,_,hcell⟩
   · simp at hu
   · injection e with e
     subst e;rw[eH];exact hcell j u hu
  clear h4;have hE:(w.alloc (.cells #[] 5)).ownsRow w.heap.size 5 1 (.slice (some ⟨w.heap.size,0,none⟩) 0 0) 0 []:=
   ⟨rfl,.inr ⟨w.heap.size,0,#[],rfl,nl _,heap_alloc_new w _,nl _,Nat.zero_le _,rfl,rfl⟩⟩
  have DU:∀(j:Nat) (u:Value),cs[j]? =some u→(w.alloc (.cells #[] 5)).cell? (a.add j)=some u:=λj u hj=>
   Below.keep ((zb w).alloc zr _) (hnew j u hj)
  have hone:∀u∈cs,u.oneCell'=true:=λu hu=>by
   obtain⟨x,rfl⟩:=hi u hu
   rfl
  clear hnew hm hc;generalize hnn:cs.length=n at *;go_enter Tryz.func20,Tryz.ntmps20;go_wp2_with (at_builtin;refine wpList_append_own (w.alloc (.cells #[] 5)) rfl _ _ 38 rfl w.heap.size 5 i0 _ 1 1 (by kernel_rfl) kN hz0 hz1 hz2 rfl (by decide) (.slice (some ⟨w.heap.size,0,none⟩) 0 0) 0 [] rfl hE a n c cs rfl (hnn.trans (Nat.mul_one n).symm) DU hone (by unfold maxLen;omega) (by omega) (by simp) ?_;intro v' w3 ew hgr _);go_ret;rw[List.nil_append,Nat.zero_add] at ew;exact⟨v',rfl,ew,((zb w).alloc zr _).grown hgr (by simp) (λb e=>by cases e;exact nl _)⟩
end Go.Proofs.YtemjidmkolfgnaaGreatDoor
