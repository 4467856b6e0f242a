/-
  Lemmas for the statement: words in memory: loads, stores, places; operations on numbers told by specifications. Conditions: bounds of lengths; the variable strings.asciiSpace.
-/
import Derived.Shelf.Abstract
import Derived.Test.YtemjidmkolfgnaaGreatDoorSBn
import Derived.Test.YtemjidmkolfgnaaGreatDoorSB23
set_option maxHeartbeats 6400000
namespace Go.Proofs.YtemjidmkolfgnaaGreatDoor
open Go Go.RowKit
def Words (W:World) (g N:Nat) (t:TypeId):Prop:=∃Y:Array Value,W.heap[g]? =some (.cells Y t (0,0))∧Y.size=N∧bF .u32 Y.toList
theorem Words.below {W W':World} {g N K:Nat} {t:TypeId} (h:Words W g N t) (hb:Below K W W') (hK:W.heap.size≤K):Words W' g N t:=by
 obtain⟨Y,h1,h2,h3⟩:=h
 exact⟨Y,(hb.block g (by have:=aj h1;omega)).trans h1,h2,h3⟩
theorem Words.keep {W W':World} {g N:Nat} {t:TypeId} (h:Words W g N t) (hb:W'.heap[g]? =W.heap[g]?):Words W' g N t:=by
 obtain⟨Y,h1,h2,h3⟩:=h
 exact⟨Y,hb.trans h1,h2,h3⟩
theorem Words.lt {W:World} {g N:Nat} {t:TypeId} (h:Words W g N t):g<W.heap.size:=by
 obtain⟨Y,h1,_⟩:=h
 exact aj h1
theorem Words.load {W:World} {g N:Nat} {t:TypeId} (h:Words W g N t) {i:Nat} (hi:i<N):∃x,(Instr.loadAt 230 (.pointer (some ⟨g,i,none⟩))).run Tryz.prog W=.ok (.int .u32 x) W:=by
 obtain⟨Y,h1,h2,h3⟩:=h
 obtain⟨x,hx⟩:=h3.get (j:=i) (by rw[Array.length_toList,h2];exact hi)
 have hc:W.cell? ⟨g,i,none⟩=some (.int .u32 x):=(af h1 i).trans (by rw[←Array.getElem?_toList];exact hx)
 exact⟨x,by simp[go_sem,hc]⟩
theorem Words.put {W:World} {g N:Nat} {t:TypeId} (h:Words W g N t) (i:Nat) (x:Int):Words (W.setCell ⟨g,i,none⟩ (.int .u32 x)) g N t:=by
 obtain⟨Y,h1,h2,h3⟩:=h
 refine⟨_,heap_setCell_same W g i _ _ _ h1,by simp[h2],?_⟩
 rw[Array.toList_setIfInBounds]
 exact h3.set i x
theorem Words.other {W:World} {g N b i:Nat} {t:TypeId} (h:Words W g N t) (hb:g≠b) (u:Value):Words (W.setCell ⟨b,i,none⟩ u) g N t:=h.keep (heap_setCell_other W ⟨b,i,none⟩ g u hb)
theorem Words.row {W:World} {g N:Nat} {t:TypeId} (h:Words W g N t) (ds:Array Value) (hs:ds.size=N) (hi:bF .u32 ds.toList):Words (W.setRow g ds) g N t:=by
 obtain⟨Y,h1,_⟩:=h
 exact⟨ds,setRow_heap W g _ _ _ _ h1,hs,hi⟩
theorem Words.EU {W:World} {g N b:Nat} {t:TypeId} (h:Words W g N t) (hb:g≠b) (ds:Array Value):Words (W.setRow b ds) g N t:=h.keep (setRow_other W b g ds hb)
theorem l7 {W:World} {g N:Nat} {t:TypeId} (h:Words W g N t) {i:Nat} (hi:i<N) (x:Int):(Instr.storeAt 230 (.pointer (some ⟨g,i,none⟩)) (.int .u32 x)).run Tryz.prog W=.ok () (W.setCell ⟨g,i,none⟩ (.int .u32 x)):=by
 obtain⟨Y,h1,h2,h3⟩:=h
 have hc:=(af h1 i).trans (Array.getElem?_eq_getElem (by omega))
 have hf:=au h1 i
 simp[go_sem,hc,hf]
theorem En (W:World) {b o N c:Nat} {z:Int} (h0:0≤z) (h1:z<(N:Int)):(Instr.indexAt 38 (.slice (some ⟨b,o,none⟩) N c) (.int .i64 z)).run Tryz.prog W=.ok (.pointer (some ⟨b,o+z.toNat,none⟩)) W:=by
 simp[go_sem,h0,h1]
theorem wA (W:World) {g:Nat} {z:Int} (h0:0≤z) (h1:z<64):(Instr.indexAt 232 (.pointer (some ⟨g,0,none⟩)) (.int .i64 z)).run Tryz.prog W=.ok (.pointer (some ⟨g,z.toNat,none⟩)) W:=by
 simp[go_sem,h0,h1]
theorem JP (W:World) {g:Nat} {z:Int} (h0:0≤z) (h1:z<8):(Instr.indexAt 231 (.pointer (some ⟨g,0,none⟩)) (.int .i64 z)).run Tryz.prog W=.ok (.pointer (some ⟨g,z.toNat,none⟩)) W:=by
 simp[go_sem,h0,h1]
theorem CV.byte {D:Nat→Prop} {w:World} {b o n c:Nat} {xs:List Value} (h:CV D w (.slice (some ⟨b,o,none⟩) n c) xs) (hi:bF .u8 xs) {z:Int} (h0:0≤z) (h1:z<(xs.length:Int)):∃x,(Instr.loadAt 5 (.pointer (some ⟨b,o+z.toNat,none⟩))).run Tryz.prog w=.ok (.int .u8 x) w:=by
 obtain⟨x,hx⟩:=hi.get (j:=z.toNat) (by omega)
 obtain⟨b',o',e,_,hc⟩:=h.at hx
 cases e
 exact⟨x,by simp[go_sem,hc]⟩
theorem bF.one {k:IntKind} {cs:List Value} (h:bF k cs):∀v∈cs,v.oneCell'=true:=λu hu=>by
 obtain⟨x,rfl⟩:=h u hu
 rfl
def nW (w:World) (v:Value):Prop:=∃D cs,CV D w v cs∧bF .i64 cs∧cs.length≤1000
def Ik:Value→Bool
 | .int .i64 _=>true
 | _=>false
theorem Ag {cs:List Value} (h:cs.all Ik=true):bF .i64 cs:=λu hu=>by
 have:=List.all_eq_true.1 h u hu
 unfold Ik at this
 split at this
 · exact⟨_,rfl⟩
 · cases this
theorem lH {D:Nat→Prop} {w:World} {v v2:Value} (h1:(VS.int .u32).holds D w v) (h2:(VS.prop nW).holds D w v2):Calls Tryz.prog 150 #[v,v2] w λe w'=>∃u,e=.returned u∧(VS.int .u32).holds D w' u∧Below w.heap.size w w':=by
 obtain⟨x,rfl⟩:=h1
 obtain⟨D',cs,hc,hi,hl⟩:=h2 w (zb _)
 refine(tu x v2 w hc hi hl).mono ?_
 rintro e w' ⟨⟨y,rfl⟩,rfl⟩
 exact⟨_,rfl,⟨y,rfl⟩,zb _⟩
def tO:BinOp→Int→Int→Option Int
 | .add,m,n=>some (m+n)
 | .sub,m,n=>some (m - n)
 | .mul,m,n=>some (m * n)
 | _,_,_=>none
theorem AU {P:Program} {b:BinOp} (t:TypeId) (x y:Operand) {m n f:Int} (hf:tO b m n=some f) (h0: -9223372036854775808≤f) (h1:f≤9223372036854775807) (w:World):(do eqGuard b t x y (.int .i64 m) (.int .i64 n);Go.binOp b t (.int .i64 m) (.int .i64 n):Sem Value).run P w=.ok (.int .i64 f) w:=by
 cases b<;>first
  | (simp[tO] at hf;done)
  | (simp only[tO,Option.some.injEq] at hf;simp[eqGuard,Go.binOp,Op.intArith];rw[hf];simp[IntKind.wrap,IntKind.bits,IntKind.signed];omega)
section
variable {D:Nat→Prop} {ops:Array Oper} {h:Nat} {V:List VS} {E:List (Nat×VS)} {S:World→Prop} {k:Nat} {o:Oper}
theorem KO {b:BinOp} {t t2:TypeId} {x y:Operand} {m n f:Int} (ho:o.op=.binOp b t x y t2) (hw:cw ops h V o=some true) (hk:V[k]? =some (.eq (.int .i64 f))) (hx:aL ops h V E o x=some (.eq (.int .i64 m))) (hy:aL ops h V E o y=some (.eq (.int .i64 n)))
 (hf:tO b m n=some f) (h0: -9223372036854775808≤f) (h1:f≤9223372036854775807):bB D Tryz.prog S ops h V E k o:=gJ ho hw hk hx hy λw=>AU t x y hf h0 h1 w
theorem zF {t:TypeId} {n:Nat} {ps:Array (Nat×Operand)} (_:o.op=.buildSlice t n ps) (hw:cw ops h V o=some true) (hk:V[k]? =some (.prop nW))
 (cs:List Value) (hcs:bF .i64 cs) (hl:cs.length≤1000) (hrun:∀(ev:Operand→Value) (w:World),(∀v,ev (.const v)=v)→(execOp ev o).run Tryz.prog w=.ok (.value (.slice (some ⟨w.heap.size,0,none⟩) cs.length cs.length)) (w.alloc (.cells cs.toArray 3))):bB D Tryz.prog S ops h V E k o:=
 rQ [] hw hk rfl λa w Q _ _ next hn=>by
  unfold Oper.wp;rw[hrun a.eval w λv=>rfl];refine hn _ _ (λw' hb=>⟨λ_=>True,cs,?_,hcs,hl⟩) ((zb w).alloc zr _);exact(CV.new rfl trivial cs 3 (0,0) (by unfold maxLen;omega)).below hb zr
end
theorem pE {D:Nat→Prop} {P:Program} {ops:Array Oper} {a0:Act} {Q:Exit→Act→World→Prop} {id:Nat} {w:World} {s:VS} (h:Nat) (E:List (Nat×VS)) (V:List VS) (S:World→Prop) (hok:xu P ops h a0.tmps.size=true) (hl:V[h]? =some s) {d:Option Nat} (hd:(ops[h]?).bind (·.dst)=d)
 (fR:∀w w',S w→Below w.heap.size w w'→S w') (hS:S w.drew) (hE:jG D w.drew a0 E) (hst:dJ D P S ops h V E 0 ops.toList)
 (hend:∀a v w',S w'→Below w.heap.size w w'→(∀(j:Nat) (s:VS) (d:Nat),j<h→V[j]? =some s→(ops[j]?).bind (·.dst)=some d→s.holds D w' (a.tmps.getD d undef))→s.holds D w' v→Q .normal ((bD a (ops.toList.take h) a0).put d v) w'):
 (Code.region id ops true).wp P Q a0 w:=by
 unfold xu at hok
 simp only[Bool.and_eq_true,decide_eq_true_eq] at hok
 obtain⟨h1,h2,h3,h4,h5⟩:=hok
 subst hd
 refine gM h E V S h1 h2 h3 h4 h5 fR hS hE.all hst λa u w' Po hb ha hf hv=>?_
 have:=hend a u w' Po hb hf (hv _ hl)
 rwa [←ha] at this
theorem K7 {b o N c:Nat} (h0:64≤N) (hc:N≤c):∃v',(∀W:World,(Instr.sliceAt 38 (.slice (some ⟨b,o,none⟩) N c) (some (.int .i64 64)) none none).run Tryz.prog W=.ok v' W)∧
 (∀(D:Nat→Prop) (W:World) (xs:List Value),xs.length=N→CV D W (.slice (some ⟨b,o,none⟩) N c) xs→CV D W v' (xs.drop 64))∧∃p' c',v'=.slice p' (N - 64) c':=by
 by_cases hk:c=64
 · subst hk
   obtain rfl:N=64:=by omega
   refine⟨.slice (some ⟨b,o,none⟩) 0 0,λW=>by simp[go_sem],λD W xs hx _=>?_,_,_,rfl⟩;rw[List.drop_eq_nil_of_le (by omega)];exact CV.nil _ _ _ _
 · have hk2:64<c:=by omega
   have Tz:(64:Int)≤(N:Int):=by omega
   refine⟨.slice (some ⟨b,o+64,none⟩) (N - 64) (c - 64),λW=>by simp[go_sem,hk,Tz],λD W xs hx h=>?_,_,_,rfl⟩;obtain⟨p',c',e,h1,h2,h3⟩:=h;cases e;refine⟨_,_,by rw[List.length_drop,hx],by rw[List.length_drop];omega,by rw[List.length_drop];omega,?_⟩;rcases h3 with h3|⟨b',o',e,h4,h5,h6⟩
   · subst h3
     simp at h0
   · cases e
     refine .inr ⟨b,o+64,rfl,h4,h5,λj u hj=>?_⟩;rw[Nat.add_assoc];exact h6 (64+j) u (by rwa [List.getElem?_drop] at hj)
theorem GI (w:World) (x:Obj):(w.alloc x).heap[w.heap.size]? =some x∧Below w.heap.size w (w.alloc x)∧(w.alloc x).heap.size=w.heap.size+1:=⟨heap_alloc_new w x,(zb w).alloc zr x,by simp⟩
theorem AE (w:World) (x y:Obj):((w.alloc x).alloc y).heap[w.heap.size]? =some x∧((w.alloc x).alloc y).heap[w.heap.size+1]? =some y∧Below w.heap.size w ((w.alloc x).alloc y)∧((w.alloc x).alloc y).heap.size=w.heap.size+2:=by
 have hh:((w.alloc x).alloc y).heap=(w.heap.push x).push y:=rfl
 have hp:∀(u:World) (x:Obj),(u.alloc x).heap=u.heap.push x:=λ_ _=>rfl
 refine⟨?_,?_,((zb w).alloc zr _).alloc (by simp[hp]) _,by simp[hh]⟩
 · rw[hh,Array.getElem?_push,if_neg (by simp),Array.getElem?_push_size]
 · have:(w.heap.push x).size=w.heap.size+1:=by simp
   rw[hh,←this,Array.getElem?_push_size]
structure lD (w W:World) (n kb:Nat):Prop where
 cV:Below n w W
 QH:n+2≤kb
 res:∃ds:List UInt8,ds.length=32∧W.heap[n]? =some (.cells (aH ds).toArray 195 (0,0))
 h:Words W (n+1) 8 231
 k:Words W kb 64 232
theorem lD.below {w W W':World} {n kb K:Nat} (h:lD w W n kb) (hb:Below K W W') (hK:kb<K):lD w W' n kb:=by
 have hk:=h.QH
 refine⟨h.cV.trans (aa hb (by omega)),hk,?_,h.h.keep (hb.block _ (by omega)),h.k.keep (hb.block _ hK)⟩
 obtain⟨ds,h1,h2⟩:=h.res
 exact⟨ds,h1,(hb.block n (by omega)).trans h2⟩
theorem lD.put {w W:World} {n kb:Nat} (h:lD w W n kb) (i:Nat) (x:Int):lD w (W.setCell ⟨n+1,i,none⟩ (.int .u32 x)) n kb:=by
 have hk:=h.QH
 refine⟨h.cV.setCell (p:=⟨n+1,i,none⟩) (Nat.le_succ n) _,hk,?_,h.h.put i x,h.k.other (by omega) _⟩
 obtain⟨ds,h1,h2⟩:=h.res
 exact⟨ds,h1,(heap_setCell_other W ⟨n+1,i,none⟩ n _ (by simp)).trans h2⟩
def u6 (B:Nat) (W:World) (v:Value) (m:Nat):Prop:=∃xs,bF .u8 xs∧W.ownsRow B 5 1 v m xs
def GB:Value→Nat
 | .slice _ n _=>n
 | _=>0
theorem kf {ops:Array Oper} {rest:List Oper} {o:Oper} {a:Act} {Q:Exit→Act→World→Prop} (hgd:o.guard=none) (s y:Operand) (ho:o.op=.call {callee:=.builtin .append,args:= #[s,y],argTypes:= #[38,38] })
 {W:World} {B m:Nat} {v:Value} {x:Int} (hs:a.eval s=v) (hown:u6 B W v m) (hy:a.eval y=.slice (some ⟨W.heap.size,0,none⟩) 1 1) (hm:m≤100000) (hB:B≤W.heap.size)
 (h:∀v' w',u6 B w' v' (m+1)→Below B W w'→wpList Tryz.prog ops Q rest (a.put o.dst v') w'):wpList Tryz.prog ops Q (o::rest) a (W.alloc (.cells #[.int .u8 x] 5)):=by
 obtain⟨i0,kN,hz0,hz1,hz2⟩:=aV infoByte
 obtain⟨xs,hi,hown⟩:=hown
 have hsz:(W.alloc (.cells #[.int .u8 x] 5)).heap.size=W.heap.size+1:=by
  have:(W.alloc (.cells #[.int .u8 x] 5)).heap=W.heap.push (.cells #[.int .u8 x] 5):=rfl;simp[this]
 have xR:=(zb W).alloc zr (.cells #[.int .u8 x] 5)
 refine gK _ hgd s y 38 ho B 5 i0 _ 1 1 (by kernel_rfl) kN hz0 hz1 hz2 rfl (by decide) v m xs hs (aT hown xR zr) ⟨W.heap.size,0,none⟩ 1 1 [.int .u8 x] hy rfl (λj u hj=>?_) (λu hu=>?_) (by decide) (by unfold maxLen;omega) (by omega) (by omega) (λv' w' h1 h2 _=>h v' w' ⟨_,hi.append (λu hu=>⟨x,by simpa using hu⟩),h1⟩ ?_)
 · rw[eH]
   refine(af (heap_alloc_new W _) (0+j)).trans ?_
   simpa using hj
 · obtain rfl:=List.mem_singleton.1 hu
   rfl
 · exact(aa xR hB).grown h2 (by omega) λb e=>(hown.lt b e).1
def AJ (W:World) (Z:Nat):Prop:=∃ds:List UInt8,ds.length=32∧W.heap[Z]? =some (.cells (aH ds).toArray 195 (0,0))
theorem AJ.set {W:World} {Z k:Nat} (h:AJ W Z) {y:Int} (hw:0≤y∧y<256):AJ (W.setCell ⟨Z,k,none⟩ (.int .u8 y)) Z:=by
 obtain⟨ds,h1,h2⟩:=h
 obtain⟨n,hn⟩:∃n:Nat,y=(n:Int):=⟨y.toNat,by omega⟩
 subst hn
 refine⟨ds.set k (UInt8.ofNat n),by simp[h1],(heap_setCell_same W Z k _ _ _ h2).trans (congrArg (λz=>some (Obj.cells z 195 (0,0))) ?_)⟩
 have hn2:(UInt8.ofNat n).toNat=n:=by rw[UInt8.toNat_ofNat'];omega
 unfold aH
 rw[List.map_set,hn2]
 simp
theorem yH {Y:Array Value} {i:Nat} {x:Int} (hY:Y.size=8) (hx:Y[i]? =some (.int .u32 x)) (W:World):(Instr.index 231 (.agg Y) (.int .i64 i)).run Tryz.prog W=.ok (.int .u32 x) W:=by
 have hi:i<8:=by
  have:=(Array.getElem?_eq_some_iff.1 hx).1;omega
 simp[Instr.index,go_sem,part,hx]
 intro h
 omega
set_option maxRecDepth 8000 in
theorem AD {D : Nat → Prop} (v : Value) (cs : List Value) (w : World) (hv : CV D w v cs) (hi : bF .u8 cs) (hn : cs.length ≤ 20000) :
 Calls Tryz.prog 114 #[v] w λe w'=>(∃ds:List UInt8,e=.returned (.agg (aH ds).toArray)∧ds.length=32)∧Below w.heap.size w w':=by
 obtain⟨i0,kN,hz0,hz1,hz2⟩:=aV infoByte
 obtain⟨p,c,rfl,hlc,hlm⟩:=hv.shape
 have HC:=λW (hW:Below w.heap.size w W)=>vr (.slice p cs.length c) cs W (hv.below hW zr) hi (by omega)
 go_enter Tryz.func114,Tryz.ntmps114
 go_upto_region 2 with fail
 obtain⟨hR,hH,lQ,hs2⟩:=AE w _ _
 generalize World.alloc (World.alloc w _) _=W2 at *
 replace hR:∃ds:List UInt8,ds.length=32∧W2.heap[w.heap.size]? =some (.cells (aH ds).toArray 195 (0,0)):=⟨List.replicate 32 0,rfl,hR⟩
 replace hH:Words W2 (w.heap.size+1) 8 231:=⟨_,hH,rfl,Af rfl⟩
 go_upto_region 3 with(first
  | (go_at_call 149;refine(BR _).mono ?_;rintro e w1 ⟨⟨ks,rfl,hks,hki⟩,F1⟩)
  | ((with_reducible refine wpList_store_row (o:=⟨none,_,_,_,_,_⟩) (T:=232) (f:=0) (Y:=ks) ?_ (.tmp 4) (.tmp 28) ?_ (heap_alloc_new _ _) ?_ ?_ ?_ ?_ ?_ ?_);rfl;rfl;kernel_rfl;kernel_rfl;(rw[hks];kernel_rfl);(rw[hks];decide);exact hki.one))
 simp only[Act.put]
 generalize Hv:World.setRow _ _ _=W3
 have xT:Below w1.heap.size w1 W3:=by
  rw[←Hv];exact(cI _ _ _ _).2
 have rA:Words W3 w1.heap.size 64 232:=by
  rw[←Hv];refine⟨ks,(cI _ _ _ _).1.trans (congrArg (λz=>some (Obj.cells z 232 (0,0))) ?_),hks,hki⟩;rw[List.take_zero,List.nil_append,List.drop_eq_nil_of_le (by rw[hks];decide),List.append_nil,Array.toArray_toList]
 clear Hv
 have Ge:=F1.trans (aa xT F1.size)
 have hM:lD w W3 w.heap.size w1.heap.size:=by
  refine⟨lQ.trans (aa Ge (by omega)),by have:=F1.size;omega,?_,hH.below Ge zr,rA⟩;obtain⟨ds,h1,h2⟩:=hR;exact⟨ds,h1,(Ge.block _ (aj h2)).trans h2⟩
 have hkb:w1.heap.size<W3.heap.size:=by
  obtain⟨Y,hY,_⟩:=rA;exact aj hY
 generalize w1.heap.size=kb at *
 clear hR hH lQ hs2 F1 hks hki xT rA Ge
 go_upto_region 4 with(first
  | (go_at_call 20;refine(HC _ hM.cV).mono ?_;rintro e w4 ⟨v4,rfl,Ia,hb4⟩)
  | ((with_reducible refine kf (o:=⟨some 32,_,_,_,_,_⟩) (v:=v4) (B:=W3.heap.size) (m:=cs.length) ?_ (.tmp 30) (.tmp 31) ?_ ?_ ?_ ?_ ?_ ?_ ?_);rfl;rfl;kernel_rfl;exact(⟨cs,hi,Ia⟩:u6 W3.heap.size w4 v4 cs.length);kernel_rfl;omega;exact hb4.size;intro v5 w5 Sm oo))
 have LV:=hM.below (hb4.trans oo) hkb
 have RM:W3.heap.size≤w5.heap.size:=Nat.le_trans hb4.size oo.size
 generalize W3.heap.size=O at *
 clear HC hv hi Ia hb4 oo hM
 generalize cs.length=L at *
 obtain⟨T,hT,L1,F8⟩:∃T,T % 64=56∧L+1≤T∧T≤L+64:=⟨64 * ((L+8) / 64)+56,by omega,by omega,by omega⟩
 go_loopw [5] (λy wx=>∃m:Nat,L+1≤m∧m≤T∧u6 O wx y m∧lD w wx w.heap.size kb∧O≤wx.heap.size) (λy _=>T - GB y)
 case atStart=>exact⟨L+1,nl _,L1,Sm,LV,RM⟩
 case round =>
  obtain⟨m,CH,hm2,⟨xs,Ef,CK⟩,hM,hO⟩:=hrel;obtain⟨q,cq,rfl⟩:=aJ CK;have ht:(m:Int).tmod 64=((m % 64:Nat):Int):=by
   rw[Int.tmod_eq_emod_of_nonneg (by omega)];omega
  by_cases hm:m % 64=56
  case neg=>
   have hq:¬((m % 64:Nat):Int)=56:=by omega
   go_wp2_with ((with_reducible refine kf (o:=⟨some 39,_,_,_,_,_⟩) (v:=.slice q m cq) (B:=O) (m:=m) ?_ (.tmp 37) (.tmp 38) ?_ ?_ ?_ ?_ ?_ ?_ ?_);rfl;rfl;kernel_rfl;exact(⟨xs,Ef,CK⟩:u6 O wr (.slice q m cq) m);kernel_rfl;omega;exact hO;intro v6 w6 N1 rE);obtain⟨ys,_,Vd⟩:=id N1;obtain⟨q6,c6,rfl⟩:=aJ Vd;have hne:m≠T:=λe=>hm (by rw[e];exact hT)
   exact⟨⟨m+1,by omega,by omega,N1,hM.below rE hkb,Nat.le_trans hO rE.size⟩,by simp only[GB];omega⟩
  case pos =>
   have ho:u6 O wr (.slice q m cq) m:=⟨xs,Ef,CK⟩;have hq:((m % 64:Nat):Int)=56:=by omega
   go_upto_region 7 with fail;clear ht hq CK Ef Sm LV RM hT L1;go_loopw [5,6] (λu y wx=>∃(j:Nat) (z:Int),j≤8∧z=56 - 8 * (j:Int)∧y=.int .i64 z∧u6 O wx u (m+j)∧lD w wx w.heap.size kb∧O≤wx.heap.size) (λ_ y _=>(intOf y+8).toNat)
   case atStart=>exact⟨0,56,by omega,by omega,rfl,ho,hM,hO⟩
   case round =>
    clear ho hM hO;obtain⟨j,z,hj,hz,rfl,⟨xs,Ef,CK⟩,hM,hO⟩:=hrel;obtain⟨q2,c2,rfl⟩:=aJ CK
    by_cases hz0':0≤z
    case pos=>
     obtain⟨z2,M0⟩:=zw .u64 .i64 (8 * (L:Int)) z hz0';have g1:IntKind.u64.wrap (8 * (L:Int))=8 * L:=by rw[IntKind.wrap_u64];omega
     have g2:IntKind.u64.wrap (L:Int)=L:=by rw[IntKind.wrap_u64];omega
     have g3: -9223372036854775808≤z - 8:=by omega
     have g4:z - 8≤9223372036854775807:=by omega
     go_wp2_with ((with_reducible refine kf (o:=⟨some 53,_,_,_,_,_⟩) (v:=.slice q2 (m+j) c2) (B:=O) (m:=m+j) ?_ (.tmp 44) (.tmp 52) ?_ ?_ ?_ ?_ ?_ ?_ ?_);rfl;rfl;kernel_rfl;exact(⟨xs,Ef,CK⟩:u6 O wr (.slice q2 (m+j) c2) (m+j));kernel_rfl;omega;exact hO;intro v6 w6 N1 rE);exact⟨⟨j+1,56 - 8 * (j:Int) - 8,by omega,by omega,rfl,N1,hM.below rE hkb,Nat.le_trans hO rE.size⟩,by simp only[intOf];omega⟩
    case neg =>
     have hnz:¬0≤z:=hz0';obtain rfl:j=8:=by omega
     have hxl:=CK.1;have xP:CV (λb=>O≤b) wr (.slice q2 (m+8) c2) xs:=by
      have hl:xs.length=m+8:=by omega
      rw[←hl] at CK ⊢;exact CV.eZ CK λb hb=>(CK.lt b hb).1
     have JM:xs.length=64 * ((m+8) / 64):=by omega
     go_upto_region 10 with fail;clear CK hxl hz hnz hz0';obtain⟨R0,T3⟩:∃R0,(m+8) / 64=R0:=⟨_,rfl⟩
     rw[T3] at JM;rw[show m+8=64 * R0 by omega] at xP ⊢;go_loopw [5] (λu wx=>∃(r:Nat) (xs:List Value),r≤R0∧bF .u8 xs∧xs.length=64 * r∧CV (λb=>O≤b) wx u xs∧lD w wx w.heap.size kb∧O≤wx.heap.size) (λu _=>GB u)
     case atStart=>exact⟨R0,xs,nl _,Ef,JM,xP,hM,hO⟩
     case round =>
      clear Ef JM xP hM hO;obtain⟨r,xs,hr,Ef,hxl,xP,hM,hO⟩:=hrel;obtain⟨q3,c3,rfl,Kr,Si⟩:=xP.shape;rw[hxl] at xP ⊢;rcases r with _|r
      · go_upto_region 38 with fail
        have hZ:AJ (wr.alloc (.cells (aH (List.replicate 32 0)).toArray 195)) wr.heap.size:=⟨List.replicate 32 0,rfl,heap_alloc_new wr _⟩;have Dz:=hM.below ((zb wr).alloc zr (.cells (aH (List.replicate 32 0)).toArray 195)) (by omega);have Uq:O≤wr.heap.size:=hO
        change Code.wp _ _ _ _ (wr.alloc (.cells (aH (List.replicate 32 0)).toArray 195))
        generalize wr.alloc (.cells (aH (List.replicate 32 0)).toArray 195)=W6 at *;generalize wr.heap.size=Z at *;obtain⟨Y,Jn,Bf,Jo⟩:=Dz.h;go_upto_region 39 with((with_reducible refine wpList_load_row (o:=⟨some 216,_,_,_,_,_⟩) (T:=231) (g:=w.heap.size+1) (c:=Y) ?_ (.tmp 3) ?_ ?_ ?_ ?_);rfl;rfl;kernel_rfl;exact bT Jn Tryz.underlying231 (by rw[Bf];kernel_rfl));clear Jn;go_loopw [217] (λy wx=>∃i:Nat,i≤8∧y=.int .i64 i∧AJ wx Z∧lD w wx w.heap.size kb) (λy _=>8 - (intOf y).toNat)
        case atStart=>exact⟨0,by omega,by go_num,hZ,Dz⟩
        case round=>
         clear hZ Dz;obtain⟨i,UG,rfl,hZ,Dz⟩:=hrel
         by_cases hlt:i<8
         case neg=>
          obtain rfl:i=8:=by omega
          obtain⟨ds,Hy,hd2⟩:=hZ;obtain⟨rs,hr1,hr2⟩:=Dz.res;have hds:(aH ds).toArray.size=32:=by simp[ak,Hy]
          have hone:∀v∈(aH ds).toArray.toList,v.oneCell'=true:=λv hv=>by
           rw[List.toList_toArray] at hv;obtain⟨b,_,rfl⟩:=List.mem_map.1 hv
           rfl
          go_wp2_with (first
           | ((with_reducible refine wpList_load_row (o:=⟨some 237,_,_,_,_,_⟩) (T:=195) (g:=Z) (c:=(aH ds).toArray) ?_ (.tmp 23) ?_ ?_ ?_ ?_);rfl;rfl;kernel_rfl;exact bT hd2 Tryz.underlying195 (by rw[hds];kernel_rfl))
           | ((with_reducible refine wpList_store_row (o:=⟨none,_,_,_,_,_⟩) (T:=195) (f:=0) (Y:=(aH ds).toArray) ?_ (.tmp 2) (.tmp 237) ?_ hr2 ?_ ?_ ?_ ?_ ?_ ?_);rfl;rfl;kernel_rfl;kernel_rfl;(rw[hds];kernel_rfl);(rw[hds];simp[ak,hr1]);exact hone))
          have hrs:(wr.setRow w.heap.size (aH ds++List.drop 32 (aH rs)).toArray).heap[w.heap.size]? =some (.cells (aH ds).toArray 195 (0,0)):=(setRow_heap _ _ _ _ _ _ hr2).trans (congrArg (λz=>some (Obj.cells z 195 (0,0))) (by rw[List.drop_eq_nil_of_le (by rw[ak,hr1];exact nl _),List.append_nil]));have ri:Below w.heap.size w (wr.setRow w.heap.size (aH ds++List.drop 32 (aH rs)).toArray):=below_setRow Dz.cV zr _;generalize wr.setRow w.heap.size (aH ds++List.drop 32 (aH rs)).toArray=We at *;exact bodyPost_ret (v:=.agg (aH ds).toArray) (results_cell_row (fn:=Tryz.f114) (p:=2) (ty:=195) rfl _ We w.heap.size 195 (aH ds).toArray (0,0) _ rfl hrs Tryz.underlying195 rfl (by rw[hds];kernel_rfl)) rfl ⟨⟨ds,rfl,Hy⟩,ri⟩
         case pos=>
          obtain⟨x,hx⟩:=Jo.get (j:=i) (by simp[Bf,hlt]);rw[Array.getElem?_toList] at hx;have hil:(i:Int)<8:=by omega
          have Sf:=yH Bf hx;go_upto_region 42 with fail;go_loopw [221] (λy wx=>∃j:Nat,j≤4∧y=.int .i64 j∧AJ wx Z∧lD w wx w.heap.size kb) (λy _=>4 - (intOf y).toNat)
          case atStart=>exact⟨0,by omega,by go_num,hZ,Dz⟩
          case round=>
           clear hZ Dz;obtain⟨j,Wn,rfl,hZ,Dz⟩:=hrel
           by_cases hlt2:j<4
           case neg=>
            obtain rfl:j=4:=by omega
            go_wp2_with fail;exact⟨⟨i+1,by omega,by go_num,hZ,Dz⟩,by simp only[intOf];omega⟩
           case pos=>
            have hjl:(j:Int)<4:=by omega
            obtain⟨ds,Hy,hd2⟩:=id hZ;obtain⟨zz,Vg⟩:=zw .u32 .i64 x (24 - 8 * (j:Int)) (by omega);obtain⟨b0,hb0⟩:∃b0,(aH ds)[4 * i+j]? =some b0:=⟨_,List.getElem?_eq_getElem (by rw[ak,Hy];omega)⟩
            have c2:=(af hd2 (4 * i+j)).trans (by simpa using hb0);have c3:=au hd2 (4 * i+j);have g5:(4 * (i:Int)+(j:Int)).toNat=4 * i+j:=by omega
            have g6:4 * (i:Int)+(j:Int)<32:=by omega
            have g7:0≤4 * (i:Int)+(j:Int):=by omega
            clear hd2 hb0;go_wp2_with fail;exact⟨⟨j+1,by omega,by go_num,hZ.set (by constructor<;>omega),Dz.below ((Below.refl O wr).setCell (p:=⟨Z,4 * i+j,none⟩) Uq _) hkb⟩,by simp only[intOf];omega⟩
      · generalize hN : 64 * (r + 1) = N at *
        have hpos:(0:Int)<(N:Int):=by omega
        have Pf:64≤N:=by omega
        obtain⟨x0,hx0⟩:=Ef.get (j:=0) (by omega);obtain⟨b0,o0,rfl,hb0,_⟩:=xP.at hx0;obtain⟨v',ow,hcut,p',c',rfl⟩:=K7 (b:=b0) (o:=o0) (c:=c3) Pf (by omega);have hN:=zh hN;have hxl:=zh hxl;have hcut:=zh hcut;have ow:=zh ow;clear hx0;generalize wr=W0 at *;go_upto_region 14 with fail;obtain⟨tY,hBl,hs0⟩:=GI W0 _;generalize World.alloc W0 _=W4 at *
        replace tY:Words W4 W0.heap.size 64 232:=⟨_,tY,rfl,Af rfl⟩
        clear hs0;have hnb:=tY.lt;go_loopw [59] (λy wx=>∃i:Nat,i≤16∧y=.int .i64 i∧Words wx W0.heap.size 64 232∧Below W0.heap.size W0 wx) (λy _=>16 - (intOf y).toNat)
        case atStart=>exact⟨0,by omega,by go_num,tY,hBl⟩
        case round =>
         clear tY hBl;obtain⟨i,UF,rfl,tY,hBl⟩:=hrel
         by_cases hlt:i<16
         case pos=>
          have hil:(i:Int)<16:=by omega
          have MX:=hxl.out;go_upto_region 16 with fail;refine cF (D:=λ_=>True) (w:=wr) 35 [(8,vI i),(5,.eq (.slice (some ⟨b0,o0,none⟩) N c3)),(7,vP W0.heap.size 0)] [vI i,.eq (.slice (some ⟨b0,o0,none⟩) N c3),vI i,vI (4 * (i:Int)),vP b0 (o0+(4 * (i:Int)).toNat),.int .u8,.int .u32,.int .u32,.eq (.slice (some ⟨b0,o0,none⟩) N c3),vI i,vI (4 * (i:Int)),vI (4 * (i:Int)+1),vP b0 (o0+(4 * (i:Int)+1).toNat),.int .u8,.int .u32,.int .u32,.int .u32,.eq (.slice (some ⟨b0,o0,none⟩) N c3),vI i,vI (4 * (i:Int)),vI (4 * (i:Int)+2),vP b0 (o0+(4 * (i:Int)+2).toNat),.int .u8,.int .u32,.int .u32,.int .u32,.eq (.slice (some ⟨b0,o0,none⟩) N c3),vI i,vI (4 * (i:Int)),vI (4 * (i:Int)+3),vP b0 (o0+(4 * (i:Int)+3).toNat),.int .u8,.int .u32,.int .u32,vP W0.heap.size (i:Int).toNat]
           (λw'=>Words w' W0.heap.size 64 232∧Below W0.heap.size W0 w') (λw'=>Words w' W0.heap.size 64 232∧Below W0.heap.size W0 w') (by kernel_rfl) rfl rfl
           (λw w' h hb=>⟨h.1.below hb zr,h.2.trans (aa hb h.2.size)⟩) ⟨tY,hBl.drew⟩ ⟨rfl,rfl,rfl,trivial⟩ ?_ ?_ ?_
          · iterate 35
             refine And.intro ?_ ?_
             · first
               | exact iU rfl rfl (by kernel_rfl)
               | exact KO rfl (by kernel_rfl) rfl rfl rfl rfl (by omega) (by omega)
               | exact Nl rfl rfl (by kernel_rfl)
               | exact iQ rfl (by kernel_rfl) rfl rfl rfl (λw=>En w (by omega) (by omega))
               | exact iQ rfl (by kernel_rfl) rfl rfl rfl (λw=>wA w (by omega) (by omega))
               | exact lq (kk:=.u8) rfl (by kernel_rfl) rfl rfl (λw hS=>(xP.below hS.2 zr).byte Ef (by omega) (by omega))
            exact trivial
          · intro a' wx hS hV hout next hn
            obtain⟨x,hx⟩:=hV 33 (.int .u32) 95 (by decide) rfl rfl;have e1:a'.eval (.tmp 96)=.pointer (some ⟨W0.heap.size,(i:Int).toNat,none⟩):=hV 34 _ 96 (by decide) rfl rfl;exact aY rfl e1 hx (l7 hS.1 (by omega) x) (hn _ _ ⟨hS.1.put _ x,hS.2.setCell (p:=⟨W0.heap.size,(i:Int).toNat,none⟩) zr _⟩)
          · intro ax wx oO
            simp only[pq,pz,pw];go_wp2_with fail;exact⟨⟨i+1,by omega,by go_num,oO.1,oO.2⟩,by simp only[intOf];omega⟩
         case neg =>
          obtain rfl:i=16:=by omega
          go_upto_region 19 with fail;go_loopw [9] (λy wx=>∃i:Nat,16≤i∧i≤64∧y=.int .i64 i∧Words wx W0.heap.size 64 232∧Below W0.heap.size W0 wx) (λy _=>64 - (intOf y).toNat)
          case atStart=>exact⟨16,by omega,by omega,by go_num,tY,hBl⟩
          case round =>
           clear tY hBl;obtain⟨i,kN,PV,rfl,tY,hBl⟩:=hrel
           by_cases hlt:i<64
           case pos=>
            have hil:(i:Int)<64:=by omega
            go_upto_region 21 with fail;refine pE (d:=some 11) (D:=λ_=>True) (w:=wr) 9 [(9,vI i),(7,vP W0.heap.size 0)] [vI i,vI ((i:Int) - 15),vP W0.heap.size ((i:Int) - 15:Int).toNat,.int .u32,vI i,vI ((i:Int) - 2),vP W0.heap.size ((i:Int) - 2:Int).toNat,.int .u32,.int .u32,.int .u32]
             (λw'=>Words w' W0.heap.size 64 232∧Below W0.heap.size W0 w') (by kernel_rfl) rfl rfl
             (λw w' h hb=>⟨h.1.below hb zr,h.2.trans (aa hb h.2.size)⟩) ⟨tY,hBl.drew⟩ ⟨rfl,rfl,trivial⟩ ?_ ?_
            · iterate 10
               refine And.intro ?_ ?_
               · first
                 | exact iU rfl rfl (by kernel_rfl)
                 | exact KO rfl (by kernel_rfl) rfl rfl rfl rfl (by omega) (by omega)
                 | exact iQ rfl (by kernel_rfl) rfl rfl rfl (λw=>wA w (by omega) (by omega))
                 | exact lq (kk:=.u32) rfl (by kernel_rfl) rfl rfl (λw hS=>hS.1.load (by omega))
              exact trivial
            intro a v w6 DA _ hf Gl;obtain⟨VF,rfl⟩:=Gl;obtain⟨VE,h10⟩:=hf 8 (.int .u32) 10 (by decide) rfl rfl;simp only[pq,pz,pw];rw[h10];clear hf h10 tY hBl;go_upto_region 22 with fail;refine cF (D:=λ_=>True) (w:=w6) 25 [(9,vI i),(11,.int .u32),(10,.int .u32),(7,vP W0.heap.size 0)] [vI i,.int .u32,.prop nW,.int .u32,.int .u32,.int .u32,.int .u32,vI i,vI ((i:Int) - 7),vP W0.heap.size ((i:Int) - 7:Int).toNat,.int .u32,.int .u32,.int .u32,.prop nW,.int .u32,.int .u32,.int .u32,.int .u32,.int .u32,vI i,vI ((i:Int) - 16),vP W0.heap.size ((i:Int) - 16:Int).toNat,.int .u32,.int .u32,vP W0.heap.size (i:Int).toNat]
             (λw'=>Words w' W0.heap.size 64 232∧Below W0.heap.size W0 w') (λw'=>Words w' W0.heap.size 64 232∧Below W0.heap.size W0 w') (by kernel_rfl) rfl rfl
             (λw w' h hb=>⟨h.1.below hb zr,h.2.trans (aa hb h.2.size)⟩) ⟨DA.1,DA.2.drew⟩ ⟨rfl,⟨VF,rfl⟩,⟨VE,rfl⟩,rfl,trivial⟩ ?_ ?_ ?_
            · iterate 13
               refine And.intro ?_ ?_
               · first
                 | exact iU rfl rfl (by kernel_rfl)
                 | exact KO rfl (by kernel_rfl) rfl rfl rfl rfl (by omega) (by omega)
                 | exact Nl rfl rfl (by kernel_rfl)
                 | exact iQ rfl (by kernel_rfl) rfl rfl rfl (λw=>wA w (by omega) (by omega))
                 | exact lq (kk:=.u32) rfl (by kernel_rfl) rfl rfl (λw hS=>hS.1.load (by omega))
                 | exact zF rfl (by kernel_rfl) rfl [.int .i64 17,.int .i64 19] (Ag rfl) (by decide) (λev w Kt=>by simp[execOp,Kt,go_sem])
                 | exact uT (s1:=.int .u32) (s2:=.prop nW) rfl (enters_of Tryz.func150 (by kernel_rfl) rfl) (by kernel_rfl) rfl rfl rfl (λv v2 w _ h1 h2=>lH h1 h2)
              iterate 12
               refine And.intro ?_ ?_
               · first
                 | exact iU rfl rfl (by kernel_rfl)
                 | exact KO rfl (by kernel_rfl) rfl rfl rfl rfl (by omega) (by omega)
                 | exact Nl rfl rfl (by kernel_rfl)
                 | exact iQ rfl (by kernel_rfl) rfl rfl rfl (λw=>wA w (by omega) (by omega))
                 | exact lq (kk:=.u32) rfl (by kernel_rfl) rfl rfl (λw hS=>hS.1.load (by omega))
                 | exact zF rfl (by kernel_rfl) rfl [.int .i64 7,.int .i64 18] (Ag rfl) (by decide) (λev w Kt=>by simp[execOp,Kt,go_sem])
                 | exact uT (s1:=.int .u32) (s2:=.prop nW) rfl (enters_of Tryz.func150 (by kernel_rfl) rfl) (by kernel_rfl) rfl rfl rfl (λv v2 w _ h1 h2=>lH h1 h2)
              exact trivial
            · intro a' wx hS hV hout next hn
              obtain⟨x,hx⟩:=hV 23 (.int .u32) 133 (by decide) rfl rfl;have e1:a'.eval (.tmp 134)=.pointer (some ⟨W0.heap.size,(i:Int).toNat,none⟩):=hV 24 _ 134 (by decide) rfl rfl;exact aY rfl e1 hx (l7 hS.1 (by omega) x) (hn _ _ ⟨hS.1.put _ x,hS.2.setCell (p:=⟨W0.heap.size,(i:Int).toNat,none⟩) zr _⟩)
            · intro ax wx oO
              simp only[pq,pz,pw];go_wp2_with fail;exact⟨⟨i+1,by omega,by omega,by go_num,oO.1,oO.2⟩,by simp only[intOf];omega⟩
           case neg =>
            obtain rfl:i=64:=by omega
            obtain⟨Y8,Jn,Bf,Jo⟩:=(hM.below hBl (by omega)).h;go_upto_region 24 with(first
             | ((with_reducible refine wpList_load_row (o:=⟨some 135,_,_,_,_,_⟩) (T:=231) (g:=w.heap.size+1) (c:=Y8) ?_ (.tmp 3) ?_ ?_ ?_ ?_);rfl;rfl;kernel_rfl;exact bT Jn Tryz.underlying231 (by rw[Bf];kernel_rfl))
             | ((with_reducible refine wpList_store_row (o:=⟨none,_,_,_,_,_⟩) (T:=231) (f:=0) (Y:=Y8) ?_ (.tmp 12) (.tmp 135) ?_ (heap_alloc_new _ _) ?_ ?_ ?_ ?_ ?_ ?_);rfl;rfl;kernel_rfl;kernel_rfl;(rw[Bf];kernel_rfl);(rw[Bf];decide);exact Jo.one))
            simp only[Act.put];generalize rC:World.setRow _ _ _=W5;have sy:Below wr.heap.size wr W5:=by
             rw[←rC];exact(cI _ _ _ _).2
            have Rk:Words W5 wr.heap.size 8 231:=by
             rw[←rC];refine⟨Y8,(cI _ _ _ _).1.trans (congrArg (λz=>some (Obj.cells z 231 (0,0))) ?_),Bf,Jo⟩;rw[List.take_zero,List.nil_append,List.drop_eq_nil_of_le (by rw[Array.length_toList,Bf];decide),List.append_nil,Array.toArray_toList]
            clear rC Jn Bf Jo;have L6:=tY.below sy zr;have Ln:=hBl.trans (aa sy hBl.size);have RZ:=tY.lt;generalize wr.heap.size=Wc at *;clear tY hBl sy;go_upto_region 25 with fail;go_loopw [136] (λy wx=>∃i:Nat,i≤64∧y=.int .i64 i∧Words wx W0.heap.size 64 232∧Words wx Wc 8 231∧Below W0.heap.size W0 wx) (λy _=>64 - (intOf y).toNat)
            case atStart=>exact⟨0,by omega,by go_num,L6,Rk,Ln⟩
            case round =>
             clear L6 Rk Ln;obtain⟨i,PV,rfl,tY,hC,hBl⟩:=hrel
             by_cases hlt:i<64
             case pos=>
              have hil:(i:Int)<64:=by omega
              go_upto_region 27 with fail;refine pE (d:=some 19) (D:=λ_=>True) (w:=wr) 17 [(12,vP Wc 0)] [vP Wc 0,.int .u32,vP Wc 1,.int .u32,vP Wc 2,.int .u32,vP Wc 4,.int .u32,vP Wc 5,.int .u32,vP Wc 6,.int .u32,.int .u32,.int .u32,.int .u32,.int .u32,.int .u32,.int .u32]
               (λw'=>Words w' W0.heap.size 64 232∧Words w' Wc 8 231∧Below W0.heap.size W0 w') (by kernel_rfl) rfl rfl
               (λw w' h hb=>⟨h.1.below hb zr,h.2.1.below hb zr,h.2.2.trans (aa hb h.2.2.size)⟩) ⟨tY,hC,hBl.drew⟩ ⟨rfl,trivial⟩ ?_ ?_
              · iterate 18
                 refine And.intro ?_ ?_
                 · first
                   | exact iU rfl rfl (by kernel_rfl)
                   | exact iQ rfl (by kernel_rfl) rfl rfl rfl (λw=>JP w (by decide) (by decide))
                   | exact lq (kk:=.u32) rfl (by kernel_rfl) rfl rfl (λw hS=>hS.2.1.load (by decide))
                exact trivial
              intro a v w7 DB _ hf Qw;obtain⟨SX,rfl⟩:=Qw;obtain⟨SR,Nx⟩:=hf 12 (.int .u32) 14 (by decide) rfl rfl;obtain⟨VG,Q4⟩:=hf 13 (.int .u32) 15 (by decide) rfl rfl;obtain⟨VH,h16⟩:=hf 14 (.int .u32) 16 (by decide) rfl rfl;obtain⟨SU,Q5⟩:=hf 15 (.int .u32) 17 (by decide) rfl rfl;obtain⟨SV,Q6⟩:=hf 16 (.int .u32) 18 (by decide) rfl rfl;simp only[pq,pz,pw];rw[Nx,Q4,h16,Q5,Q6];clear hf Nx Q4 h16 Q5 Q6 tY hBl hC;go_upto_region 28 with fail;refine pE (d:=some 20) (D:=λ_=>True) (w:=w7) 23 [(12,vP Wc 0),(17,.int .u32),(18,.int .u32),(19,.int .u32),(13,vI i),(4,vP kb 0),(7,vP W0.heap.size 0)] [vP Wc 7,.int .u32,.int .u32,.prop nW,.int .u32,.int .u32,.int .u32,.int .u32,.int .u32,.int .u32,.int .u32,.int .u32,.int .u32,.int .u32,.int .u32,vI i,vP kb (i:Int).toNat,.int .u32,.int .u32,vI i,vP W0.heap.size (i:Int).toNat,.int .u32,.int .u32,.int .u32]
               (λw'=>Words w' W0.heap.size 64 232∧Words w' Wc 8 231∧Below W0.heap.size W0 w') (by kernel_rfl) rfl rfl
               (λw w' h hb=>⟨h.1.below hb zr,h.2.1.below hb zr,h.2.2.trans (aa hb h.2.2.size)⟩) ⟨DB.1,DB.2.1,DB.2.2.drew⟩ ⟨rfl,⟨SU,rfl⟩,⟨SV,rfl⟩,⟨SX,rfl⟩,rfl,rfl,rfl,trivial⟩ ?_ ?_
              · iterate 24
                 refine And.intro ?_ ?_
                 · first
                   | exact iU rfl rfl (by kernel_rfl)
                   | exact Nl rfl rfl (by kernel_rfl)
                   | exact iQ rfl (by kernel_rfl) rfl rfl rfl (λw=>JP w (by decide) (by decide))
                   | exact iQ rfl (by kernel_rfl) rfl rfl rfl (λw=>wA w (by omega) (by omega))
                   | exact lq (a:=⟨Wc,_,none⟩) (kk:=.u32) rfl (by kernel_rfl) rfl rfl (λw hS=>hS.2.1.load (by decide))
                   | exact lq (a:=⟨kb,_,none⟩) (kk:=.u32) rfl (by kernel_rfl) rfl rfl (λw hS=>(hM.below hS.2.2 (by omega)).k.load (by omega))
                   | exact lq (a:=⟨W0.heap.size,_,none⟩) (kk:=.u32) rfl (by kernel_rfl) rfl rfl (λw hS=>hS.1.load (by omega))
                   | exact zF rfl (by kernel_rfl) rfl [.int .i64 6,.int .i64 11,.int .i64 25] (Ag rfl) (by decide) (λev w Kt=>by simp[execOp,Kt,go_sem])
                   | exact uT (s1:=.int .u32) (s2:=.prop nW) rfl (enters_of Tryz.func150 (by kernel_rfl) rfl) (by kernel_rfl) rfl rfl rfl (λv v2 w _ h1 h2=>lH h1 h2)
                exact trivial
              intro a2 v w8 DD _ _ Qx;obtain⟨SY,rfl⟩:=Qx;simp only[pq,pz,pw];clear DB;have HT:=tu (D:=λ_=>True) (cs:=[.int .i64 2,.int .i64 13,.int .i64 22]) SR (.slice (some ⟨w8.heap.size,0,none⟩) 3 3) (w8.alloc (.cells #[.int .i64 2,.int .i64 13,.int .i64 22] 3)) (CV.new rfl trivial [.int .i64 2,.int .i64 13,.int .i64 22] 3 (0,0) (by unfold maxLen;decide)) (Ag rfl) (by decide);have kM:=(zb w8).alloc zr (.cells #[.int .i64 2,.int .i64 13,.int .i64 22] 3);have Jk:=DD.1.below kM zr;have NF:=DD.2.1.below kM zr;have I8:=DD.2.2.trans (aa kM DD.2.2.size);clear kM DD;generalize L4:w8.alloc (.cells #[.int .i64 2,.int .i64 13,.int .i64 22] 3)=W9 at Jk NF I8 HT;go_upto_region 30 with(go_at_call 150;refine HT.mono ?_;clear HT;rintro e w9 ⟨⟨VI,rfl⟩,rfl⟩);clear L4;obtain⟨Yc,k1,k2,k3⟩:=id NF;obtain⟨x3,hx3⟩:=k3.get (j:=3) (by rw[Array.length_toList,k2];decide);have Ti:w9.cell? ⟨Wc,3,none⟩=some (.int .u32 x3):=(af k1 3).trans (by rw[←Array.getElem?_toList];exact hx3);have hdr:List.drop 8 Yc.toList=[]:=List.drop_eq_nil_of_le (by rw[Array.length_toList,k2];exact nl _);clear hx3;generalize (VI+_) % 4294967296=z21;go_upto_region 31 with((with_reducible refine wpList_store_row (o:=⟨none,_,_,_,_,_⟩) (T:=231) (f:=0) (Y:= #[.int .u32 ((SY+z21) % 4294967296),.int .u32 SR,.int .u32 VG,.int .u32 VH,.int .u32 ((x3+SY) % 4294967296),.int .u32 SU,.int .u32 SV,.int .u32 SX]) ?_ (.tmp 12) (.tmp 202) ?_ k1 ?_ ?_ ?_ ?_ ?_ ?_);rfl;rfl;kernel_rfl;kernel_rfl;kernel_rfl;(show 0+8≤Yc.size;rw[k2];exact nl _);exact(List.all_eq_true.1 (by kernel_rfl)));generalize Gb:World.setRow _ _ _=W10;have OO:Words W10 Wc 8 231:=by
               rw[←Gb];refine NF.row _ (by simp[hdr]) ?_;simp[hdr];exact Af rfl
              have L5:Words W10 W0.heap.size 64 232:=by
               rw[←Gb];exact Jk.EU (Nat.ne_of_lt RZ) _
              have Lm:Below W0.heap.size W0 W10:=by
               rw[←Gb];exact below_setRow I8 (Nat.le_of_lt RZ) _
              clear Gb NF Jk I8 k1 k2 k3 Ti hdr;go_wp2_with fail;exact⟨⟨i+1,by omega,by go_num,L5,OO,Lm⟩,by simp only[intOf];omega⟩
             case neg =>
              obtain rfl:i=64:=by omega
              go_upto_region 33 with fail;have RF:=hM.below hBl (by omega);have Lt:=xP.below hBl zr;have RN:O≤wr.heap.size:=Nat.le_trans hO hBl.size;have hkn:=hM.QH;have Wg:=hO;clear hM xP hO tY hBl;go_loopw [204] (λy wx=>∃i:Nat,i≤8∧y=.int .i64 i∧lD w wx w.heap.size kb∧CV (λb=>O≤b) wx (.slice (some ⟨b0,o0,none⟩) N c3) xs∧Words wx Wc 8 231∧O≤wx.heap.size) (λy _=>8 - (intOf y).toNat)
              case atStart=>exact⟨0,by omega,by go_num,RF,Lt,hC,RN⟩
              case round =>
               clear RF Lt hC RN;obtain⟨i,UG,rfl,hM,xP,hC,hO⟩:=hrel
               by_cases hlt:i<8
               case pos=>
                have hil:(i:Int)<8:=by omega
                go_upto_region 35 with fail;refine cF (D:=λ_=>True) (w:=wr) 8 [(22,vI i),(3,vP (w.heap.size+1) 0),(12,vP Wc 0)] [vI i,vP (w.heap.size+1) (i:Int).toNat,.int .u32,vI i,vP Wc (i:Int).toNat,.int .u32,.int .u32,vP (w.heap.size+1) (i:Int).toNat]
                 (λw'=>lD w w' w.heap.size kb∧CV (λb=>O≤b) w' (.slice (some ⟨b0,o0,none⟩) N c3) xs∧Words w' Wc 8 231∧O≤w'.heap.size) (λw'=>lD w w' w.heap.size kb∧CV (λb=>O≤b) w' (.slice (some ⟨b0,o0,none⟩) N c3) xs∧Words w' Wc 8 231∧O≤w'.heap.size) (by kernel_rfl) rfl rfl
                 (λw w' h hb=>⟨h.1.below hb (Nat.lt_of_lt_of_le hkb h.2.2.2),h.2.1.below hb zr,h.2.2.1.below hb zr,Nat.le_trans h.2.2.2 hb.size⟩) ⟨hM.below (zb wr).drew (Nat.lt_of_lt_of_le hkb hO),xP.below (zb wr).drew zr,hC,hO⟩ ⟨rfl,rfl,rfl,trivial⟩ ?_ ?_ ?_
                · iterate 8
                   refine And.intro ?_ ?_
                   · first
                     | exact iU rfl rfl (by kernel_rfl)
                     | exact Nl rfl rfl (by kernel_rfl)
                     | exact iQ rfl (by kernel_rfl) rfl rfl rfl (λw=>JP w (by omega) (by omega))
                     | exact lq (a:=⟨Wc,_,none⟩) (kk:=.u32) rfl (by kernel_rfl) rfl rfl (λw hS=>hS.2.2.1.load (by omega))
                     | exact lq (a:=⟨w.heap.size+1,_,none⟩) (kk:=.u32) rfl (by kernel_rfl) rfl rfl (λw hS=>hS.1.h.load (by omega))
                  exact trivial
                · intro a' wx hS hV hout next hn
                  obtain⟨x,hx⟩:=hV 6 (.int .u32) 213 (by decide) rfl rfl;have e1:a'.eval (.tmp 214)=.pointer (some ⟨w.heap.size+1,(i:Int).toNat,none⟩):=hV 7 _ 214 (by decide) rfl rfl;exact aY rfl e1 hx (l7 hS.1.h (by omega) x) (hn _ _ ⟨hS.1.put _ x,hS.2.1.set (a:=⟨w.heap.size+1,(i:Int).toNat,none⟩) (λb hb e=>by have e:b=w.heap.size+1:=e;omega) _,hS.2.2.1.other (by omega) _,by simpa[World.setCell] using hS.2.2.2⟩)
                · intro ax wx oO
                  simp only[pq,pz,pw];go_wp2_with fail;exact⟨⟨i+1,by omega,by go_num,oO.1,oO.2.1,oO.2.2.1,oO.2.2.2⟩,by simp only[intOf];omega⟩
               case neg=>
                have UW:=ow.out;have MH:=hcut.out _ _ xs hxl.out xP;have MX:=hxl.out;have Wd:=hN.out;clear xP hC;go_wp2_with fail;exact⟨⟨r,xs.drop 64,by omega,(λu hu=>Ef u (List.mem_of_mem_drop hu)),by rw[List.length_drop,MX];omega,MH,hM,hO⟩,by simp only[GB];omega⟩
end Go.Proofs.YtemjidmkolfgnaaGreatDoor
