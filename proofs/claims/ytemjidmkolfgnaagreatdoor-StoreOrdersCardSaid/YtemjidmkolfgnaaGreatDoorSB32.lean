/-
  Lemmas for the statement: contracts of the package store: (*library).drop, (*library).put. Conditions: bounds of lengths; the variable strings.asciiSpace.
-/
import Derived.Lib.SlBytesConst
import Derived.Test.YtemjidmkolfgnaaGreatDoorSBn
import Derived.Test.YtemjidmkolfgnaaGreatDoorSB31
set_option maxHeartbeats 12800000
namespace Go.Proofs.YtemjidmkolfgnaaGreatDoor
section
open Go Go.RowKit
theorem JS (l:List UInt8) (h:l.length=32):∃d0 d1 d2 d3 d4 d5 d6 d7 d8 d9 d10 d11 d12 d13 d14 d15 d16 d17 d18 d19 d20 d21 d22 d23 d24 d25 d26 d27 d28 d29 d30 d31,l=[d0,d1,d2,d3,d4,d5,d6,d7,d8,d9,d10,d11,d12,d13,d14,d15,d16,d17,d18,d19,d20,d21,d22,d23,d24,d25,d26,d27,d28,d29,d30,d31]:=by
 rcases l with _|⟨d0,l⟩
 · simp at h
 rcases l with _|⟨d1,l⟩
 · simp at h
 rcases l with _|⟨d2,l⟩
 · simp at h
 rcases l with _|⟨d3,l⟩
 · simp at h
 rcases l with _|⟨d4,l⟩
 · simp at h
 rcases l with _|⟨d5,l⟩
 · simp at h
 rcases l with _|⟨d6,l⟩
 · simp at h
 rcases l with _|⟨d7,l⟩
 · simp at h
 rcases l with _|⟨d8,l⟩
 · simp at h
 rcases l with _|⟨d9,l⟩
 · simp at h
 rcases l with _|⟨d10,l⟩
 · simp at h
 rcases l with _|⟨d11,l⟩
 · simp at h
 rcases l with _|⟨d12,l⟩
 · simp at h
 rcases l with _|⟨d13,l⟩
 · simp at h
 rcases l with _|⟨d14,l⟩
 · simp at h
 rcases l with _|⟨d15,l⟩
 · simp at h
 rcases l with _|⟨d16,l⟩
 · simp at h
 rcases l with _|⟨d17,l⟩
 · simp at h
 rcases l with _|⟨d18,l⟩
 · simp at h
 rcases l with _|⟨d19,l⟩
 · simp at h
 rcases l with _|⟨d20,l⟩
 · simp at h
 rcases l with _|⟨d21,l⟩
 · simp at h
 rcases l with _|⟨d22,l⟩
 · simp at h
 rcases l with _|⟨d23,l⟩
 · simp at h
 rcases l with _|⟨d24,l⟩
 · simp at h
 rcases l with _|⟨d25,l⟩
 · simp at h
 rcases l with _|⟨d26,l⟩
 · simp at h
 rcases l with _|⟨d27,l⟩
 · simp at h
 rcases l with _|⟨d28,l⟩
 · simp at h
 rcases l with _|⟨d29,l⟩
 · simp at h
 rcases l with _|⟨d30,l⟩
 · simp at h
 rcases l with _|⟨d31,l⟩
 · simp at h
 obtain rfl:l=[]:=by
  simp at h;exact h
 exact⟨_,_,_,_,_,_,_,_,_,_,_,_,_,_,_,_,_,_,_,_,_,_,_,_,_,_,_,_,_,_,_,_,rfl⟩
theorem AW (a:Nat) (ds:List UInt8) (h:ds.length=32) (w:World):(Instr.build 198 #[(0,.pointer (some ⟨a,0,none⟩)),(2,.agg (aH ds).toArray)]).run Tryz.prog w=.ok (.agg (fZ a ⟨0,ds,false⟩)) w:=by
 obtain⟨d0,d1,d2,d3,d4,d5,d6,d7,d8,d9,d10,d11,d12,d13,d14,d15,d16,d17,d18,d19,d20,d21,d22,d23,d24,d25,d26,d27,d28,d29,d30,d31,rfl⟩:=JS ds h
 exact run_build _ _ _ _ (by kernel_rfl)
theorem uY {P:Program} {ops:Array Oper} {rest:List Oper} {o:Oper} {a:Act} {w w':World} {Q:Exit→Act→World→Prop} (hgd:o.guard=none) {v:Value} (hr:(execOp a.eval o).run P w=.ok (.value v) w') (h:wpList P ops Q rest (a.put o.dst v) w'):wpList P ops Q (o::rest) a w:=
 wpList_plain hgd λ_ hK=>aR hr (hK _ _ h)
theorem AR (a:Nat) (w:World):Calls Tryz.prog 72 #[.pointer (some ⟨a,0,none⟩)] w λe w'=>(∃lg ds,e=.returned (.pointer (some ⟨lg,0,none⟩))∧jH w' lg a ⟨0,ds,false⟩∧w.heap.size≤lg)∧Below w.heap.size w w':=by
 have kc:=λ(w:World) (C:Array Value) (n c:Nat)=>Lib.run_convert_bytes_const (P:=Tryz.prog) w 38 5 C n c Tryz.underlying38 Tryz.underlying5
 have hA:=(zb w).alloc zr (.cells #[.int .u8 97,.int .u8 114,.int .u8 103,.int .u8 117,.int .u8 115] 5 (5,6))
 have hcv:=CV.block (w:=w.alloc (.cells #[.int .u8 97,.int .u8 114,.int .u8 103,.int .u8 117,.int .u8 115] 5 (5,6))) (g:=w.heap.size) (cs:=[.int .u8 97,.int .u8 114,.int .u8 103,.int .u8 117,.int .u8 115]) (t:=5) (z:=(5,6)) (heap_alloc_new w _) (by decide)
 have HS:=AD _ _ _ hcv (λu hu=>by simp at hu;rcases hu with rfl|rfl|rfl|rfl|rfl<;>exact⟨_,rfl⟩) (by decide)
 go_enter Tryz.func72,Tryz.ntmps72
 go_wp2_with (first
  | (go_at_call 114;refine HS.mono ?_;clear HS;rintro e w1 ⟨⟨ds,rfl,hd⟩,aP⟩)
  | ((with_reducible refine uY (o:=⟨some 7,_,_,_,_,_⟩) (v:=.agg (fZ a ⟨0,ds,false⟩)) (w':=w1) ?_ ?_ ?_);rfl;(unfold execOp;simp[Act.eval,AW a ds hd])))
 go_ret
 have hz:=hA.trans (aa aP hA.size)
 exact⟨⟨_,ds,rfl,⟨heap_alloc_new _ _,hd⟩,hz.size⟩,hz.alloc hz.size _⟩
set_option maxRecDepth 8000 in
theorem EA {B lg a b1 b2:Nat} {pv:Value} {S:dc} {ds:List UInt8} (w:World) (hL:jH w lg a ⟨0,ds,false⟩) (hD:bw B w a b1 b2 pv S) (hz:S.now=List.replicate (S.n * 64) 0):
 Calls Tryz.prog 73 #[.pointer (some ⟨lg,0,none⟩)] w λe w'=>e=.returned (.tuple #[str [],.bool false])∧Below w.heap.size w w':=by
 have hlc:=hL.cells
 have bm:=(lG hD.head).1
 have UO:=hD.hn
 have oN:(aH ds).toArray.size=32:=by simp[ak,hL.len]
 have Bk:=run_loadAt_mid (P:=Tryz.prog) w lg 2 195 (aH ds) _ (λj v hj=>(af hL.head (2+j)).trans (wS a ⟨0,ds,false⟩ hj)) Tryz.underlying195 rfl (by rw[ak,hL.len];kernel_rfl)
 go_enter Tryz.func73,Tryz.ntmps73
 go_upto_region 3 with(first
  | ((with_reducible refine lz (o:=⟨some 15,_,_,_,_,_⟩) (T:=195) (p:=.pointer (some ⟨lg,2,none⟩)) (c:=(aH ds).toArray) ?_ (.tmp 14) ?_ ?_ ?_ ?_);rfl;rfl;kernel_rfl;exact Bk)
  | ((with_reducible refine wpList_store_row (o:=⟨none,_,_,_,_,_⟩) (T:=195) (f:=0) (Y:=(aH ds).toArray) ?_ (.tmp 5) (.tmp 15) ?_ (heap_alloc_new _ _) ?_ ?_ ?_ ?_ ?_ ?_);rfl;rfl;kernel_rfl;kernel_rfl;(rw[oN];kernel_rfl);(rw[oN];decide);exact(bF.u8 ds).one))
 simp only[Act.put]
 generalize rC:World.setRow _ _ _=W5
 have sy:Below w.heap.size w W5:=by
  rw[←rC];exact(cI _ _ _ _).2
 clear rC Bk hlc bm
 have CE:=hL.below sy zr
 have yl:=hD.below sy zr
 clear hL hD
 have hlc:=CE.cells
 have bm:=(lG yl.head).1
 have hn0:(0:Int)<(S.n:Int):=by omega
 have hz0:∀(j:Nat) (v:Value),(aH (List.replicate 64 0))[j]? =some v→((va0 S).toArray)[0+j]? =some v:=λj v hj=>by
  have hj2:=(List.getElem?_eq_some_iff.1 hj).1;rw[ak,List.length_replicate] at hj2;unfold va0;rw[Nat.zero_add,List.getElem?_toArray,List.getElem?_append_left (by rw[ak,hz,List.length_replicate];omega),hz];rw[jo] at hj ⊢;rw[List.getElem?_replicate,if_pos hj2] at hj;rw[List.getElem?_replicate,if_pos (by omega)];exact hj
 go_upto_region 5 with fail
 go_loopw [6] (λy wx=>y=.int .i64 0∧wx=W5) (λ_ _=>0)
 case atStart=>exact⟨rfl,rfl⟩
 case round =>
  obtain⟨rfl,rfl⟩:=hrel;go_upto_region 5 with fail;have UE:¬((S.n:Int)≤0):=by omega
  refine u5 (D:=λ_=>True) (w:=wr) (d:=some 32) 14 [(0,vP lg 0),(6,vI 0)] [vP lg 0,vP lg 0,vP lg 1,vI 0,vI 0,vI 0,vP lg 0,vP lg 0,vP lg 0,vP a 0,vP a 0,vP a 1,.eq (.slice (some ⟨b2,0,none⟩) S.n S.nc),vI S.n,vN]
   (λw'=>Below wr.heap.size wr w') (by kernel_rfl) rfl rfl (λ_ _ h hb=>h.trans (aa hb h.size)) (zb wr).drew ⟨rfl,rfl,trivial⟩ ?_ ?_
  · refine⟨iU rfl rfl (by kernel_rfl),ic rfl (by kernel_rfl) rfl rfl,?_,?_,iU rfl rfl (by kernel_rfl),?_,iU rfl rfl (by kernel_rfl),ic rfl (by kernel_rfl) rfl rfl,?_,?_,ic rfl (by kernel_rfl) rfl rfl,?_,?_,?_,?_,trivial⟩
    · exact gQ rfl (by kernel_rfl) rfl rfl (λw=>by simp[go_sem])
    · exact dV rfl (by kernel_rfl) rfl rfl (λw hS=>by have:=(CE.below hS zr).cells;simp[go_sem,this])
    · exact KO rfl (by kernel_rfl) rfl rfl rfl rfl (by decide) (by decide)
    · exact gQ rfl (by kernel_rfl) rfl rfl (λw=>by simp[go_sem])
    · exact dV rfl (by kernel_rfl) rfl rfl (λw hS=>by have:=(CE.below hS zr).cells;simp[go_sem,this])
    · exact gQ rfl (by kernel_rfl) rfl rfl (λw=>by simp[go_sem])
    · exact dV rfl (by kernel_rfl) rfl rfl (λw hS=>by have:=(lG (yl.below hS zr).head).1;simp[go_sem,this])
    · exact td rfl (by kernel_rfl) (by kernel_rfl) rfl rfl
    · exact gJ rfl (by kernel_rfl) rfl rfl rfl (λw=>by simp[go_sem];omega)
  intro av W6 DA _ _;simp only[pq,pz,pw];generalize av.tmps.getD 18 undef=q18;generalize av.tmps.getD 19 undef=q19;generalize av.tmps.getD 20 undef=q20;generalize av.tmps.getD 21 undef=q21;generalize av.tmps.getD 22 undef=q22;generalize av.tmps.getD 23 undef=q23;generalize av.tmps.getD 24 undef=q24;generalize av.tmps.getD 25 undef=q25;generalize av.tmps.getD 26 undef=q26;generalize av.tmps.getD 27 undef=q27;generalize av.tmps.getD 28 undef=q28;generalize av.tmps.getD 29 undef=q29;generalize av.tmps.getD 30 undef=q30;generalize av.tmps.getD 31 undef=q31
  replace CE:=CE.below DA zr
  replace yl:=yl.below DA zr
  replace sy:=sy.trans (aa DA sy.size)
  clear DA hlc bm UE;generalize W6=wr at *;go_upto_region 7 with fail;refine eC (w:=wr) (d:=none) (λ_ w w'=>Below w.heap.size w w') bP 16
   [λv _=>v=.pointer (some ⟨lg,0,none⟩),λv _=>v=.pointer (some ⟨lg,0,none⟩),λv _=>v=.pointer (some ⟨lg,0,none⟩),λv _=>v=.pointer (some ⟨a,0,none⟩),λv _=>v=.pointer (some ⟨a,0,none⟩),λv _=>v=.pointer (some ⟨a,1,none⟩),λv _=>v=.slice (some ⟨b2,0,none⟩) S.n S.nc,λv _=>v=.pointer (some ⟨lg,0,none⟩),λv _=>v=.pointer (some ⟨lg,0,none⟩),λv _=>v=.pointer (some ⟨lg,1,none⟩),λv _=>v=.int .i64 0,λv _=>v=.int .i64 0,λv _=>v=.int .i64 0,λv _=>v=.pointer (some ⟨b2,0,none⟩),λv _=>v=.agg (aH (List.replicate 64 0)).toArray,λv w'=>∃(g:Nat) (cs:Array Value),v=.pointer (some ⟨g,0,none⟩)∧wr.heap.size≤g∧cs.size=64∧w'.heap[g]? =some (.cells cs 145 (0,0))]
   (λw'=>Below wr.heap.size wr w') (λa w'=>∃g:Nat,a.tmps.getD 7 undef=.pointer (some ⟨g,0,none⟩)∧wr.heap.size≤g∧w'.heap[g]? =some (.cells (aH (List.replicate 64 0)).toArray 145 (0,0))∧Below wr.heap.size wr w')
   (by kernel_rfl) rfl rfl ?_ ?_ (zb wr).drew ⟨?_,?_,?_,?_,?_,?_,?_,?_,?_,?_,?_,?_,?_,?_,?_,?_,trivial⟩ ?_ ?_
  · intro i j F hF hij hl v w1 w2 h hr
    rcases j with _|_|_|_|_|_|_|_|_|_|_|_|_|_|_|_|j
    · cases hF;exact h
    · cases hF;exact h
    · cases hF;exact h
    · cases hF;exact h
    · cases hF;exact h
    · cases hF;exact h
    · cases hF;exact h
    · cases hF;exact h
    · cases hF;exact h
    · cases hF;exact h
    · cases hF;exact h
    · cases hF;exact h
    · cases hF;exact h
    · cases hF;exact h
    · cases hF;exact h
    · cases hF
      obtain⟨g,cs,k1,k2,k3,k4⟩:=h;exact⟨g,cs,k1,k2,k3,ag k4 hr⟩
    · cases hF
  · intro i w1 w2 h hr
    exact h.trans (aa hr h.size)
  · intro a' wx hS hd ho next hnx
    have e:a'.eval (.tmp 0)=.pointer (some ⟨lg,0,none⟩):=(ho 0 (dZ (by kernel_rfl))).trans rfl;exact aR (v:=.pointer (some ⟨lg,0,none⟩)) (by unfold execOp;simp only[e];simp[go_sem]) (hnx _ _ (aM rfl rfl) (zb _))
  · intro a' wx hS hd ho next hnx
    have e:=fA hd 0 (by kernel_rfl) rfl (λk e=>by simp[bP] at e) rfl;exact aR (v:=.pointer (some ⟨lg,0,none⟩)) (by unfold execOp;simp only[e];simp[go_sem]) (hnx _ _ (aM rfl rfl) (zb _))
  · intro a' wx hS hd ho next hnx
    have e:=fA hd 1 (by kernel_rfl) rfl (λk e=>by simp[bP] at e) rfl;exact aR (v:=.pointer (some ⟨lg,0,none⟩)) (by unfold execOp;simp only[e];simp[go_sem]) (hnx _ _ (aM rfl rfl) (zb _))
  · intro a' wx hS hd ho next hnx
    have e:=fA hd 2 (by kernel_rfl) rfl (λk e=>by simp[bP] at e) rfl;have c:=(CE.below hS zr).cells;exact aR (v:=.pointer (some ⟨a,0,none⟩)) (by unfold execOp;simp only[e];simp[go_sem,c]) (hnx _ _ (aM rfl rfl) (zb _))
  · intro a' wx hS hd ho next hnx
    have e:=fA hd 3 (by kernel_rfl) rfl (λk e=>by simp[bP] at e) rfl;exact aR (v:=.pointer (some ⟨a,0,none⟩)) (by unfold execOp;simp only[e];simp[go_sem]) (hnx _ _ (aM rfl rfl) (zb _))
  · intro a' wx hS hd ho next hnx
    have e:=fA hd 4 (by kernel_rfl) rfl (λk e=>by simp[bP] at e) rfl;exact aR (v:=.pointer (some ⟨a,1,none⟩)) (by unfold execOp;simp only[e];simp[go_sem]) (hnx _ _ (aM rfl rfl) (zb _))
  · intro a' wx hS hd ho next hnx
    have e:=fA hd 5 (by kernel_rfl) rfl (λk e=>by simp[bP] at e) rfl;have c:=(lG (yl.below hS zr).head).1;exact aR (v:=.slice (some ⟨b2,0,none⟩) S.n S.nc) (by unfold execOp;simp only[e];simp[go_sem,c]) (hnx _ _ (aM rfl rfl) (zb _))
  · intro a' wx hS hd ho next hnx
    have e:a'.eval (.tmp 0)=.pointer (some ⟨lg,0,none⟩):=(ho 0 (dZ (by kernel_rfl))).trans rfl;exact aR (v:=.pointer (some ⟨lg,0,none⟩)) (by unfold execOp;simp only[e];simp[go_sem]) (hnx _ _ (aM rfl rfl) (zb _))
  · intro a' wx hS hd ho next hnx
    have e:=fA hd 7 (by kernel_rfl) rfl (λk e=>by simp[bP] at e) rfl;exact aR (v:=.pointer (some ⟨lg,0,none⟩)) (by unfold execOp;simp only[e];simp[go_sem]) (hnx _ _ (aM rfl rfl) (zb _))
  · intro a' wx hS hd ho next hnx
    have e:=fA hd 8 (by kernel_rfl) rfl (λk e=>by simp[bP] at e) rfl;exact aR (v:=.pointer (some ⟨lg,1,none⟩)) (by unfold execOp;simp only[e];simp[go_sem]) (hnx _ _ (aM rfl rfl) (zb _))
  · intro a' wx hS hd ho next hnx
    have e:=fA hd 9 (by kernel_rfl) rfl (λk e=>by simp[bP] at e) rfl;have c:=(CE.below hS zr).cells;exact aR (v:=.int .i64 0) (by unfold execOp;simp only[e];simp[go_sem,c]) (hnx _ _ (aM rfl rfl) (zb _))
  · intro a' wx hS hd ho next hnx
    have e:a'.eval (.tmp 6)=.int .i64 0:=(ho 6 (dZ (by kernel_rfl))).trans rfl;exact aR (v:=.int .i64 0) (by unfold execOp;simp only[e];simp[go_sem]) (hnx _ _ (aM rfl rfl) (zb _))
  · intro a' wx hS hd ho next hnx
    have e:=fA hd 10 (by kernel_rfl) rfl (λk e=>by simp[bP] at e) rfl;have e2:=fA hd 11 (by kernel_rfl) rfl (λk e=>by simp[bP] at e) rfl;exact aR (v:=.int .i64 0) (by unfold execOp;simp only[e,e2];simp[go_sem,IntKind.wrap,IntKind.bits,IntKind.signed]) (hnx _ _ (aM rfl rfl) (zb _))
  · intro a' wx hS hd ho next hnx
    have e:=fA hd 6 (by kernel_rfl) rfl (λk e=>by simp[bP] at e) rfl;have e2:=fA hd 12 (by kernel_rfl) rfl (λk e=>by simp[bP] at e) rfl;exact aR (v:=.pointer (some ⟨b2,0,none⟩)) (by unfold execOp;simp only[e,e2];simp[go_sem];intro h;omega) (hnx _ _ (aM rfl rfl) (zb _))
  · intro a' wx hS hd ho next hnx
    have e:=fA hd 13 (by kernel_rfl) rfl (λk e=>by simp[bP] at e) rfl;have hl:=run_loadAt_mid (P:=Tryz.prog) wx b2 0 145 (aH (List.replicate 64 0)) _ (λj v hj=>(af (yl.below hS zr).now (0+j)).trans (hz0 j v hj)) Tryz.underlying145 rfl (by kernel_rfl);exact aR (v:=.agg (aH (List.replicate 64 0)).toArray) (by unfold execOp;simp only[e,hl,Sem.run_bind,Result.andThen_ok,Sem.run_pure]) (hnx _ _ (aM rfl rfl) (zb _))
  · intro a' wx hS hd ho next hnx
    exact aR (v:=.pointer (some ⟨wx.heap.size,0,none⟩)) (w':=wx.alloc (.cells (aH (List.replicate 64 0)).toArray 145)) (by kernel_rfl) (hnx _ _ (aM rfl ⟨wx.heap.size,(aH (List.replicate 64 0)).toArray,rfl,hS.size,rfl,heap_alloc_new _ _⟩) ((zb wx).alloc zr _))
  · intro a' wx hS hV hout next hnx
    have Tq:=hV 14 _ 47 (by decide) rfl rfl rfl;obtain⟨g,cs,e7,hg,hcs,hblk⟩:=hV 15 _ 7 (by decide) rfl rfl rfl;refine aY rfl e7 Tq (bK (o:=0) hblk (by kernel_rfl) (by rw[hcs];decide) (bF.u8 (List.replicate 64 0)).one) (hnx _ _ ⟨g,e7,hg,(setRow_heap _ _ _ _ _ _ hblk).trans (congrArg (λz=>some (Obj.cells z 145 (0,0))) ?_),below_setRow hS hg _⟩);rw[List.take_zero,List.nil_append,List.drop_eq_nil_of_le (by rw[Array.length_toList,hcs];decide),List.append_nil]
  intro a2 u7 W7 DB;obtain⟨g,e7,hg,hblk,Ho⟩:=DB;simp only[pq,pz,pw];rw[e7];generalize a2.tmps.getD 33 undef=q33;generalize a2.tmps.getD 34 undef=q34;generalize a2.tmps.getD 35 undef=q35;generalize a2.tmps.getD 36 undef=q36;generalize a2.tmps.getD 37 undef=q37;generalize a2.tmps.getD 38 undef=q38;generalize a2.tmps.getD 39 undef=q39;generalize a2.tmps.getD 40 undef=q40;generalize a2.tmps.getD 41 undef=q41;generalize a2.tmps.getD 42 undef=q42;generalize a2.tmps.getD 43 undef=q43;generalize a2.tmps.getD 44 undef=q44;generalize a2.tmps.getD 45 undef=q45;generalize a2.tmps.getD 46 undef=q46;generalize a2.tmps.getD 47 undef=q47;clear e7;have Ku:=sy.trans (aa Ho sy.size);clear CE yl Ho;go_upto_region 9 with fail;have hby:∀(k:Nat) (w':World),k<64→w'.heap[g]? =some (.cells (aH (List.replicate 64 0)).toArray 145 (0,0))→w'.cell? ⟨g,k,none⟩=some (.int .u8 0):=λk w' hk h=>by
   refine(af h k).trans ?_;rw[List.getElem?_toArray,jo,List.getElem?_replicate,if_pos hk]
   rfl
  refine pE (D:=λ_=>True) (w:=W7) (d:=some 10) 15 [(8,.eq (.slice (some ⟨g,32,none⟩) 5 32))] [.eq (.slice (some ⟨g,32,none⟩) 5 32),vP g 34,(.eq (.int .u8 0):VS),vI 0,vI 0,.eq (.slice (some ⟨g,32,none⟩) 5 32),vP g 35,(.eq (.int .u8 0):VS),vI 0,vI 0,.eq (.slice (some ⟨g,32,none⟩) 5 32),vP g 36,(.eq (.int .u8 0):VS),vI 0,vI 0,vI 0]
   (λw'=>Below W7.heap.size W7 w') (by kernel_rfl) rfl rfl (λ_ _ h hb=>h.trans (aa hb h.size)) (zb W7).drew ⟨rfl,trivial⟩ ?_ ?_
  · refine⟨?_,?_,?_,?_,?_,?_,?_,?_,?_,?_,?_,?_,?_,?_,?_,?_,trivial⟩
    · exact iU rfl rfl (by kernel_rfl)
    · exact iQ rfl (by kernel_rfl) rfl rfl rfl (λw=>by simp[go_sem])
    · exact dV rfl (by kernel_rfl) rfl rfl (λw hS=>by simp[go_sem,hby 34 w (by decide) ((hS.block _ (aj hblk)).trans hblk)])
    · exact qM (.tmp 51) (by kernel_rfl) rfl rfl (λev w hS h1=>by unfold execOp;simp only[h1];rfl)
    · exact gJ rfl (by kernel_rfl) rfl rfl rfl (λw=>rfl)
    · exact iU rfl rfl (by kernel_rfl)
    · exact iQ rfl (by kernel_rfl) rfl rfl rfl (λw=>by simp[go_sem])
    · exact dV rfl (by kernel_rfl) rfl rfl (λw hS=>by simp[go_sem,hby 35 w (by decide) ((hS.block _ (aj hblk)).trans hblk)])
    · exact qM (.tmp 56) (by kernel_rfl) rfl rfl (λev w hS h1=>by unfold execOp;simp only[h1];rfl)
    · exact gJ rfl (by kernel_rfl) rfl rfl rfl (λw=>rfl)
    · exact iU rfl rfl (by kernel_rfl)
    · exact iQ rfl (by kernel_rfl) rfl rfl rfl (λw=>by simp[go_sem])
    · exact dV rfl (by kernel_rfl) rfl rfl (λw hS=>by simp[go_sem,hby 36 w (by decide) ((hS.block _ (aj hblk)).trans hblk)])
    · exact qM (.tmp 61) (by kernel_rfl) rfl rfl (λev w hS h1=>by unfold execOp;simp only[h1];rfl)
    · exact iU rfl rfl (by kernel_rfl)
    · exact iU rfl rfl (by kernel_rfl)
  intro a3 v10 W8 DD _ hf Gk;obtain rfl:v10=.int .i64 0:=Gk;have h9:a3.tmps.getD 9 undef=.int .i64 0:=hf 14 _ 9 (by decide) rfl rfl;simp only[pq,pz,pw];rw[h9];clear hf h9;generalize a3.tmps.getD 49 undef=q49;generalize a3.tmps.getD 50 undef=q50;generalize a3.tmps.getD 51 undef=q51;generalize a3.tmps.getD 52 undef=q52;generalize a3.tmps.getD 53 undef=q53;generalize a3.tmps.getD 54 undef=q54;generalize a3.tmps.getD 55 undef=q55;generalize a3.tmps.getD 56 undef=q56;generalize a3.tmps.getD 57 undef=q57;generalize a3.tmps.getD 58 undef=q58;generalize a3.tmps.getD 59 undef=q59;generalize a3.tmps.getD 60 undef=q60;generalize a3.tmps.getD 61 undef=q61;generalize a3.tmps.getD 62 undef=q62
  replace hblk:=ag hblk DD
  replace Ku:=Ku.trans (aa DD Ku.size)
  clear DD;go_upto_region 10 with fail;refine u5 (D:=λ_=>True) (w:=W8) (d:=some 83) 20 [(8,.eq (.slice (some ⟨g,32,none⟩) 5 32)),(6,vI 0),(9,vI 0),(10,vI 0)] [.eq (.slice (some ⟨g,32,none⟩) 5 32),vP g 32,(.eq (.int .u8 0):VS),vI 0,vI 0,.eq (.slice (some ⟨g,32,none⟩) 5 32),vP g 33,(.eq (.int .u8 0):VS),vI 0,vI 0,vI 0,vN,vN,vI 0,vI 0,vY,vY,vY,vK,vK,vY]
   (λw'=>Below W8.heap.size W8 w') (by kernel_rfl) rfl rfl (λ_ _ h hb=>h.trans (aa hb h.size)) (zb W8).drew ⟨rfl,rfl,rfl,rfl,trivial⟩ ?_ ?_
  · refine⟨?_,?_,?_,?_,?_,?_,?_,?_,?_,?_,?_,?_,?_,?_,?_,?_,?_,?_,?_,?_,?_,trivial⟩
    · exact iU rfl rfl (by kernel_rfl)
    · exact iQ rfl (by kernel_rfl) rfl rfl rfl (λw=>by simp[go_sem])
    · exact dV rfl (by kernel_rfl) rfl rfl (λw hS=>by simp[go_sem,hby 32 w (by decide) ((hS.block _ (aj hblk)).trans hblk)])
    · exact qM (.tmp 65) (by kernel_rfl) rfl rfl (λev w hS h1=>by unfold execOp;simp only[h1];rfl)
    · exact gJ rfl (by kernel_rfl) rfl rfl rfl (λw=>rfl)
    · exact iU rfl rfl (by kernel_rfl)
    · exact iQ rfl (by kernel_rfl) rfl rfl rfl (λw=>by simp[go_sem])
    · exact dV rfl (by kernel_rfl) rfl rfl (λw hS=>by simp[go_sem,hby 33 w (by decide) ((hS.block _ (aj hblk)).trans hblk)])
    · exact qM (.tmp 70) (by kernel_rfl) rfl rfl (λev w hS h1=>by unfold execOp;simp only[h1];rfl)
    · exact gJ rfl (by kernel_rfl) rfl rfl rfl (λw=>rfl)
    · exact iU rfl rfl (by kernel_rfl)
    · exact gJ rfl (by kernel_rfl) rfl rfl rfl (λw=>rfl)
    · exact iU rfl rfl (by kernel_rfl)
    · exact iU rfl rfl (by kernel_rfl)
    · exact iU rfl rfl (by kernel_rfl)
    · exact gJ rfl (by kernel_rfl) rfl rfl rfl (λw=>rfl)
    · exact iU rfl rfl (by kernel_rfl)
    · exact iU rfl rfl (by kernel_rfl)
    · exact iU rfl rfl (by kernel_rfl)
    · exact nS (by kernel_rfl) rfl
    · exact iU rfl rfl (by kernel_rfl)
  intro a4 W9 RQ _ _;simp only[pq,pz,pw];generalize a4.tmps.getD 63 undef=q63;generalize a4.tmps.getD 64 undef=q64;generalize a4.tmps.getD 65 undef=q65;generalize a4.tmps.getD 66 undef=q66;generalize a4.tmps.getD 67 undef=q67;generalize a4.tmps.getD 68 undef=q68;generalize a4.tmps.getD 69 undef=q69;generalize a4.tmps.getD 70 undef=q70;generalize a4.tmps.getD 71 undef=q71;generalize a4.tmps.getD 72 undef=q72;generalize a4.tmps.getD 73 undef=q73;generalize a4.tmps.getD 74 undef=q74;generalize a4.tmps.getD 75 undef=q75;generalize a4.tmps.getD 76 undef=q76;generalize a4.tmps.getD 77 undef=q77;generalize a4.tmps.getD 78 undef=q78;generalize a4.tmps.getD 79 undef=q79;generalize a4.tmps.getD 80 undef=q80;generalize a4.tmps.getD 81 undef=q81;generalize a4.tmps.getD 82 undef=q82;have Kv:=Ku.trans (aa RQ Ku.size);clear RQ hblk Ku sy hz0 hz;go_wp2_with fail;refine bodyPost_ret (v:=.tuple #[str [],.bool false]) (by simp[results,Tryz.results73,go_sem]) rfl ⟨rfl,Kv⟩
structure Loc where
 sb:Nat
 mu:Nat
 ml:Nat
 lg:Nat
 a:Nat
 b1:Nat
 b2:Nat
 dn:Nat
structure bq (R:Nat→Prop) (B:Nat) (w:World) (l:Loc) (L:bh) (at_:Nat):Prop where
 head:w.heap[l.sb]? =some (.cells #[.map (some l.mu),.map (some l.ml),.pointer (some ⟨l.lg,0,none⟩)] 111 (0,0))
 lib:gA R w l.mu l.ml L
 log:∃ds,jH w l.lg l.a ⟨at_,ds,false⟩
 pP:gz B w l.a l.b1 l.b2 l.dn 0 (-(2 * (at_:Int))) 0
 hB:B≤l.sb∧B≤l.mu∧B≤l.ml∧B≤l.lg
 room:at_≤l.dn
theorem Eu (R:Nat→Prop) (w:World):gA R ((w.alloc (.map #[] 0)).alloc (.map #[] 0)) w.heap.size (w.heap.size+1) .new:=by
 have h1:=aQ.made w
 have h2:=aQ.made (w.alloc (.map #[] 0))
 rw[World.size_alloc] at h2
 have hb:=(zb (w.alloc (.map #[] 0))).alloc zr (.map #[] 0)
 exact⟨⟨[],rfl,h1.below hb zr,λx hx=>by cases hx⟩,h2,by simp,by simp[bh.new]⟩
set_option maxRecDepth 8000 in
theorem EK (R:Nat→Prop) {B a b1 b2:Nat} {pv:Value} {S:dc} (w:World) (hD:bw B w a b1 b2 pv S) (hz:S.now=List.replicate (S.n * 64) 0) (hd:S.down=false):
 Calls Tryz.prog 35 #[.pointer (some ⟨a,0,none⟩)] w λe w'=>(∃sb lg ds,e=.returned (.tuple #[.pointer (some ⟨sb,0,none⟩),.int .i64 0])∧w'.heap[sb]? =some (.cells #[.map (some w.heap.size),.map (some (w.heap.size+1)),.pointer (some ⟨lg,0,none⟩)] 111 (0,0))∧gA R w' w.heap.size (w.heap.size+1) .new∧jH w' lg a ⟨0,ds,false⟩∧w.heap.size≤sb∧w.heap.size≤lg)∧Below w.heap.size w w':=by
 have hmm:=@run_makeMap Tryz.prog
 have ID:=vH w hD
 rw[hd] at ID
 have Mt:=Eu R w
 have hA:=((zb w).alloc zr (.map #[] 0)).alloc (by simp) (.map #[] 0)
 have HB:=AR a ((w.alloc (.map #[] 0)).alloc (.map #[] 0))
 go_enter Tryz.func35,Tryz.ntmps35
 go_upto_region 5 with(go_at_call 40;refine ID.mono ?_;clear ID;rintro e w0 ⟨rfl,rfl⟩)
 go_upto_region 6 with(go_at_call 72;refine HB.mono ?_;clear HB;rintro e w1 ⟨⟨lg,ds,rfl,hL,Ms⟩,aP⟩)
 have bO:=(zb w1).alloc zr (.cells #[.map (some w0.heap.size),.map (some (w0.heap.size+1)),.pointer (some ⟨lg,0,none⟩)] 111)
 have hs:=heap_alloc_new w1 (.cells #[.map (some w0.heap.size),.map (some (w0.heap.size+1)),.pointer (some ⟨lg,0,none⟩)] 111)
 have lQ:=(hA.trans (aa aP hA.size)).trans (aa bO (Nat.le_trans hA.size aP.size))
 have Aa:=hL.below bO zr
 have Lu:=hD.below lQ zr
 have vX:=(Mt.KS (B:=w0.heap.size) (KS.ai aP zr hA.size)).KS (B:=w0.heap.size) (KS.ai bO zr (Nat.le_trans hA.size aP.size))
 have hsb:w0.heap.size≤w1.heap.size:=Nat.le_trans hA.size aP.size
 have P3:w0.heap.size≤lg:=Nat.le_trans hA.size Ms
 clear hA aP hL Ms Mt bO hD hmm
 generalize w1.alloc (.cells #[.map (some w0.heap.size),.map (some (w0.heap.size+1)),.pointer (some ⟨lg,0,none⟩)] 111)=W2 at *
 generalize w1.heap.size=sb at *
 have HN:=EA W2 Aa Lu hz
 have c2:=(af hs 2).trans rfl
 go_loopw [5] (λ_ wx=>wx=W2) (λ_ _=>0)
 case atStart=>exact rfl
 case round=>
  obtain rfl:=hrel;go_wp2_with (go_at_call 73;refine HN.mono ?_;clear HN;rintro e w3 ⟨rfl,cK⟩);refine bodyPost_ret (v:=.tuple #[.pointer (some ⟨sb,0,none⟩),.int .i64 0]) (by simp[results,Tryz.results35,go_sem]) rfl ?_;have eV:=lQ.trans (aa cK lQ.size);exact⟨⟨sb,lg,ds,rfl,ag hs cK,vX.KS (B:=w0.heap.size) (KS.ai cK zr lQ.size),Aa.below cK zr,hsb,P3⟩,eV⟩
end
open Go Go.RowKit Go.Maps
theorem aQ.turned {w w':World} {m m2:Nat} {l:List (List UInt8×Value)} (h:aQ w m l) (ht:w.mapTurned w' m2) (hne:m≠m2):aQ w' m l:=h.of_block (by
 obtain⟨es,clock,es',clock',hb,rfl⟩:=ht
 exact Go.ChangeMaps.heap_setBlock_other hb _ hne)
theorem cB.struck {R:Nat→Prop} {w w':World} {m:Nat} {us:List (List UInt8×az)} {k:List UInt8} {L:List (List UInt8×(az×Value))} (h1:L.map (λx=>(x.1,x.2.1))=us) (h3:∀x∈L,dN (Fr R w) w x.2.2 x.2.1) (ha:aQ w' m (fK (L.map λx=>(x.1,x.2.2)) k)) (ht:w.mapTurned w' m):cB R w' m (fK us k):=by
 subst h1
 refine⟨fK L k,vD (λx:az×Value=>x.1) L k,?_,λx hx=>(h3 x ((List.mem_filter.1 hx).1)).ey (dI.turned ht)⟩
 rw[vD (λx:az×Value=>x.2) L k]
 exact ha
theorem cB.stored {R:Nat→Prop} {w w':World} {m:Nat} {us:List (List UInt8×az)} {k:List UInt8} {u:az} {v:Value} {L:List (List UInt8×(az×Value))} (h1:L.map (λx=>(x.1,x.2.1))=us) (h3:∀x∈L,dN (Fr R w) w x.2.2 x.2.1) (hu:dN (Fr R w) w v u) (ha:aQ w' m (eN (L.map λx=>(x.1,x.2.2)) k v)) (ht:w.mapTurned w' m):cB R w' m (eN us k u):=by
 subst h1
 refine⟨eN L k (u,v),qE (λx:az×Value=>x.1) L k (u,v),?_,λx hx=>?_⟩
 · rw[qE (λx:az×Value=>x.2) L k (u,v)]
   exact ha
 · have hk:=dI.turned ht
   unfold eN at hx;split at hx
   · obtain⟨y,hy,rfl⟩:=List.mem_map.1 hx
     split
     · exact hu.ey hk
     · exact(h3 y hy).ey hk
   · rcases List.mem_append.1 hx with hx|hx
     · exact(h3 x hx).ey hk
     · rw[List.mem_singleton.1 hx]
       exact hu.ey hk
theorem G3 {w:World} {o:Oper} {a:Act} {K:Act→World→Prop} {Q:Exit→Act→World→Prop} {m:Nat} {L:List (List UInt8×Value)} (x y:Operand) {t e:TypeId} (hop:o.op=Op.call {callee:=Callee.builtin Builtin.delete,args:= #[x,y],argTypes:= #[t,9] }) (ht:Tryz.prog.underlying t=some (.map 9 e)) (h:aQ w m L) {k:List UInt8}
 (hm:a.eval x=.map (some m)) (hx:a.eval y=str k) (hk:k.length≤maxLen) (hK:∀w' u,aQ w' m (fK L k)→w.mapTurned w' m→K (a.put o.dst u) w'):o.wp Tryz.prog a w K Q:=by
 obtain⟨w',hrun,r1,r2⟩:=h.IY hk ht o.type
 unfold Oper.wp
 simp[execOp,hop,resolve,invoke,builtin,hm,hx,hrun,Result.andThen]
 exact hK w' _ r1 r2
theorem FQ {α:Type} (L:List (List UInt8×α)) (k:List UInt8):(fK L k).length≤L.length:=List.length_filter_le _ _
set_option maxRecDepth 4000 in
theorem Dp {R D:Nat→Prop} {mu ml sb:Nat} {L:bh} (parts:List (List UInt8)) (name:List UInt8) (hp:parts[0]? =some name) (v:Value) (w:World) (hv:SS D w v parts) (hc:w.cell? ⟨sb,0,none⟩=some (.map (some mu))) (hL:gA R w mu ml L):
 Calls Tryz.prog 152 #[.pointer (some ⟨sb,0,none⟩),v] w λe w'=>e=.returned (.tuple #[])∧gA R w' mu ml ⟨fK L.units name,L.last⟩∧w.grownBy w' (some mu):=by
 obtain⟨p,c,rfl,_,_,hle⟩:=hv.shape
 obtain⟨b,o,rfl,_,hcell⟩:=hv.at hp
 rw[Nat.add_zero] at hcell
 have hnl:=hle name (List.mem_of_getElem? hp)
 have hpl:(0:Int)<(parts.length:Int):=by
  have:=(List.getElem?_eq_some_iff.1 hp).1;omega
 have CI:¬parts=[]:=λh=>by rw[h] at hpl;simp at hpl
 go_enter Tryz.func152,Tryz.ntmps152
 go_upto_region 0 with fail
 refine eC (w:=w) (d:=none) (λ_ w w'=>Below w.heap.size w w') bP 7
  [λv _=>v=.pointer (some ⟨sb,0,none⟩),λv _=>v=.pointer (some ⟨sb,0,none⟩),λv _=>v=.pointer (some ⟨sb,0,none⟩),λv _=>v=.map (some mu),λv _=>v=.slice (some ⟨b,o,none⟩) parts.length c,λv _=>v=.pointer (some ⟨b,o,none⟩),λv _=>v=str name]
  (λw'=>Below w.heap.size w w') (λ_ w'=>gA R w' mu ml ⟨fK L.units name,L.last⟩∧w.grownBy w' (some mu)) (by kernel_rfl) rfl rfl ?_ ?_ (zb w).drew ⟨?_,?_,?_,?_,?_,?_,?_,trivial⟩ ?_ ?_
 · intro i j F hF hij hl v w1 w2 h hr
   rcases j with _|_|_|_|_|_|_|j
   · cases hF;exact h
   · cases hF;exact h
   · cases hF;exact h
   · cases hF;exact h
   · cases hF;exact h
   · cases hF;exact h
   · cases hF;exact h
   · cases hF
 · intro i w1 w2 h hr
   exact h.trans (aa hr h.size)
 · intro a' wx hS hd ho next hnx
   have e1:=(ho 0 (dZ (by kernel_rfl))).trans (show _=(.pointer (some ⟨sb,0,none⟩):Value) from rfl);exact aR (v:=.pointer (some ⟨sb,0,none⟩)) (by unfold execOp;simp only[e1];simp[go_sem]) (hnx _ _ (aM rfl rfl) (zb _))
 · intro a' wx hS hd ho next hnx
   have e1:=fA hd 0 (by kernel_rfl) rfl (λk e=>by simp[bP] at e) rfl;exact aR (v:=.pointer (some ⟨sb,0,none⟩)) (by unfold execOp;simp only[e1];simp[go_sem]) (hnx _ _ (aM rfl rfl) (zb _))
 · intro a' wx hS hd ho next hnx
   have e1:=fA hd 1 (by kernel_rfl) rfl (λk e=>by simp[bP] at e) rfl;exact aR (v:=.pointer (some ⟨sb,0,none⟩)) (by unfold execOp;simp only[e1];simp[go_sem]) (hnx _ _ (aM rfl rfl) (zb _))
 · intro a' wx hS hd ho next hnx
   have e1:=fA hd 2 (by kernel_rfl) rfl (λk e=>by simp[bP] at e) rfl;have c:=Below.keep hS hc;exact aR (v:=.map (some mu)) (by unfold execOp;simp only[e1];simp[go_sem,c]) (hnx _ _ (aM rfl rfl) (zb _))
 · intro a' wx hS hd ho next hnx
   have e1:=(ho 1 (dZ (by kernel_rfl))).trans (show _=(.slice (some ⟨b,o,none⟩) parts.length c:Value) from rfl);exact aR (v:=.slice (some ⟨b,o,none⟩) parts.length c) (by unfold execOp;simp only[e1];simp[go_sem]) (hnx _ _ (aM rfl rfl) (zb _))
 · intro a' wx hS hd ho next hnx
   have e1:=fA hd 4 (by kernel_rfl) rfl (λk e=>by simp[bP] at e) rfl;exact aR (v:=.pointer (some ⟨b,o,none⟩)) (by unfold execOp;simp only[e1];simp[go_sem,CI]) (hnx _ _ (aM rfl rfl) (zb _))
 · intro a' wx hS hd ho next hnx
   have e1:=fA hd 5 (by kernel_rfl) rfl (λk e=>by simp[bP] at e) rfl;have c:=Below.keep hS hcell;exact aR (v:=str name) (by unfold execOp;simp only[e1];simp[go_sem,c]) (hnx _ _ (aM rfl rfl) (zb _))
 · intro a' wx hS hV hout next hnx
   have e7:=hV 3 _ 7 (by decide) rfl rfl rfl;have Cy:=hV 6 _ 10 (by decide) rfl rfl rfl;have RE:=hL.KS (B:=w.heap.size) (KS.ai hS zr zr);obtain⟨U,h1,h2,h3⟩:=RE.units;refine G3 (.tmp 7) (.tmp 10) rfl Tryz.underlying106 h2 e7 Cy hnl λw' u ha ht=>hnx u w' ⟨⟨cB.struck h1 h3 ha ht,aQ.turned RE.last ht hL.ne.symm,hL.ne,Nat.le_trans (FQ _ _) hL.le.1,hL.le.2⟩,World.grownBy.trans (eR hS (some mu)) ht.grown⟩
 intro a2 v2 w2 jO
 simp only[pq,pz,pw]
 go_wp2_with fail
 go_end0
 exact⟨rfl,jO⟩
end Go.Proofs.YtemjidmkolfgnaaGreatDoor
