/-
  Lemmas for the statement: a map of faces by their names that the call itself makes: stored into, looked up. Conditions: bounds of lengths; the variable strings.asciiSpace.
-/
import Derived.Test.YtemjidmkolfgnaaGreatDoorSB10
import Derived.Test.YtemjidmkolfgnaaGreatDoorSB12
import Derived.Test.YtemjidmkolfgnaaGreatDoorSB14
namespace Go.Proofs.YtemjidmkolfgnaaGreatDoor
section
def gO:List (List UInt8)→Bool
 | []=>true
 | [a]=>isName a
 | a::b::l=>isName a&&Op.bytesLess a b&&gO (b::l)
def eB (s:fT) (Av:Bool):Bool:=
 decide (s.args.length≤6)&&decide (s.sigs.length≤6)&&gO s.sigs&& !(s.iter&&decide (s.res=[]))&&
  (dH s).all (λt=>decide ((bH t).1=0)&&(!kZ t||Av))
def dx (l:List dw):Bool:=l.all (λn=>eB n.sig true)&&decide (l.length≤4)&&gO (l.map (·.name))
def oB:List (List UInt8)→Bool
 | []=>true
 | a::l=> !l.contains a&&oB l
def gT (f:aZ):Bool:=
 isName f.name&&decide (1≤f.kind)&&decide (f.kind≤3)&&dx f.aB&&(f.par||f.aB.isEmpty)&&
  decide (1≤f.ops.length)&&decide (f.ops.length≤20)&&f.ops.all (λo=>isName o.name&&eB o.sig f.par)&&oB (f.ops.map (·.name))&&
  (decide (f.kind=3)||match f.ops with
   | [o]=>decide (o.name=f.name)&&decide (o.sig.iter=decide (f.kind=2))
   | _=>false)
def zx (s:fT):List UInt8:=
 (if s.iter then [105,116,101,114,40] else [112,114,111,99,40])++di s.args++[41]++(if s.res=[] then [] else(if s.iter then [32,121,105,101,108,100,115,32] else [32,114,101,116,117,114,110,115,32])++s.res)++
  (if s.sigs=[] then [] else [32,115,105,103,110,97,108,115,40]++di s.sigs++[41])
def cG (word:List UInt8) (o:dw):List UInt8:=word++[32]++o.name++[32]++zx o.sig++[10]
def pT (f:aZ):List UInt8:=
 (if f.kind=1 then [112,114,111,99] else if f.kind=2 then [105,116,101,114] else [99,108,117,115,116,101,114])++[32]++f.name++(if f.par then [91,116,93] else [])++[10]++
  f.aB.flatMap (cG ([104,97,115]))++f.ops.flatMap (cG ([111,112]))
def gm (f:aZ):List UInt8×Nat:=if gT f=true then(pT f,0) else([],42)
end
section
open Go.RowKit Go.Maps
def ru (v:Value):Option (DataW Value×List MemPlace):=some (.held v,[])
section
variable {α β:Type}
def aq (L:List (List UInt8×α)) (k:List UInt8):Option α:=(L.find? λx=>decide (x.1=k)).map (·.2)
def eN (L:List (List UInt8×α)) (k:List UInt8) (v:α):List (List UInt8×α):=if(aq L k).isSome then L.map (λx=>if x.1=k then(k,v) else x) else L++[(k,v)]
def fK (L:List (List UInt8×α)) (k:List UInt8):List (List UInt8×α):=L.filter λx=>decide (x.1≠k)
theorem iM (k:List UInt8):aq ([]:List (List UInt8×α)) k=none:=rfl
theorem bA (x:List UInt8×α) (L:List (List UInt8×α)) (k:List UInt8):aq (x::L) k=if x.1=k then some x.2 else aq L k:=by
 unfold aq
 by_cases h:x.1=k
 · rw[List.find?_cons_of_pos (by simpa using h),if_pos h];rfl
 · rw[List.find?_cons_of_neg (by simpa using h),if_neg h]
theorem uB (L M:List (List UInt8×α)) (k:List UInt8):aq (L++M) k=(aq L k).or (aq M k):=by
 induction L with
 | nil=>simp[iM]
 | cons x L ih=>
  rw[List.cons_append,bA,bA,ih];split<;>simp
theorem dD (f:α→β) (L:List (List UInt8×α)) (k:List UInt8):aq (L.map λx=>(x.1,f x.2)) k=(aq L k).map f:=by
 induction L with
 | nil=>rfl
 | cons x L ih=>
  rw[List.map_cons,bA,bA,ih];simp only;split<;>simp
theorem eS {L:List (List UInt8×α)} {k:List UInt8} {v:α} (h:aq L k=some v):(k,v)∈L:=by
 induction L with
 | nil=>cases h
 | cons x L ih=>
  rw[bA] at h;split at h
  · rename_i hx
    cases h;subst hx;simp
  · exact List.mem_cons_of_mem _ (ih h)
theorem bJ {L:List (List UInt8×α)} {k:List UInt8}:(aq L k).isSome=true↔k∈L.map (·.1):=by
 induction L with
 | nil=>simp[iM]
 | cons x L ih=>
  rw[bA];split
  · rename_i hx
    simp[hx]
  · rename_i hx
    rw[ih,List.map_cons,List.mem_cons];simp[show ¬k=x.1 from λe=>hx e.symm]
theorem uC {L:List (List UInt8×α)} (hn:(L.map (·.1)).Nodup) {k:List UInt8} {v:α} (h:(k,v)∈L):aq L k=some v:=by
 induction L with
 | nil=>cases h
 | cons x L ih=>
  rw[List.map_cons,List.nodup_cons] at hn;rw[bA];rcases List.mem_cons.1 h with rfl|h
  · simp
  · have hne:¬x.1=k:=λe=>hn.1 (by rw[e];exact List.mem_map_of_mem (f:=(·.1)) h)
    rw[if_neg hne];exact ih hn.2 h
theorem E8 (f:α→β) (L:List (List UInt8×α)) (k:List UInt8) (v:α):(L.map λx=>if x.1=k then(k,v) else x).map (λx=>(x.1,f x.2))=(L.map λx=>(x.1,f x.2)).map λx=>if x.1=k then(k,f v) else x:=by
 rw[List.map_map,List.map_map]
 refine List.map_congr_left λx _=>?_
 simp only[Function.comp]
 split<;>rfl
theorem qE (f:α→β) (L:List (List UInt8×α)) (k:List UInt8) (v:α):(eN L k v).map (λx=>(x.1,f x.2))=eN (L.map λx=>(x.1,f x.2)) k (f v):=by
 unfold eN
 rw[dD,Option.isSome_map]
 split
 · exact E8 f L k v
 · simp
theorem vD (f:α→β) (L:List (List UInt8×α)) (k:List UInt8):(fK L k).map (λx=>(x.1,f x.2))=fK (L.map λx=>(x.1,f x.2)) k:=by
 unfold fK
 rw[List.filter_map]
 rfl
theorem Cb (L:List (List UInt8×α)) (k:List UInt8) (v:α):(L.map λx=>if x.1=k then(k,v) else x).map (·.1)=L.map (·.1):=by
 rw[List.map_map]
 refine List.map_congr_left λx _=>?_
 simp only[Function.comp]
 split
 · rename_i h;exact h.symm
 · rfl
theorem yY (L:List (List UInt8×α)) (k j:List UInt8) (v:α):aq (L.map λx=>if x.1=k then(k,v) else x) j=if j=k then(if(aq L k).isSome then some v else none) else aq L j:=by
 induction L with
 | nil=>simp[iM]
 | cons x L ih=>
  rw[List.map_cons,bA,bA,bA,ih]
  by_cases hx:x.1=k
  · subst hx
    by_cases hj:j=x.1
    · subst hj;simp
    · simp[hj,show ¬x.1=j from λe=>hj e.symm]
  · by_cases hj:j=k
    · subst hj;simp[hx]
    · simp[hx,hj]
theorem kG (L:List (List UInt8×α)) (k j:List UInt8) (v:α):aq (eN L k v) j=if j=k then some v else aq L j:=by
 unfold eN
 split
 · rename_i h
   rw[yY,h];simp
 · rename_i h
   rw[uB,bA,iM]
   by_cases hj:j=k
   · subst hj
     have:aq L j=none:=by simpa using h
     simp[this]
   · simp[hj,show ¬k=j from λe=>hj e.symm]
theorem sM (L:List (List UInt8×α)) (k j:List UInt8):aq (fK L k) j=if j=k then none else aq L j:=by
 induction L with
 | nil=>simp[fK,iM]
 | cons x L ih=>
  have e:fK (x::L) k=if x.1=k then fK L k else x::fK L k:=by
   unfold fK;rw[List.filter_cons]
   by_cases hx:x.1=k<;>simp[hx]
  rw[e,bA];split
  · rename_i hx
    subst hx;rw[ih]
    by_cases hj:j=x.1
    · simp[hj]
    · simp[hj,show ¬x.1=j from λe=>hj e.symm]
  · rename_i hx
    rw[bA,ih]
    by_cases hj:j=k
    · subst hj;simp[hx]
    · simp[hj]
theorem zi {L:List (List UInt8×α)} (hn:(L.map (·.1)).Nodup) (k:List UInt8) (v:α):((eN L k v).map (·.1)).Nodup:=by
 unfold eN
 split
 · rw[Cb];exact hn
 · rename_i h
   rw[bJ] at h;rw[List.map_append,List.nodup_append];refine⟨hn,by simp,λa ha b hb=>?_⟩;rw[List.map_cons,List.map_nil,List.mem_singleton] at hb;subst hb;exact λe=>h (e▸ha)
theorem yb {L:List (List UInt8×α)} (hn:(L.map (·.1)).Nodup) (k:List UInt8):((fK L k).map (·.1)).Nodup:=hn.sublist (List.Sublist.map _ List.filter_sublist)
theorem xm (L:List (List UInt8×α)) (k:List UInt8) (v:α):(eN L k v).length=if(aq L k).isSome then L.length else L.length+1:=by
 unfold eN
 split<;>simp
theorem Dn {L:List (List UInt8×α)} (hn:(L.map (·.1)).Nodup) (k:List UInt8):(fK L k).length+(if(aq L k).isSome then 1 else 0)=L.length:=by
 induction L with
 | nil=>rfl
 | cons x L ih=>
  rw[List.map_cons,List.nodup_cons] at hn;have e:fK (x::L) k=if x.1=k then fK L k else x::fK L k:=by
   unfold fK;rw[List.filter_cons]
   by_cases hx:x.1=k<;>simp[hx]
  have ih:=ih hn.2;rw[e,bA]
  by_cases hx:x.1=k
  · subst hx
    have h0:(aq L x.1).isSome=false:=by
     rw[Bool.eq_false_iff,ne_eq,bJ];exact hn.1
    rw[h0] at ih;simp at ih ⊢;exact ih
  · simp only[if_neg hx,List.length_cons]
    omega
end
def CO (D:DataW Value) (L:List (List UInt8×Value)):Prop:=∀k,has D (.string k)=(aq L k).isSome∧∀z,D.atKey (.string k) z=match aq L k with
 | some v=>.held v
 | none=>z
structure aQ (w:World) (m:Nat) (L:List (List UInt8×Value)):Prop where
 nd:(L.map (·.1)).Nodup
 own:∃D:DataW Value,w.ownsMap Tryz.prog 9 ru m L.length D∧size D=L.length∧CO D L
theorem aQ.made (w:World):aQ (w.alloc (.map #[] 0)) w.heap.size []:=⟨List.nodup_nil,_,World.ownsMap_made w _ _ _,rfl,λ_=>⟨rfl,λ_=>rfl⟩⟩
theorem aQ.lt {w:World} {m:Nat} {L:List (List UInt8×Value)} (h:aQ w m L):m<w.heap.size:=by
 obtain⟨_,D,h1,_⟩:=h
 exact h1.lt
theorem aQ.of_block {w w':World} {m:Nat} {L:List (List UInt8×Value)} (h:aQ w m L) (hb:w'.heap[m]? =w.heap[m]?):aQ w' m L:=by
 obtain⟨h0,D,⟨es,clock,h1,rest⟩,h2⟩:=h
 exact⟨h0,D,⟨es,clock,hb.trans h1,rest⟩,h2⟩
theorem aQ.below {w w':World} {m K:Nat} {L:List (List UInt8×Value)} (h:aQ w m L) (hb:Below K w w') (hK:w.heap.size≤K):aQ w' m L:=h.of_block (hb.block m (Nat.lt_of_lt_of_le h.lt hK))
theorem aQ.kept {w w':World} {m:Nat} {L:List (List UInt8×Value)} {row:Option Nat} (h:aQ w m L) (hg:w.grownBy w' row) (hne:some m≠row):aQ w' m L:=h.of_block (hg.block m h.lt hne)
theorem qp {k:List UInt8} (hk:k.length≤maxLen):keyOf Tryz.prog 9 (str k)=some (.string k):=WideMaps.keyOf_string_mk (s:=⟨k.toArray⟩) Tryz.underlying9 (by simpa[ByteArray.size] using hk)
section
variable {w:World} {m:Nat} {L:List (List UInt8×Value)} (h:aQ w m L) {k:List UInt8} (hk:k.length≤maxLen) {t e:TypeId} (ht:Tryz.prog.underlying t=some (.map 9 e))
include h hk ht
theorem aQ.look {z:Value} (hz:(zeroValue e).run Tryz.prog w=.ok z w):(Instr.lookup t (.map (some m)) (str k) true).run Tryz.prog w=.ok (.tuple #[(aq L k).getD z,.bool (aq L k).isSome]) w:=by
 obtain⟨_,D,h1,_,h3⟩:=h
 obtain⟨v,ps,hrun,hv⟩:=h1.look_ok (string_keyed Tryz.underlying9) ht hz (show ru z=some (.held z,[]) from rfl) (qp hk)
 obtain⟨hh,ha⟩:=h3 k
 rw[hrun,hh]
 unfold ru at hv
 simp only[Option.some.injEq,Prod.mk.injEq] at hv
 have h4:=hv.1
 rw[ha] at h4
 cases hl:aq L k<;>(rw[hl] at h4;simp at h4;simp[h4])
theorem aQ.get {z:Value} (hz:(zeroValue e).run Tryz.prog w=.ok z w):(Instr.lookup t (.map (some m)) (str k) false).run Tryz.prog w=.ok ((aq L k).getD z) w:=by
 obtain⟨_,D,h1,_,h3⟩:=h
 obtain⟨v,ps,hrun,hv⟩:=h1.lookup (string_keyed Tryz.underlying9) ht hz (show ru z=some (.held z,[]) from rfl) (qp hk)
 obtain⟨_,ha⟩:=h3 k
 rw[hrun]
 unfold ru at hv
 simp only[Option.some.injEq,Prod.mk.injEq] at hv
 have h4:=hv.1
 rw[ha] at h4
 cases hl:aq L k<;>(rw[hl] at h4;simp at h4;simp[h4])
theorem aQ.zk (v:Value) (hn:L.length<maxLen):∃w',(Instr.mapUpdate t (.map (some m)) (str k) v).run Tryz.prog w=.ok () w'∧aQ w' m (eN L k v)∧w.mapTurned w' m:=by
 obtain⟨h0,D,h1,h2,h3⟩:=h
 obtain⟨w',hrun,h4,h5⟩:=h1.store (string_keyed Tryz.underlying9) ht hn (qp hk) (show ru v=some (.held v,[]) from rfl)
 have hT:Tidy D:=by
  obtain⟨es,e1,e2,_⟩:=h1.entries (string_keyed Tryz.underlying9);exact⟨es,e1,e2⟩
 have hs:=size_put hT (k:=.string k) (.held v)
 rw[(h3 k).1,h2,←xm L k v] at hs
 refine⟨w',hrun,⟨zi h0 k v,_,?_,hs,λj=>?_⟩,h5⟩
 · obtain⟨es,clock,g1,g2,g3,g4⟩:=h4
   refine⟨es,clock,g1,g2,?_,g4⟩;rw[←hs,g4];simp[size,length_sorted]
 · by_cases hj:j=k
   · subst hj
     rw[kG,if_pos rfl];exact⟨has_put_same hT.isMap (show WideAt.IsKeyLit (Lit.string j) from trivial) _,λz=>atKey_put_same hT.isMap (show WideAt.IsKeyLit (Lit.string j) from trivial) _ _⟩
   · rw[kG,if_neg hj,has_put_other (λe=>hj (by injection e))]
     exact⟨(h3 j).1,λz=>by rw[atKey_put_other (λe=>hj (by injection e))];exact(h3 j).2 z⟩
theorem aQ.IY (ty:TypeId):∃w',(Builtin.delete_ #[t,9] ty #[.map (some m),str k]).run Tryz.prog w=.ok (.tuple #[]) w'∧aQ w' m (fK L k)∧w.mapTurned w' m:=by
 obtain⟨h0,D,h1,h2,h3⟩:=h
 obtain⟨w',hrun,h4,h5⟩:=h1.drop (string_keyed Tryz.underlying9) ht (qp hk) ty
 have hT:Tidy D:=by
  obtain⟨es,e1,e2,_⟩:=h1.entries (string_keyed Tryz.underlying9);exact⟨es,e1,e2⟩
 have hs:=size_del hT (k:=.string k)
 have hl:=Dn h0 k
 rw[(h3 k).1,h2] at hs
 have hs:size (D.del (.string k))=(fK L k).length:=by omega
 refine⟨w',hrun,⟨yb h0 k,_,?_,hs,λj=>?_⟩,h5⟩
 · obtain⟨es,clock,g1,g2,g3,g4⟩:=h4
   refine⟨es,clock,g1,g2,?_,g4⟩;rw[←hs,g4];simp[size,length_sorted]
 · by_cases hj:j=k
   · subst hj
     rw[sM,if_pos rfl];exact⟨has_del_same,λz=>atKey_del_same _⟩
   · rw[sM,if_neg hj,has_del_other (λe=>hj (by injection e))]
     exact⟨(h3 j).1,λz=>by rw[atKey_del_other (λe=>hj (by injection e))];exact(h3 j).2 z⟩
omit hk k in
theorem aQ.len (ty:TypeId):(Builtin.len_ #[t] ty #[.map (some m)]).run Tryz.prog w=.ok (.int .i64 L.length) w:=by
 obtain⟨_,D,h1,h2,_⟩:=h
 rw[h1.len ht ty,h2]
end
section
variable {w:World} {ops:Array Oper} {rest:List Oper} {o:Oper} {a:Act} {Q:Exit→Act→World→Prop} {m:Nat} {L:List (List UInt8×Value)}
theorem iq (hg:o.guard=none) (x y v:Operand) {t e:TypeId} (hop:o.op=Op.mapUpdate t x y v) (ht:Tryz.prog.underlying t=some (.map 9 e)) (h:aQ w m L) (hn:L.length<maxLen) {k:List UInt8} {f:Value}
 (hm:a.eval x=.map (some m)) (hx:a.eval y=str k) (hv:a.eval v=f) (hk:k.length≤maxLen) (hK:∀w',aQ w' m (eN L k f)→w.mapTurned w' m→wpList Tryz.prog ops Q rest (a.put o.dst undef) w'):wpList Tryz.prog ops Q (o::rest) a w:=by
 refine wpList_plain hg λK' hK'=>?_
 obtain⟨w',hrun,r1,r2⟩:=h.zk hk ht f hn
 unfold Oper.wp
 simp[execOp,hop,hm,hx,hv,hrun,Result.andThen]
 exact hK' _ _ (hK w' r1 r2)
end
end
section
open Go Go.RowKit Go.Maps
def mq (w:World) (m r:Nat) (L:List (List UInt8×Value)) (S:List (List UInt8)):Prop:=
 (L.map (·.1)).Nodup∧S.Nodup∧∃(D:DataW Value) (left:Lit→Bool) (cnt:Nat),w.ranges Tryz.prog 9 ru m r L.length D left cnt∧size D=L.length∧CO D L∧∀k,k∈S↔left (.string k)=true
section
variable {w w':World} {m r:Nat} {L:List (List UInt8×Value)} {S:List (List UInt8)}
theorem mq.of_block (h:mq w m r L S) (h1:w'.heap[m]? =w.heap[m]?) (h2:w'.heap[r]? =w.heap[r]?):mq w' m r L S:=by
 obtain⟨g1,g2,D,left,cnt,⟨es,clock,since,seen,c0,e1,e2,e3,e4,e5,e6⟩,g3⟩:=h
 exact⟨g1,g2,D,left,cnt,⟨es,clock,since,seen,c0,h1.trans e1,e2,e3,e4,h2.trans e5,e6⟩,g3⟩
theorem gu {w w':World} {m r:Nat} (h1:w'.heap[m]? =w.heap[m]?) (h2:w'.heap[r]? =w.heap[r]?):w'.rangeLeft m r=w.rangeLeft m r:=by
 unfold World.rangeLeft
 rw[h1,h2]
end
section
variable {w:World} {ops:Array Oper} {rest:List Oper} {o:Oper} {a:Act} {Q:Exit→Act→World→Prop} {m r:Nat} {L:List (List UInt8×Value)} {S:List (List UInt8)}
theorem fF (hg:o.guard=none) (x:Operand) {t e:TypeId} (hop:o.op=Op.range t x) (ht:Tryz.prog.underlying t=some (.map 9 e)) (hm:a.eval x=.map (some m)) (h:aQ w m L)
 (hK:∀w',mq w' m w.heap.size L (L.map (·.1))→w.grownBy w' none→w'.heap.size=w.heap.size+1→wpList Tryz.prog ops Q rest (a.put o.dst (.pointer (some ⟨w.heap.size,0,none⟩))) w'):
 wpList Tryz.prog ops Q (o::rest) a w:=by
 obtain⟨h1,D,h2,h3,h4⟩:=h
 refine wpList_range_own w hg x t hop 9 e (string_keyed Tryz.underlying9) ht _ m L.length D hm h2 λw' g1 g2 g3=>hK w' ⟨h1,h1,D,_,_,g1,h3,h4,λk=>?_⟩ g2 g3
 rw[(h4 k).1,bJ]
theorem gw (hg:o.guard=none) (x:Operand) (hop:o.op=Op.next x false) (hx:a.eval x=.pointer (some ⟨r,0,none⟩)) (h:mq w m r L S)
 (hDone:S=[]→wpList Tryz.prog ops Q rest (a.put o.dst (.tuple #[.bool false])) w)
 (hMore:∀(k:List UInt8) (v:Value) (w':World),k∈S→aq L k=some v→k.length≤maxLen→mq w' m r L (S.erase k)→w.grownBy w' (some r)→w'.heap.size=w.heap.size→w'.rangeLeft m r<w.rangeLeft m r→
  (Instr.entry (.pointer (some ⟨r,0,none⟩))).run Tryz.prog w'=.ok (.tuple #[str k,v]) w'→wpList Tryz.prog ops Q rest (a.put o.dst (.tuple #[.bool true,str k,v])) w'):
 wpList Tryz.prog ops Q (o::rest) a w:=by
 obtain⟨h1,h2,D,left,cnt,h3,h4,h5,h6⟩:=h
 refine wpList_next_ranges w hg x hop 9 (string_keyed Tryz.underlying9) ru encStr (λv:Value=>v) (λkey kl hk=>by obtain⟨x,hx,_⟩:=Maps.keyOf_str Tryz.underlying9 hk;exact⟨x,hx⟩) (λv y _=>⟨v,rfl⟩) m r L.length D left cnt hx h3 (λ_ hl=>hDone ?_) ?_
 · rcases S with _|⟨k,S⟩
   · rfl
   · have:=(h6 k).1 (by simp)
     rw[hl] at this;cases this
 · intro k c kl y w' Tg hkey hlk hv hat xU hlt hgr hsz Bj
   obtain⟨k',ek,rfl,sA⟩:=Maps.keyOf_str Tryz.underlying9 hkey;obtain rfl:=encStr_inj ek;have hS:k∈S:=(h6 k).2 hlk;have hy:y.1=.held c:=by
    unfold ru at hv;simp only[Option.some.injEq] at hv;rw[←hv]
   have hl:aq L k=some c:=by
    have e1:=(h5 k).2 (.map []);rw[hat,hy] at e1;rcases hq:aq L k with _|x
    · rw[hq] at e1;cases e1
    · rw[hq] at e1
      exact congrArg some (DataW.held.inj e1).symm
   refine hMore k c w' hS hl sA ⟨h1,h2.erase k,D,_,_,xU,h4,h5,λj=>?_⟩ hgr hsz (by rw[xU.left_eq,h3.left_eq];exact hlt) Bj;rw[h2.mem_erase_iff,h6 j];simp only[Bool.and_eq_true,Bool.not_eq_true',Lit.sameKey]
   constructor
   · rintro⟨g1,g2⟩
     exact⟨g2,by simpa using g1⟩
   · rintro⟨g1,g2⟩
     exact⟨by simpa using g2,g1⟩
end
def yK (x:List UInt8):List (List UInt8)→List (List UInt8)
 | []=>[x]
 | y::l=>if x≤y then x::y::l else y::yK x l
def gH:List (List UInt8)→List (List UInt8)
 | []=>[]
 | x::l=>yK x (gH l)
theorem nJ (x:List UInt8):∀l,(yK x l).Perm (x::l)
 | []=>.refl _
 | y::l=>by
  unfold yK;split
  · exact .refl _
  · exact((nJ x l).cons y).trans (.swap x y l)
theorem eO:∀l,(gH l).Perm l
 | []=>.refl _
 | x::l=>(nJ x _).trans ((eO l).cons x)
theorem ox {x:List UInt8}:∀{l:List (List UInt8)},l.Pairwise (· ≤ ·)→(yK x l).Pairwise (· ≤ ·)
 | [],_=>by simp[yK]
 | y::l,h=>by
  unfold yK;have h1:=List.pairwise_cons.1 h;split
  · rename_i hx
    refine List.pairwise_cons.2 ⟨λz hz=>?_,h⟩;rcases List.mem_cons.1 hz with rfl|hz
    · exact hx
    · exact List.le_trans hx (h1.1 z hz)
  · rename_i hx
    refine List.pairwise_cons.2 ⟨λz hz=>?_,ox h1.2⟩;rcases List.mem_cons.1 ((nJ x l).mem_iff.1 hz) with rfl|hz
    · exact(List.le_total _ _).resolve_left hx
    · exact h1.1 z hz
theorem gv:∀l:List (List UInt8),(gH l).Pairwise (· ≤ ·)
 | []=>.nil
 | _::l=>ox (gv l)
theorem qL {l k:List (List UInt8)} (h1:l.Pairwise (· ≤ ·)) (h2:k.Pairwise (· ≤ ·)) (h:l.Perm k):l=k:=
 List.Perm.eq_of_pairwise (le:=λa b=>a≤b) (λ_ _ _ _ h1 h2=>List.le_antisymm h1 h2) h1 h2 h
theorem wU {l k:List (List UInt8)} (h:l.Perm k):l.mergeSort leB=gH k:=by
 refine qL ?_ (gv k) (((List.mergeSort_perm l leB).trans h).trans (eO k).symm)
 refine(List.pairwise_mergeSort (le:=leB) (λa b c h1 h2=>by simp only[leB,decide_eq_true_eq] at *;exact List.le_trans h1 h2) (λa b=>by simp only[leB,Bool.or_eq_true,decide_eq_true_eq];exact List.le_total a b) l).imp λh=>by simpa using h
theorem iP (l:List (List UInt8)):(gH l).length=l.length:=(eO l).length_eq
theorem kJ {l:List (List UInt8)} {x:List UInt8}:x∈gH l↔x∈l:=(eO l).mem_iff
theorem jf {ss S l:List (List UInt8)} {k:List UInt8} (h:(ss++S).Perm l) (hk:k∈S):((ss++[k])++S.erase k).Perm l:=by
 refine List.Perm.trans ?_ h
 rw[List.append_assoc]
 exact List.Perm.append_left ss (List.perm_cons_erase hk).symm
def fO (S:List (List UInt8)):List (List UInt8×Value):=S.map λx=>(x,.bool true)
def fq (S:List (List UInt8)) (k:List UInt8):List (List UInt8):=if k∈S then S else S++[k]
theorem s5 (S:List (List UInt8)):(fO S).map (·.1)=S:=by
 unfold fO
 rw[List.map_map]
 exact List.map_id S
theorem fP (S:List (List UInt8)):(fO S).length=S.length:=List.length_map _
theorem lT (S:List (List UInt8)) (k:List UInt8):aq (fO S) k=if k∈S then some (.bool true) else none:=by
 induction S with
 | nil=>rfl
 | cons x S ih=>
  unfold fO at *;rw[List.map_cons,bA,ih]
  by_cases h:x=k
  · subst h;simp
  · rw[if_neg h]
    simp[show ¬k=x from λe=>h e.symm]
theorem nP (S:List (List UInt8)) (k:List UInt8):eN (fO S) k (.bool true)=fO (fq S k):=by
 unfold eN fq
 rw[lT]
 by_cases h:k∈S
 · rw[if_pos h,if_pos h]
   simp only[Option.isSome_some,if_true];unfold fO;rw[List.map_map];refine List.map_congr_left λx _=>?_
   simp only[Function.comp];split
   · rename_i hx;rw[hx]
   · rfl
 · rw[if_neg h,if_neg h]
   simp[fO]
theorem pG {S:List (List UInt8)} (h:S.Nodup) (k:List UInt8):(fq S k).Nodup:=by
 unfold fq
 split
 · exact h
 · rename_i hk
   rw[List.nodup_append];exact⟨h,by simp,λa ha b hb e=>hk (by rw[List.mem_singleton] at hb;rw[←hb,←e];exact ha)⟩
theorem ve {S:List (List UInt8)} {k x:List UInt8}:x∈fq S k↔x∈S∨x=k:=by
 unfold fq
 split
 · rename_i hk
   constructor
   · exact .inl
   · rintro(h|rfl)
     · exact h
     · exact hk
 · simp
theorem zzq (S:List (List UInt8)) (k:List UInt8):(fq S k).length≤S.length+1:=by
 unfold fq
 split<;>simp
end
section
open Go.RowKit
def KZ (l:List dw):Prop:=(l.map (·.name)).Nodup
theorem sO:∀l:List (List UInt8),oB l=true↔l.Nodup
 | []=>by simp[oB]
 | a::l=>by rw[oB,List.nodup_cons,Bool.and_eq_true,sO l];simp
theorem jM {f:aZ} (h:gT f=true):isName f.name=true∧1≤f.kind∧f.kind≤3∧dx f.aB=true∧(f.par=true∨f.aB=[])∧1≤f.ops.length∧f.ops.length≤20∧(∀o∈f.ops,isName o.name=true∧eB o.sig f.par=true)∧KZ f.ops∧
 (f.kind=3∨∃o,f.ops=[o]∧o.name=f.name∧o.sig.iter=decide (f.kind=2)):=by
 unfold gT at h
 simp only[Bool.and_eq_true,decide_eq_true_eq,Bool.or_eq_true,List.all_eq_true,List.isEmpty_iff] at h
 obtain⟨⟨⟨⟨⟨⟨⟨⟨⟨h1,h2⟩,h3⟩,h4⟩,h5⟩,h6⟩,h7⟩,h8⟩,h9⟩,h10⟩:=h
 refine⟨h1,h2,h3,h4,h5,h6,h7,h8,(sO _).1 h9,?_⟩
 rcases h10 with h10|h10
 · exact .inl h10
 · right
   split at h10
   · rename_i o ho
     simp only[Bool.and_eq_true,decide_eq_true_eq] at h10;exact⟨o,ho,h10.1,h10.2⟩
   · cases h10
theorem gY {s:fT} {o:Bool} (h:eB s o=true):s.args.length≤6∧s.sigs.length≤6∧gO s.sigs=true∧(s.iter=true→s.res≠[])∧∀t∈dH s,(bH t).1=0∧(kZ t=true→o=true):=by
 unfold eB at h
 simp only[Bool.and_eq_true,decide_eq_true_eq,List.all_eq_true,Bool.or_eq_true,Bool.not_eq_true',Bool.and_eq_false_iff,decide_eq_false_iff_not] at h
 obtain⟨⟨⟨⟨h1,h2⟩,h3⟩,h4⟩,h5⟩:=h
 refine⟨h1,h2,h3,λh=>?_,λt ht=>⟨(h5 t ht).1,λho=>?_⟩⟩
 · rcases h4 with h4|h4
   · rw[h] at h4;cases h4
   · exact h4
 · rcases(h5 t ht).2 with h6|h6
   · rw[ho] at h6;cases h6
   · exact h6
end
theorem j6 {α:Type} (f:α→Bool):∀l:List α,(l.takeWhile f).length=l.length→∀x∈l,f x=true
 | [],_,x,h=>by cases h
 | a::l,h,x,hx=>by
  rw[List.takeWhile_cons] at h;split at h
  · rename_i ha
    rcases List.mem_cons.1 hx with rfl|hx
    · exact ha
    · exact j6 f l (by simpa using h) x hx
  · simp at h
theorem y5 {n:List UInt8} (h:isName n=true):∀c∈n,dK c=true:=by
 unfold isName at h
 cases n with
 | nil=>simp at h
 | cons a r=>
  simp only[Bool.and_eq_true,decide_eq_true_eq] at h;exact j6 dK _ h.1.2
def rP (s:List UInt8):fT:=
 let q:=if Lib.hasSuffix s [41]=true∧(bC [32,115,105,103,110,97,108,115,40] (Lib.trimSuffix s [41])).2.2=true then
  ((bC [32,115,105,103,110,97,108,115,40] (Lib.trimSuffix s [41])).1,aN 44 (bC [32,115,105,103,110,97,108,115,40] (Lib.trimSuffix s [41])).2.1) else(s,[])
 let y:=bC [32,121,105,101,108,100,115,32] q.1
 let r:=bC [32,114,101,116,117,114,110,115,32] q.1
 let u:=if y.2.2=true then(true,y.2.1,y.1) else if r.2.2=true then(false,r.2.1,r.1) else(false,[],q.1)
 ⟨u.1,if 5<u.2.2.length then iA (Lib.trimSuffix (u.2.2.drop 5) [41]) else [],u.2.1,q.2⟩
theorem pH:∀{l:List (List UInt8)},gO l=true→∀a∈l,isName a=true
 | [],_,a,h=>by cases h
 | [x],h,a,ha=>by rw[List.mem_singleton.1 ha];exact h
 | x::y::l,h,a,ha=>by
  unfold gO at h;simp only[Bool.and_eq_true] at h;rcases List.mem_cons.1 ha with rfl|ha
  · exact h.1.1
  · exact pH h.2 a ha
def dQ:List (List UInt8):=[[],[112,114,111,99],[105,116,101,114],[99,108,117,115,116,101,114]]
def aZ.IM (f:aZ) (o:dw):aZ:=⟨f.name,f.kind,f.par,f.aB++[o],f.ops⟩
def aZ.IP (f:aZ) (o:dw):aZ:=⟨f.name,f.kind,f.par,f.aB,f.ops++[o]⟩
def vg (rd:List UInt8→fT) (f:aZ) (l:List UInt8):aZ:=
 let a:=bC [32] l
 let b:=bC [32] a.2.1
 if a.1=[104,97,115] then f.IM ⟨b.1,rd b.2.1⟩ else f.IP ⟨b.1,rd b.2.1⟩
def pY (l:List UInt8):aZ:=
 let a:=bC [32] l
 ⟨Lib.trimSuffix a.2.1 [91,116,93],(dQ.idxOf a.1) % 4,Lib.hasSuffix a.2.1 [91,116,93],[],[]⟩
def iO (s:List UInt8):aZ:=
 match aN 10 (Lib.trimSuffix s [10]) with
 | []=>⟨[],0,false,[],[]⟩
 | l::ls=>ls.foldl (vg rP) (pY l)
def jx (rd:List UInt8→aZ) (s:List UInt8):aZ×Nat:=if(gm (rd s)).2=0∧(gm (rd s)).1=s then(rd s,0) else(⟨[],0,false,[],[]⟩,4)
theorem Fh {f:aZ} (h:(gm f).2=0):gT f=true∧(gm f).1=pT f:=by
 unfold gm at h ⊢
 split at h
 · rename_i hf;exact⟨hf,by rw[if_pos hf]⟩
 · simp at h
def Nz (s:List UInt8):Prop:=∀c∈s,c≠0
theorem Nz.append {a b:List UInt8} (ha:Nz a) (hb:Nz b):Nz (a++b):=λc hc=>by
 rcases List.mem_append.1 hc with h|h
 · exact ha c h
 · exact hb c h
theorem Nz.cons {c:UInt8} {a:List UInt8} (hc:c≠0) (ha:Nz a):Nz (c::a):=λx hx=>by
 rcases List.mem_cons.1 hx with rfl|h
 · exact hc
 · exact ha x h
theorem Nz.nil:Nz []:=λc hc=>by cases hc
theorem Nz.not {s:List UInt8} (h:Nz s):(0:UInt8)∉s:=λe=>h 0 e rfl
theorem cO {s:List UInt8} (h:(s.all λc=>decide (c≠0))=true):Nz s:=λc hc=>by
 rw[List.all_eq_true] at h
 simpa using h c hc
theorem jb {n:List UInt8} (h:isName n=true):Nz n:=λc hc=>by
 rintro rfl
 have:=y5 h 0 hc
 revert this
 decide
theorem G1 {k:Nat} {n:List UInt8} (h:k=1∨k=2∨k=3∨k=4∨k=5∨k=6∨k=8∨isName n=true):Nz (dr k n):=by
 unfold dr
 split
 · exact cO (by decide)
 · split
   · exact cO (by decide)
   · split
     · exact cO (by decide)
     · split
       · exact cO (by decide)
       · split
         · exact cO (by decide)
         · split
           · exact cO (by decide)
           · split
             · exact cO (by decide)
             · have hn:isName n=true:=by simp_all
               exact jb hn
theorem Dg {fo:Fo} (h:Nz fo.tx):Nz fo.br:=by
 cases fo with
 | nil=>exact Nz.nil
 | cons pn k n sub rest=>exact(h.append (Nz.nil.cons (by decide))).cons (by decide)
theorem Nq {b:Option (List UInt8)} {fo:Fo} (h:Wf b fo):Nz fo.tx:=by
 have one:∀{k:Nat} {n:List UInt8} {sub:Fo},(k=1∨k=2∨k=3∨k=4∨k=5∨k=6∨k=8∨isName n=true)→Nz sub.br→Nz (Fo.cons [] k n sub .nil).tx:=λhk hs=>by
  rw[Fo.dz];exact(G1 hk).append hs
 have JT:Nz Fo.nil.br:=Nz.nil
 have col:∀{n:List UInt8},isName n=true→Nz (n++[58]):=λhn=>(jb hn).append (Nz.nil.cons (by decide))
 induction h with
 | par=>exact one (by simp) JT
 | word k h=>exact one (by rcases h with h|h|h<;>simp[h]) JT
 | arr a h ih=>exact one (by simp) (Dg ih)
 | rcd k w fo hk h hl ih=>exact one (by rcases hk with⟨h,_⟩|⟨h,_⟩<;>simp[h]) (Dg ih)
 | nam n hn=>exact one (by simp[hn]) JT
 | app n a hn h ih=>exact one (by simp[hn]) (Dg ih)
 | last b pn k n sub hn hb h ih=>
  rw[Fo.jl,dF hn];exact(col hn).append ih
 | more b pn k n sub rest hn hb h h2 ih ih2=>
  rw[Fo.jm _ _ _ _ _ h2.ne,dF hn];exact(col hn).append (ih.append (ih2.cons (by decide)))
theorem AF {t:List UInt8} (h:(bH t).1=0):Nz t:=by
 obtain⟨h1,h2,_⟩:=rZ (s:=t) (t:=(bH t).2) (Prod.ext h rfl)
 have:=Nq (show Wf none (.one (bH t).2) from h1)
 rw[←Tr.l8,h2] at this
 exact this
theorem uq:∀{l:List (List UInt8)},(∀a∈l,Nz a)→Nz (di l)
 | [],_=>Nz.nil
 | [a],h=>h a (by simp)
 | a::b::l,h=>(h a (by simp)).append ((uq λx hx=>h x (by simp[hx])).cons (by decide))
theorem EY {s:fT} {o:Bool} (h:eB s o=true):Nz (zx s):=by
 obtain⟨_,_,h3,_,h5⟩:=gY h
 have ha:=uq λt (ht:t∈s.args)=>AF (h5 t (by unfold dH;simp[ht])).1
 have hg:=uq λt (ht:t∈s.sigs)=>jb (pH h3 t ht)
 have hr:Nz s.res:=by
  by_cases hr:s.res=[]
  · rw[hr];exact Nz.nil
  · exact AF (h5 s.res (by unfold dH;simp[hr])).1
 have k:∀w:List UInt8,(w.all λc=>decide (c≠0))=true→Nz w:=λw=>cO
 unfold zx
 refine(((Nz.append (by cases s.iter<;>exact cO (by decide)) ha).append (cO (by decide))).append ?_).append ?_
 · split
   · exact Nz.nil
   · exact Nz.append (by cases s.iter<;>exact cO (by decide)) hr
 · split
   · exact Nz.nil
   · exact((cO (by decide)).append hg).append (cO (by decide))
theorem FT {f:aZ} (h:gT f=true):Nz (pT f):=by
 obtain⟨h1,_,_,h4,_,_,_,h8,_⟩:=jM h
 unfold dx at h4
 simp only[Bool.and_eq_true,decide_eq_true_eq,List.all_eq_true] at h4
 have hl:∀(w:List UInt8) (o:dw),Nz w→Nz o.name→Nz (zx o.sig)→Nz (cG w o):=λw o hw hn hs=>by
  unfold cG;exact((((hw.append (cO (by decide))).append hn).append (cO (by decide))).append hs).append (cO (by decide))
 have hm:∀(w:List UInt8) (l:List dw),Nz w→(∀o∈l,Nz o.name∧Nz (zx o.sig))→Nz (l.flatMap (cG w)):=λw l hw hh c hc=>by
  obtain⟨o,ho,hc⟩:=List.mem_flatMap.1 hc;exact hl w o hw (hh o ho).1 (hh o ho).2 c hc
 unfold pT
 refine((((Nz.append ?_ (cO (by decide))).append (jb h1)).append ?_).append (cO (by decide)) |>.append (hm _ _ (cO (by decide)) λo ho=>⟨jb (pH h4.2 _ (List.mem_map_of_mem ho)),EY (h4.1.1 o ho)⟩)).append (hm _ _ (cO (by decide)) λo ho=>⟨jb (h8 o ho).1,EY (h8 o ho).2⟩)
 · split
   · exact cO (by decide)
   · split<;>exact cO (by decide)
 · split
   · exact cO (by decide)
   · exact Nz.nil
theorem GO {s:List UInt8} (h:(jx iO s).2=0):Nz s:=by
 unfold jx at h
 split at h
 · rename_i hw
   obtain⟨hf,ht⟩:=Fh hw.1;rw[←hw.2,ht];exact FT hf
 · cases h
end Go.Proofs.YtemjidmkolfgnaaGreatDoor
