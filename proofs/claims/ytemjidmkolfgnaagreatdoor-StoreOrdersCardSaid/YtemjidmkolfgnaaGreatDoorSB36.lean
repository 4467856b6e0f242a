/-
  Lemmas for the statement: contracts: slices.Index at texts; of the package face: the iterator of lines; Read. Conditions: bounds of lengths; the variable strings.asciiSpace.
-/
import Derived.Test.YtemjidmkolfgnaaGreatDoorSBn
import Derived.Test.YtemjidmkolfgnaaGreatDoorSB35
set_option maxHeartbeats 12800000
namespace Go.Proofs.YtemjidmkolfgnaaGreatDoor
open Go Go.RowKit
theorem Eg {x:List UInt8}:∀{L:List (List UInt8)} {i:Nat},(∀j,j<i→L[j]? ≠some x)→L[i]? =some x→L.idxOf x=i
 | [],_,_,h=>by simp at h
 | y::L,0,_,h=>by simp at h;simp[h]
 | y::L,i+1,hn,h=>by
  have hy:y≠x:=λe=>hn 0 (by omega) (by simp[e])
  have:=Eg (L:=L) (i:=i) (λj hj e=>hn (j+1) (by omega) (by simpa using e)) (by simpa using h);rw[List.idxOf_cons,this,show(y==x)=false by simp[hy]]
  rfl
set_option maxRecDepth 8000 in
theorem yQ {D:Nat→Prop} (L:List (List UInt8)) (x:List UInt8) (v:Value) (w:World) (hv:SS D w v L):
 Calls Tryz.prog 55 #[v,str x] w λe w'=>e=.returned (.int .i64 (if x∈L then(L.idxOf x:Int) else -1))∧w'=w:=by
 obtain⟨r,hr⟩:∃r:Int,(if x∈L then(L.idxOf x:Int) else -1)=r:=⟨_,rfl⟩
 rw[hr]
 have hr:=zh hr
 obtain⟨p,c,rfl,hle⟩:=hv.shape
 go_enter Tryz.func55,Tryz.ntmps55
 go_wp2_with fail
 go_loopw [8] (λa wx=>∃i:Nat,i≤L.length∧a=.int .i64 i∧wx=w∧∀j,j<i→L[j]? ≠some x) (λa _=>L.length - (intOf a).toNat)
 case atStart=>exact⟨0,Nat.zero_le _,by go_num,rfl,λj h=>absurd h (Nat.not_lt_zero _)⟩
 case round=>
  obtain⟨i,hi,rfl,rfl,hn⟩:=hrel
  by_cases hlt:i<L.length
  case neg=>
   obtain rfl:i=L.length:=by omega
   have hno:x∉L:=λh=>by
    obtain⟨j,hj⟩:=List.mem_iff_getElem?.1 h;exact hn j (List.getElem?_eq_some_iff.1 hj).1 hj
   obtain rfl:r= -1:=by rw[←hr.out,if_neg hno]
   clear hr hn hno;go_wp2_with fail;go_ret;exact⟨rfl,rfl⟩
  case pos =>
   obtain⟨y,hy⟩:∃y,L[i]? =some y:=⟨_,List.getElem?_eq_getElem hlt⟩
   obtain⟨b,o,rfl,_,hc⟩:=hv.at hy
   by_cases he:x=y
   case pos=>
    subst he;have hx:=Eg hn hy;obtain rfl:r=i:=by rw[←hr.out,if_pos (List.mem_iff_getElem?.2 ⟨i,hy⟩),hx]
    clear hr hn hy hx;go_wp2_with fail;go_ret;exact⟨rfl,rfl⟩
   case neg=>
    have hq:(x==y)=false:=by simp[he]
    have hn2:=zh (show ∀j,j<i+1→L[j]? ≠some x from λj hj e=>by
     by_cases h:j=i
     · subst h
       rw[hy] at e;exact he (Option.some.inj e).symm
     · exact hn j (by omega) e)
    have h63:(i:Int)+1≤9223372036854775807:=by have:=hle.2.1;unfold maxLen at this;omega
    clear hn hy hr;go_wp2_with fail;exact⟨⟨i+1,hlt,by go_num,trivial,hn2.out⟩,by simp only[intOf];omega⟩
attribute [local go_sem] Oper.semAt_some
theorem qq (s:List UInt8) (c:UInt8) (w:World) (hs:s.length≤100000) (hm:fe w):
 Calls Tryz.prog 138 #[str s,str [c]] w λe w'=>e=.returned (.slice (some ⟨w.heap.size,0,none⟩) (aN c s).length (aN c s).length)∧w'=w.alloc (.cells ((aN c s).map str).toArray 9):=by
 obtain⟨m,hm⟩:=hm
 refine(Tryz.strings_Split ⟨s.toArray⟩ ⟨[c].toArray⟩ m w (by show s.toArray.size<_;simp;omega) hm (by show 1≤[c].toArray.size;simp)).mono ?_
 rintro e w' ⟨rfl,rfl⟩
 have hq:=s9 c s.length s zr
 have hlen:Lib.countB ⟨s.toArray⟩ ⟨[c].toArray⟩+1=(aN c s).length:=by
  have h1:=congrArg List.length hq;rw[List.length_map,Lib.splitB_all _ (by show 1≤[c].toArray.size;simp) 0 _ _ rfl] at h1
  simpa[aA] using h1
 rw[hq,hlen]
 exact⟨rfl,rfl⟩
structure KY where
 s:List UInt8
 le:s.length≤100000
theorem Ew:∀l:List (List UInt8),(∀a∈l,a.length≤100000)→∃m:List KY,m.map (·.s)=l
 | [],_=>⟨[],rfl⟩
 | a::l,h=>by
  obtain⟨m,hm⟩:=Ew l λx hx=>h x (by simp[hx])
  exact⟨⟨a,h a (by simp)⟩::m,by rw[List.map_cons,hm]⟩
set_option maxRecDepth 4000 in
theorem wQ (s:List UInt8) (hs:s.length≤100000) {B:Nat} {w:World} (n:Nat) (hB:w.heap[B]? =some (.cells #[str s] 9 (0,0))) (hM:∀W,Below w.heap.size w W→fe W):
 SeqStopsK Fence.wide n Tryz.prog 137 #[.pointer (some ⟨B,0,none⟩)] (λx:KY=> #[str x.s]) gp (λxs=>xs.map (·.s)=aN 10 (Lib.trimSuffix s [10])) (λxs=>xs.map (·.s)<+:aN 10 (Lib.trimSuffix s [10])) (aN 10 (Lib.trimSuffix s [10])).length w:=by
 intro l J Jx W hW hJ _ hY h0
 have OM:=(hW.block B (Array.getElem?_eq_some_iff.1 hB).1).trans hB
 have c0:=(af OM 0).trans rfl
 have HT:=jw s [10] W hs
 have HS:=qq (Lib.trimSuffix s [10]) 10 W (by have:=fQ s [10];omega) (hM W hW)
 have yy:=gI 10 (Lib.trimSuffix s [10])
 have htl:=fQ s [10]
 have hbd:∀a∈aN 10 (Lib.trimSuffix s [10]),a.length≤100000:=λa ha=>by have:=kK 10 _ a ha;omega
 generalize aN 10 (Lib.trimSuffix s [10])=LL at *
 obtain⟨LS,rfl⟩:=Ew LL hbd
 clear hbd
 simp only[List.length_map] at yy hY
 simp only[List.length_map,List.map_map] at HS
 refine callsIn_of_wp Tryz.func137 rfl trivial ?_ rfl
 simp only[Tryz.ntmps137,List.size_toArray,List.length_cons,List.length_nil,Nat.reduceAdd,Nat.reduceSub,Array.replicate_succ,Array.replicate_zero,List.push_toArray,List.append_toArray,List.nil_append,List.cons_append]
 gi_wp2_with (first
  | (refine⟨trivial,cQ _,?_⟩;gi_at_call 139;refine(callsIn_wide.2 HT).mono ?_;clear HT;rintro e W1 ⟨rfl,rfl⟩)
  | (refine⟨trivial,cQ _,?_⟩;gi_at_call 138;refine(callsIn_wide.2 HS).mono ?_;clear HS;rintro e W2 ⟨rfl,rfl⟩))
 have hV:=heap_alloc_new W (.cells (LS.map (str ∘ (·.s))).toArray 9)
 have NN:=hJ [] _ _ none h0 (World.grownBy_alloc W (.cells (LS.map (str ∘ (·.s))).toArray 9) none) (λr e=>by cases e)
 gi_loopw [9] (λa wr=>∃i:Nat,i≤LS.length∧a=.int .i64 i∧wr.heap[W.heap.size]? =some (.cells (LS.map (str ∘ (·.s))).toArray 9 (0,0))∧J (LS.take i) wr) (λa _=>LS.length - (intOf a).toNat)
 case atStart=>exact⟨0,Nat.zero_le _,rfl,hV,NN⟩
 case round=>
  obtain⟨i,hi,rfl,Pz,CD⟩:=hrel
  by_cases hlt:i<LS.length
  case pos=>
   obtain⟨y,hy⟩:∃y,LS[i]? =some y:=⟨_,List.getElem?_eq_getElem hlt⟩
   have hc:wr.cell? ⟨W.heap.size,0+i,none⟩=some (str y.s):=by rw[Nat.zero_add,af Pz i];simp[hy]
   have yp:wr.cell? ⟨W.heap.size,i,none⟩=some (str y.s):=by rw[af Pz i];simp[hy]
   obtain⟨fn,tmps,assign,body,KJ,hR⟩:=hY (LS.take i) y wr CD (by rw[List.length_take];omega);have hT:=zh (show LS.take i++[y]=LS.take (i+1) by rw[List.take_add_one,hy];rfl);have h63:(i:Int)+1≤9223372036854775807:=by omega
   have hP:=zh (show(LS.take (i+1)).map (·.s)<+:LS.map (·.s) from(List.take_prefix _ _).map _);clear hY hy
   gi_wp2
   refine⟨cQ _,?_⟩;refine hR.mono ?_;clear hR KJ;rintro e W2 (⟨rfl,F3,hk⟩|⟨rfl,Rw⟩)
   · have Uh:=hk _ _ _ Pz
     rw[hT.out] at F3
     gi_wp2
     exact⟨⟨i+1,hlt,by go_num,Uh,F3⟩,by simp only[intOf];omega⟩
   · rw[hT.out] at Rw
     gi_wp2
     refine bodyPost_ret (results_none rfl _ _ _) rfl ?_;exact⟨⟨_,rfl⟩,.inr ⟨_,hP.out,Rw⟩⟩
  case neg=>
   obtain rfl:i=LS.length:=by omega
   rw[List.take_length] at CD
   gi_wp2
   go_end0
   exact⟨⟨_,rfl⟩,.inl ⟨_,rfl,CD⟩⟩
theorem BC (s:List UInt8) (m:Nat) (w:World):CallsIn Fence.wide m Tryz.prog 103 #[str s] w λe w'=>e=.returned (.func (.func 137) #[] #[.pointer (some ⟨w.heap.size,0,none⟩)])∧w'=w.alloc (.cells #[str s] 9):=by
 refine callsIn_of_wp Tryz.func103 rfl trivial ?_ rfl
 simp only[Tryz.ntmps103,List.size_toArray,List.length_cons,List.length_nil,Nat.reduceAdd,Nat.reduceSub,Array.replicate_succ,Array.replicate_zero,List.push_toArray,List.append_toArray,List.nil_append,List.cons_append]
 gi_wp2
 go_ret
 exact⟨rfl,rfl⟩
def jD:List (List UInt8)→aZ
 | []=>⟨[],0,false,[],[]⟩
 | l::ls=>ls.foldl (vg rP) (pY l)
theorem AP {pre:List (List UInt8)} (h:pre≠[]) (x:List UInt8):jD (pre++[x])=vg rP (jD pre) x:=by
 cases pre with
 | nil=>exact absurd rfl h
 | cons l ls=>
  show(ls++[x]).foldl (vg rP) (pY l)=_
  rw[List.foldl_append]
  rfl
theorem rW:∀pre:List (List UInt8),(jD pre).aB.length+(jD pre).ops.length+1≤pre.length+1 - 0∧(pre≠[]→(jD pre).aB.length+(jD pre).ops.length+1≤pre.length):=by
 have key:∀(ls:List (List UInt8)) (f:aZ),(ls.foldl (vg rP) f).aB.length+(ls.foldl (vg rP) f).ops.length=f.aB.length+f.ops.length+ls.length:=by
  intro ls
  induction ls with
  | nil=>intro f;rfl
  | cons l ls ih=>
   intro f;rw[List.foldl_cons,ih];unfold vg aZ.IM aZ.IP;dsimp only;split<;>simp<;>omega
 intro pre
 cases pre with
 | nil=>exact⟨by simp[jD],λh=>absurd rfl h⟩
 | cons l ls=>
  have:=key ls (pY l);have h0:(pY l).aB.length+(pY l).ops.length=0:=rfl;unfold jD;simp only[List.length_cons];exact⟨by omega,λ_=>by omega⟩
theorem Eo (x:List UInt8):∃(r:Int) (k:Nat),(if x∈dQ then(dQ.idxOf x:Int) else -1)=r∧dQ.idxOf x % 4=k∧k<4∧max 0 r=(k:Int):=by
 by_cases h:x∈dQ
 · have h4:dQ.idxOf x<4:=List.idxOf_lt_length_of_mem h
   exact⟨_,_,rfl,rfl,by omega,by rw[if_pos h];omega⟩
 · have h4:dQ.idxOf x=4:=List.idxOf_eq_length h
   exact⟨_,_,rfl,rfl,by omega,by rw[if_neg h,h4];decide⟩
theorem BW {w:World} {b:Nat} {c0 c1 c2 c3 c4:Value} {t:TypeId} (h:w.heap[b]? =some (.cells #[c0,c1,c2,c3,c4] t (0,0))) (a0 a1 a2 a3 a4:Value):(ia w b a0 a1 a2 a3 a4).heap[b]? =some (.cells #[a0,a1,a2,a3,a4] t (0,0)):=
 heap_setCell_same _ b 4 _ t a4 (heap_setCell_same _ b 3 _ t a3 (heap_setCell_same _ b 2 _ t a2 (heap_setCell_same _ b 1 _ t a1 (heap_setCell_same _ b 0 _ t a0 h))))
theorem xy {w:World} {b k:Nat} (h:k≠b) (a0 a1 a2 a3 a4:Value):(ia w b a0 a1 a2 a3 a4).heap[k]? =w.heap[k]? :=by
 unfold ia
 rw[heap_setCell_other _ _ _ _ h,heap_setCell_other _ _ _ _ h,heap_setCell_other _ _ _ _ h,heap_setCell_other _ _ _ _ h,heap_setCell_other _ _ _ _ h]
structure Ol (w:World) (N:Nat) (pre:List KY) (W:World):Prop where
 cV:Below N w W
 size:N+4≤W.heap.size
 res:W.heap[N]? =some (.cells #[.string ⟨#[]⟩,.int .u8 0,.bool false,.slice none 0 0,.slice none 0 0] 123 (0,0))
 first :W.heap[N+1+1]? =some (.cells #[.bool pre.isEmpty] 4 (0,0))
 len:(jD (pre.map (·.s))).name.length≤maxLen
 aO:∃nv ov,W.heap[N+1]? =some (.cells #[str (jD (pre.map (·.s))).name,.int .u8 (jD (pre.map (·.s))).kind,.bool (jD (pre.map (·.s))).par,nv,ov] 123 (0,0))∧cL 179 181 (N+4) W nv ov (jD (pre.map (·.s))).aB (jD (pre.map (·.s))).ops
theorem GN (w:World) (N:Nat):OwnFrom (N+4) (Ol w N):=by
 intro pre W W' row h hg hr
 have hne:∀{b:Nat} {x:Obj},W.heap[b]? =some x→x.isCells=true→W'.heap[b]? =some x:=λhb hc=>
  (hg.block _ (Array.getElem?_eq_some_iff.1 hb).1 (λe=>by
   obtain⟨_,o,ho,hn⟩:=hr _ e.symm;rw[hb] at ho;cases ho;rw[hc] at hn;cases hn)).trans hb
 obtain⟨nv,ov,hf,hR⟩:=h.aO
 exact⟨h.cV.grown hg (by have:=h.size;omega) (λk e=>by have:=(hr k e).1;omega),Nat.le_trans h.size hg.size,hne h.res rfl,hne h.first rfl,h.len,nv,ov,hne hf rfl,hR.grown hg λr e=>(hr r e).2⟩
set_option maxRecDepth 8000 in
theorem A5 (s:List UInt8) (w:World) (hs:s.length≤100000) (yy:(aN 10 (Lib.trimSuffix s [10])).length≤10001) (ht:gx w) (hm:fe w):
 Calls Tryz.prog 61 #[str s] w λe w'=>∃v,e=.returned (.tuple #[v,.int .i64 (jx iO s).2])∧kQ (λb=>w.heap.size≤b) w' v (jx iO s).1∧Below w.heap.size w w':=by
 obtain⟨RS,hRS⟩:∃RS,jx iO s=RS:=⟨_,rfl⟩
 rw[hRS]
 have hRS:=zh hRS
 have HM:=zh (λW (hW:Below w.heap.size w W)=>hm.below hW)
 have HT:=zh (λW (hW:Below w.heap.size w W)=>ht.below hW zr)
 have b0:=((((zb w).alloc zr (.cells #[.string ⟨#[]⟩,.int .u8 0,.bool false,.slice none 0 0,.slice none 0 0] 123)).alloc (by simp) (.cells #[.string ⟨#[]⟩,.int .u8 0,.bool false,.slice none 0 0,.slice none 0 0] 123)).alloc (by simp;omega) (.cells #[.bool true] 4)).alloc (by simp;omega) (.cells #[str s] 9)
 refine(callsIn_wide (n:=6)).1 ?_
 refine callsIn_of_wp_marks Tryz.func61 rfl trivial ?_ rfl
 simp only[Tryz.ntmps61,List.size_toArray,List.length_cons,List.length_nil,Nat.reduceAdd,Nat.reduceSub,Array.replicate_succ,Array.replicate_zero,List.push_toArray,List.append_toArray,List.nil_append,List.cons_append]
 gi_wp2_with (refine⟨trivial,?_⟩;gi_at_call 103;refine(BC s _ _).mono ?_;rintro e w' ⟨rfl,rfl⟩)
 have hz:((((w.alloc (.cells #[.string ⟨#[]⟩,.int .u8 0,.bool false,.slice none 0 0,.slice none 0 0] 123)).alloc (.cells #[.string ⟨#[]⟩,.int .u8 0,.bool false,.slice none 0 0,.slice none 0 0] 123)).alloc (.cells #[.bool true] 4)).alloc (.cells #[str s] 9)).heap.size=w.heap.size+4:=by simp
 have hI0:Ol w w.heap.size [] ((((w.alloc (.cells #[.string ⟨#[]⟩,.int .u8 0,.bool false,.slice none 0 0,.slice none 0 0] 123)).alloc (.cells #[.string ⟨#[]⟩,.int .u8 0,.bool false,.slice none 0 0,.slice none 0 0] 123)).alloc (.cells #[.bool true] 4)).alloc (.cells #[str s] 9)):=
  ⟨b0,by simp,aK _ (aK _ (aK _ (heap_alloc_new w _))),aK _ (gV (by simp) _ _),Nat.zero_le _,.slice none 0 0,.slice none 0 0,aK _ (aK _ (gV (by simp) _ _)),cL.nil _ _ _ _⟩
 have Ij:((((w.alloc (.cells #[.string ⟨#[]⟩,.int .u8 0,.bool false,.slice none 0 0,.slice none 0 0] 123)).alloc (.cells #[.string ⟨#[]⟩,.int .u8 0,.bool false,.slice none 0 0,.slice none 0 0] 123)).alloc (.cells #[.bool true] 4)).alloc (.cells #[str s] 9)).heap[w.heap.size+1+1+1]? =some (.cells #[str s] 9 (0,0)):=gV (by simp) _ _
 have hle:w.heap.size≤((((w.alloc (.cells #[.string ⟨#[]⟩,.int .u8 0,.bool false,.slice none 0 0,.slice none 0 0] 123)).alloc (.cells #[.string ⟨#[]⟩,.int .u8 0,.bool false,.slice none 0 0,.slice none 0 0] 123)).alloc (.cells #[.bool true] 4)).alloc (.cells #[str s] 9)).heap.size:=by omega
 generalize (((w.alloc (.cells #[.string ⟨#[]⟩,.int .u8 0,.bool false,.slice none 0 0,.slice none 0 0] 123)).alloc (.cells #[.string ⟨#[]⟩,.int .u8 0,.bool false,.slice none 0 0,.slice none 0 0] 123)).alloc (.cells #[.bool true] 4)).alloc (.cells #[str s] 9)=W0 at *
 have vR:=GN w w.heap.size
 rw[←hz] at vR
 refine wpIn_rangeFunc_ownH (α:=KY) rfl (show 1≤6 by decide) (gf:=137) (lb:= #[.pointer (some ⟨w.heap.size+1+1+1,0,none⟩)]) rfl trivial (enters_of Tryz.func137 (by kernel_rfl) rfl)
  (wQ s hs 5 Ij λW hW=>HM.out W (b0.trans (aa hW hle))) (λh k=>h.trans k) (λW l o o' _ h1 h2 _=>gp.putObj h1 h2 o') (zb _) (λ_=>rfl)
  (λpre W=>Ol w w.heap.size pre W) (λ_ _ _=>False) vR (λ_=>EH.from _) hI0
  (λx a' _=>a'={tmps:= #[str s,undef,.pointer (some ⟨w.heap.size,0,none⟩),.int .i64 0,.pointer (some ⟨w.heap.size+1,0,none⟩),.pointer (some ⟨w.heap.size+1+1,0,none⟩),str x.s,undef,undef,undef,undef,undef,undef,undef,undef,undef,str s,.func (.func 137) #[] #[.pointer (some ⟨w.heap.size+1+1+1,0,none⟩)],str x.s,undef,undef,undef,undef,undef,undef,undef,undef,undef,undef,undef,undef,undef,undef,undef,undef,undef,undef,undef,undef,undef,undef,undef,undef,undef,undef,undef,undef,undef,undef,undef,undef,undef,undef,undef,undef,undef,undef,undef,undef,undef,undef,undef,undef,undef,undef,undef,undef,undef,undef,undef,undef,undef,undef,undef,undef,undef,undef,undef,undef,undef],defers:=[] })
  (λx a' _ W W' row h hg hr=>h) ?assign ?body ?done ?stop
 case assign=>
  rintro l pre x W K hI hK
  gi_wp2
  exact hK _ _ (KeepsFrom.refl _ _) (gp.refl _) hI rfl
 case body =>
  rintro l pre x a' W hl ⟨r,hr⟩ hI rfl hlen;have HC:=zh (λW (hW:Below w.heap.size w W)=>iI x.s [32] W x.le (by simp) (HM.out W hW));obtain⟨nv,ov,hF,hR⟩:=hI.aO
  by_cases hp:pre=[]
  case pos=>
   subst hp;have c5:=(af hI.first 0).trans rfl
   replace hF:W.heap[w.heap.size+1]? =some (.cells #[str [],.int .u8 0,.bool false,nv,ov] 123 (0,0)):=hF
   replace hR:cL 179 181 (w.heap.size+4) W nv ov [] []:=hR
   have hH:pY x.s=⟨Lib.trimSuffix (bC [32] x.s).2.1 [91,116,93],dQ.idxOf (bC [32] x.s).1 % 4,Lib.hasSuffix (bC [32] x.s).2.1 [91,116,93],[],[]⟩:=rfl;have hcl:=fJ (p:=[32]) x.s;have hxl:=x.le;have KQ:=λW=>jS (bC [32] x.s).2.1 [91,116,93] W (by omega)
   have HI:=λW v (hv:SS Any W v dQ)=>yQ dQ (bC [32] x.s).1 v W hv
   generalize bC [32] x.s=CR at *;obtain⟨a1,a2,a3⟩:=CR;dsimp only at *;obtain⟨r,kd,hr,hk,Ky,hmx⟩:=Eo a1;rw[hr] at HI;rw[hk] at hH;have hH:=zh hH;clear hr hk
   gi_wp2_with (first
    | (refine⟨trivial,?_⟩;gi_at_call 104;refine(CallsIn.inRound l (callsIn_wide.2 (HC.out _ hI.cV))).mono ?_;rintro e w1 ⟨rfl,aP⟩;have Nu:=(af (ag hI.first aP) 0).trans rfl;have f51:=au (ag hI.first aP) 0)
    | (refine⟨trivial,?_⟩;gi_at_call 105;refine(CallsIn.inRound l (callsIn_wide.2 (sI _))).mono ?_;rintro e w2 ⟨rfl,bO⟩;skip)
    | (refine⟨trivial,?_⟩;gi_at_call 55;refine(CallsIn.inRound l (callsIn_wide.2 (HI _ _ (SS.new Any w2 trivial dQ 172 (0,0) (by decide) (by decide))))).mono ?_;rintro e w3 ⟨rfl,rfl⟩;have F4:=aK (.cells (aA dQ).toArray 172) (ag ((heap_setCell_other w1 ⟨w.heap.size+1+1,0,none⟩ (w.heap.size+1) (.bool false) (by simp)).trans (ag hF aP)) bO);have bx:=cH F4)
    | (refine⟨trivial,?_⟩;gi_at_call 106;refine(CallsIn.inRound l (callsIn_wide.2 (KQ _))).mono ?_;rintro e w4 ⟨rfl,rfl⟩))
   have JC:iT W w1:=iT.ai aP;have hn2:=(JC.set (p:=⟨w.heap.size+1+1,0,none⟩) (ag hI.first aP) (by decide) (.bool false)).trans (iT.ai bO);have Qc:=hn2.trans (iT.ai ((zb w2).alloc zr (.cells (aA dQ).toArray 172)));have k5:=heap_setCell_same _ _ 1 _ _ (.int .u8 kd) F4;have k6:=heap_setCell_same _ _ 0 _ _ (str (Lib.trimSuffix a2 [91,116,93])) k5;have k7:=heap_setCell_same _ _ 2 _ _ (.bool (Lib.hasSuffix a2 [91,116,93])) k6;have Mx:=((Qc.set (p:=⟨w.heap.size+1,1,none⟩) F4 (by decide) (.int .u8 kd)).set (p:=⟨w.heap.size+1,0,none⟩) k5 (by decide) (str (Lib.trimSuffix a2 [91,116,93]))).set (p:=⟨w.heap.size+1,2,none⟩) k6 (by decide) (.bool (Lib.hasSuffix a2 [91,116,93]));have hs1:=hI.size;have B1:=hI.cV.trans (aa aP hI.cV.size);have B2:=(B1.setCell (p:=⟨w.heap.size+1+1,0,none⟩) (by simp only;omega) (.bool false));have B3:=(B2.trans (aa bO B2.size)).alloc (Nat.le_trans B2.size bO.size) (.cells (aA dQ).toArray 172);have B6:=((B3.setCell (p:=⟨w.heap.size+1,1,none⟩) (by simp only;omega) (.int .u8 kd)).setCell (p:=⟨w.heap.size+1,0,none⟩) (by simp only;omega) (str (Lib.trimSuffix a2 [91,116,93]))).setCell (p:=⟨w.heap.size+1,2,none⟩) (by simp only;omega) (.bool (Lib.hasSuffix a2 [91,116,93]));have g1:=aK (.cells (aA dQ).toArray 172) (ag (heap_setCell_same w1 _ 0 _ _ (.bool false) (ag hI.first aP)) bO);have r1:=aK (.cells (aA dQ).toArray 172) (ag ((heap_setCell_other w1 ⟨w.heap.size+1+1,0,none⟩ w.heap.size (.bool false) (by simp only;omega)).trans (ag hI.res aP)) bO);have up:∀{b:Nat} {o:Obj} {W3:World} {u1 u2 u3:Value},b≠w.heap.size+1→W3.heap[b]? =some o→(((W3.setCell ⟨w.heap.size+1,1,none⟩ u1).setCell ⟨w.heap.size+1,0,none⟩ u2).setCell ⟨w.heap.size+1,2,none⟩ u3).heap[b]? =some o:=λhne h=>by
    rw[heap_setCell_other _ _ _ _ (λe=>hne e),heap_setCell_other _ _ _ _ (λe=>hne e),heap_setCell_other _ _ _ _ (λe=>hne e)];exact h
   refine⟨Mx.from _,Mx.s,?_⟩;have hacc:jD (([]++[x]:List KY).map (·.s))=⟨Lib.trimSuffix a2 [91,116,93],kd,Lib.hasSuffix a2 [91,116,93],[],[]⟩:=hH.out;have htr:=fQ a2 [91,116,93];refine⟨B6,Nat.le_trans hs1 Mx.z,up (by omega) r1,up (by omega) g1,by rw[hacc];show(Lib.trimSuffix a2 [91,116,93]).length≤maxLen;unfold maxLen;omega,?_⟩;rw[hacc];have R2:=(((hR.below aP zr).set (a:=⟨w.heap.size+1+1,0,none⟩) (by simp only;omega) (.bool false)).below bO zr).below ((zb w2).alloc zr (.cells (aA dQ).toArray 172)) zr;exact⟨nv,ov,k7,((R2.set (a:=⟨w.heap.size+1,1,none⟩) (by simp only;omega) (.int .u8 kd)).set (a:=⟨w.heap.size+1,0,none⟩) (by simp only;omega) (str (Lib.trimSuffix a2 [91,116,93]))).set (a:=⟨w.heap.size+1,2,none⟩) (by simp only;omega) (.bool (Lib.hasSuffix a2 [91,116,93]))⟩
  case neg =>
   have HL:=AP (pre:=pre.map (·.s)) (by simpa using hp) x.s;have hrows:=(rW (pre.map (·.s))).2 (by simpa using hp);rw[List.length_map] at hrows;have sB:=hI.len;have hmap:(pre++[x]).map (·.s)=pre.map (·.s)++[x.s]:=by simp
   generalize jD (pre.map (·.s))=F at *;obtain⟨fn,fk,fp,N,M⟩:=F;dsimp only at hF hR hrows sB;have hem:pre.isEmpty=false:=by cases pre<;>simp at hp ⊢
   have c5:=(af hI.first 0).trans rfl;rw[hem] at c5;obtain⟨pn,cn,po,co,rfl,rfl⟩:=hR.shape;have hcl:=fJ (p:=[32]) x.s;have hxl:=x.le;unfold vg aZ.IM aZ.IP at HL;dsimp only at HL;generalize bC [32] x.s=CR at *;obtain⟨a1,a2,a3⟩:=CR;dsimp only at hcl HC HL;have Gf:=fJ (p:=[32]) a2;have KQ:=zh (λW (hW:Below w.heap.size w W)=>iI a2 [32] W (by omega) (by simp) (HM.out W hW));generalize bC [32] a2=CR2 at *;obtain⟨y1,y2,y3⟩:=CR2;dsimp only at Gf KQ HL;have D4:=λW (hW:Below w.heap.size w W)=>Er y2 W (by omega) (HM.out W hW)
   generalize rP y2=SG at *;have Sz:y1.length≤maxLen:=by unfold maxLen;omega
   have HL:=zh HL;have hNM:N.length+M.length+1≤10000:=by omega
   have hnl:fn.length≤maxLen:=sB;have Mi:(pre++[x]).isEmpty=false:=by simp
   clear hrows sB hcl Gf
   by_cases hx:a1=[104,97,115]
   case pos=>
    subst hx;have hq:(([104,97,115]:List UInt8)==[104,97,115])=true:=rfl;have HL:=zh (HL.out.trans (if_pos rfl))
    gi_wp2_with (first
     | (refine⟨trivial,?_⟩;gi_at_call 104;refine(CallsIn.inRound l (callsIn_wide.2 (KQ.out _ B1))).mono ?_;rintro e w2 ⟨rfl,bO⟩;have B2:=B1.trans (aa bO B1.size))
     | (refine⟨trivial,?_⟩;gi_at_call 104;refine(CallsIn.inRound l (callsIn_wide.2 (HC.out _ hI.cV))).mono ?_;rintro e w1 ⟨rfl,aP⟩;have Nu:=(af (ag hI.first aP) 0).trans rfl;rw[hem] at Nu;have B1:=hI.cV.trans (aa aP hI.cV.size)))
    have hk2:iT W w2:=(iT.ai aP).trans (iT.ai bO);have OT:=ag (ag hF aP) bO;have LZ:=(hR.below aP zr).below bO zr;have Je:=ag (ag hI.res aP) bO;have Lv:=ag (ag hI.first aP) bO;rw[hem] at Lv;have F2:w.heap.size+4≤w2.heap.size:=Nat.le_trans hI.size (Nat.le_trans aP.size bO.size);refine jX (D:=λb=>w2.heap.size≤b) (w:=w2) (O:=w.heap.size+1) (f:=3) 7 [(4,vP (w.heap.size+1) 0),(11,vT y1),(12,vT y2)] [vP (w.heap.size+1) 3,.eq (.slice pn N.length cn),vT y1,vT y2,.sig SG,.op ⟨y1,SG⟩,.prop λw v=>rj 179 (λb=>w2.heap.size≤b) w2.heap.size w v [⟨y1,SG⟩]] (λw'=>w'.heap[w.heap.size+1]? =some (.cells #[str fn,.int .u8 fk,.bool fp,.slice pn N.length cn,.slice po M.length co] 123 (0,0))∧cL 179 181 (w.heap.size+4) w' (.slice pn N.length cn) (.slice po M.length co) N M∧Below w2.heap.size w2 w') (λv w'=>cL 179 181 (w.heap.size+4) w' v (.slice po M.length co) (N++[⟨y1,SG⟩]) M) (λw'=>w'.heap[w.heap.size+1]? =some (.cells #[str fn,.int .u8 fk,.bool fp,.slice pn N.length cn,.slice po M.length co] 123 (0,0))∧Below (w.heap.size+4) w2 w'∧iT w2 w') (λw'=>∃u,w'.heap[w.heap.size+1]? =some (.cells #[str fn,.int .u8 fk,.bool fp,u,.slice po M.length co] 123 (0,0))∧cL 179 181 (w.heap.size+4) w' u (.slice po M.length co) (N++[⟨y1,SG⟩]) M∧Below w.heap.size w2 w'∧iT w2 w'∧w'.heap[w.heap.size]? =some (.cells #[.string ⟨#[]⟩,.int .u8 0,.bool false,.slice none 0 0,.slice none 0 0] 123 (0,0))∧w'.heap[w.heap.size+1+1]? =some (.cells #[.bool false] 4 (0,0))) (by kernel_rfl) (λ⟨_,_,h⟩=>h) (by kernel_rfl) rfl rfl rfl rfl rfl rfl ⟨?_,?_⟩
     (λw1 w2 h hb=>⟨ag h.1 hb,h.2.1.below hb zr,h.2.2.trans (aa hb h.2.2.size)⟩) (λv w1 w2 h hb=>h.below hb zr) (λw1 w2 h hb=>⟨ag h.1 hb,h.2.1.trans (aa hb (Nat.le_trans F2 h.2.1.size)),h.2.2.trans (iT.ai hb)⟩)
     ⟨ag OT (zb w2).drew,LZ.below (zb w2).drew zr,(zb w2).drew⟩ ⟨rfl,rfl,rfl,trivial⟩ ?_ ?_ (λv w h=>by obtain⟨p,c,q,d,e1,e2⟩:=h.shape;exact⟨p,_,c,e1⟩) (λw h=>⟨_,(cH h.1).1.2.2.2.1,rfl,au h.1 3⟩)
     (λv wx h1 h2=>⟨v,GV h2.1 _,h1.set (a:=⟨w.heap.size+1,3,none⟩) (by simp only;omega) _,(aa h2.2.1 (by omega)).setCell (p:=⟨w.heap.size+1,3,none⟩) (by simp only;omega) _,h2.2.2.set (p:=⟨w.heap.size+1,3,none⟩) h2.1 (by decide) _,
      (heap_setCell_other wx ⟨w.heap.size+1,3,none⟩ w.heap.size v (by simp only;omega)).trans ((h2.2.1.block _ (by omega)).trans Je),(heap_setCell_other wx ⟨w.heap.size+1,3,none⟩ (w.heap.size+1+1) v (by simp only;omega)).trans ((h2.2.1.block _ (by omega)).trans Lv)⟩) ?_
    · intro a wx hout Q next hn
      have e:=kU (x:=.pointer (some ⟨w.heap.size+1,0,none⟩)) (hout 4 (bG (by kernel_rfl)));unfold Oper.wp;simp only[execOp];simp[go_sem,e];exact hn
    · intro a wx p n c u e1 e2 e3 e4 e5 Q next hn
      have e1:=kU e1;have e2:=kU e2;unfold Oper.wp;simp only[execOp];simp[go_sem,e1,e2,e3,e5];exact hn
    · iterate 7
       refine And.intro ?_ ?_
       · first
         | exact iU rfl rfl (by kernel_rfl)
         | exact gQ rfl (by kernel_rfl) rfl rfl (λw=>by simp[go_sem])
         | exact dV rfl (by kernel_rfl) rfl rfl (λw hS=>by have c1:=cH hS.1;simp[go_sem,c1])
         | exact uS (s1:=vT y2) rfl (enters_of Tryz.func107 (by kernel_rfl) rfl) (by kernel_rfl) rfl rfl (λv wx hS h1=>by rw[show v=_ from h1];exact(D4 wx (B2.trans (aa hS.2.2 B2.size))).mono (by rintro e w3 ⟨u,rfl,hu,cK⟩;exact⟨_,rfl,hu.mono λb hb=>Nat.le_trans hS.2.2.size hb,cK⟩))
         | exact E0 rfl (.inr rfl) (by kernel_rfl) rfl rfl rfl Sz
         | exact E3 rfl (.inr ⟨rfl,rfl⟩) (by kernel_rfl) rfl rfl (λw hS=>hS.2.2.size)
      exact trivial
    · intro a wx hS hV next hn
      have eL:a.eval (.tmp 49)=.slice pn N.length cn:=hV 1 _ 49 (by decide) rfl rfl;have hR:rj 179 (λb=>w2.heap.size≤b) w2.heap.size wx (a.eval (.tmp 54)) [⟨y1,SG⟩]:=hV 6 _ 54 (by decide) rfl rfl wx (zb _);exact jy BT (by decide) (.tmp 49) (.tmp 54) rfl eL rfl hS.2.1 hR (by simp) (λb hb=>LZ.apart F2 hb) (by simp;omega) (Nat.le_trans F2 hS.2.2.size) (by decide) (λv' w' h1 h2 h3 h4=>hn v' w' h1 ⟨(h2.block _ (by omega)).trans hS.1,(aa hS.2.2 F2).trans h2,(iT.ai hS.2.2).trans ⟨h3,h4,h2.size⟩⟩)
    · intro a wx hS
      obtain⟨u,hg',hr',hb',hk',JF,Jt⟩:=hS;have hk:=hk2.trans hk';refine⟨hk.from _,hk.s,?_⟩;refine⟨B2.trans hb',Nat.le_trans hI.size hk.z,JF,by rw[Mi];exact Jt,by rw[hmap,HL.out];exact hnl,?_⟩;rw[hmap,HL.out];exact⟨_,_,hg',hr'⟩
   case neg=>
    have hq:(a1==[104,97,115])=false:=by simp[hx]
    have HL:=zh (HL.out.trans (if_neg hx))
    gi_wp2_with (first
     | (refine⟨trivial,?_⟩;gi_at_call 104;refine(CallsIn.inRound l (callsIn_wide.2 (KQ.out _ B1))).mono ?_;rintro e w2 ⟨rfl,bO⟩;have B2:=B1.trans (aa bO B1.size))
     | (refine⟨trivial,?_⟩;gi_at_call 104;refine(CallsIn.inRound l (callsIn_wide.2 (HC.out _ hI.cV))).mono ?_;rintro e w1 ⟨rfl,aP⟩;have Nu:=(af (ag hI.first aP) 0).trans rfl;rw[hem] at Nu;have B1:=hI.cV.trans (aa aP hI.cV.size)))
    have hk2:iT W w2:=(iT.ai aP).trans (iT.ai bO);have OT:=ag (ag hF aP) bO;have LZ:=(hR.below aP zr).below bO zr;have Je:=ag (ag hI.res aP) bO;have Lv:=ag (ag hI.first aP) bO;rw[hem] at Lv;have F2:w.heap.size+4≤w2.heap.size:=Nat.le_trans hI.size (Nat.le_trans aP.size bO.size);refine jX (D:=λb=>w2.heap.size≤b) (w:=w2) (O:=w.heap.size+1) (f:=4) 7 [(4,vP (w.heap.size+1) 0),(11,vT y1),(12,vT y2)] [vP (w.heap.size+1) 4,.eq (.slice po M.length co),vT y1,vT y2,.sig SG,.op ⟨y1,SG⟩,.prop λw v=>rj 181 (λb=>w2.heap.size≤b) w2.heap.size w v [⟨y1,SG⟩]] (λw'=>w'.heap[w.heap.size+1]? =some (.cells #[str fn,.int .u8 fk,.bool fp,.slice pn N.length cn,.slice po M.length co] 123 (0,0))∧cL 179 181 (w.heap.size+4) w' (.slice pn N.length cn) (.slice po M.length co) N M∧Below w2.heap.size w2 w') (λv w'=>cL 179 181 (w.heap.size+4) w' (.slice pn N.length cn) v N (M++[⟨y1,SG⟩])) (λw'=>w'.heap[w.heap.size+1]? =some (.cells #[str fn,.int .u8 fk,.bool fp,.slice pn N.length cn,.slice po M.length co] 123 (0,0))∧Below (w.heap.size+4) w2 w'∧iT w2 w') (λw'=>∃u,w'.heap[w.heap.size+1]? =some (.cells #[str fn,.int .u8 fk,.bool fp,.slice pn N.length cn,u] 123 (0,0))∧cL 179 181 (w.heap.size+4) w' (.slice pn N.length cn) u N (M++[⟨y1,SG⟩])∧Below w.heap.size w2 w'∧iT w2 w'∧w'.heap[w.heap.size]? =some (.cells #[.string ⟨#[]⟩,.int .u8 0,.bool false,.slice none 0 0,.slice none 0 0] 123 (0,0))∧w'.heap[w.heap.size+1+1]? =some (.cells #[.bool false] 4 (0,0))) (by kernel_rfl) (λ⟨_,_,h⟩=>h) (by kernel_rfl) rfl rfl rfl rfl rfl rfl ⟨?_,?_⟩
     (λw1 w2 h hb=>⟨ag h.1 hb,h.2.1.below hb zr,h.2.2.trans (aa hb h.2.2.size)⟩) (λv w1 w2 h hb=>h.below hb zr) (λw1 w2 h hb=>⟨ag h.1 hb,h.2.1.trans (aa hb (Nat.le_trans F2 h.2.1.size)),h.2.2.trans (iT.ai hb)⟩)
     ⟨ag OT (zb w2).drew,LZ.below (zb w2).drew zr,(zb w2).drew⟩ ⟨rfl,rfl,rfl,trivial⟩ ?_ ?_ (λv w h=>by obtain⟨p,c,q,d,e1,e2⟩:=h.shape;exact⟨q,_,d,e2⟩) (λw h=>⟨_,(cH h.1).1.2.2.2.2,rfl,au h.1 4⟩)
     (λv wx h1 h2=>⟨v,GW h2.1 _,h1.set (a:=⟨w.heap.size+1,4,none⟩) (by simp only;omega) _,(aa h2.2.1 (by omega)).setCell (p:=⟨w.heap.size+1,4,none⟩) (by simp only;omega) _,h2.2.2.set (p:=⟨w.heap.size+1,4,none⟩) h2.1 (by decide) _,
      (heap_setCell_other wx ⟨w.heap.size+1,4,none⟩ w.heap.size v (by simp only;omega)).trans ((h2.2.1.block _ (by omega)).trans Je),(heap_setCell_other wx ⟨w.heap.size+1,4,none⟩ (w.heap.size+1+1) v (by simp only;omega)).trans ((h2.2.1.block _ (by omega)).trans Lv)⟩) ?_
    · intro a wx hout Q next hn
      have e:=kU (x:=.pointer (some ⟨w.heap.size+1,0,none⟩)) (hout 4 (bG (by kernel_rfl)));unfold Oper.wp;simp only[execOp];simp[go_sem,e];exact hn
    · intro a wx p n c u e1 e2 e3 e4 e5 Q next hn
      have e1:=kU e1;have e2:=kU e2;unfold Oper.wp;simp only[execOp];simp[go_sem,e1,e2,e3,e5];exact hn
    · iterate 7
       refine And.intro ?_ ?_
       · first
         | exact iU rfl rfl (by kernel_rfl)
         | exact gQ rfl (by kernel_rfl) rfl rfl (λw=>by simp[go_sem])
         | exact dV rfl (by kernel_rfl) rfl rfl (λw hS=>by have c1:=cH hS.1;simp[go_sem,c1])
         | exact uS (s1:=vT y2) rfl (enters_of Tryz.func107 (by kernel_rfl) rfl) (by kernel_rfl) rfl rfl (λv wx hS h1=>by rw[show v=_ from h1];exact(D4 wx (B2.trans (aa hS.2.2 B2.size))).mono (by rintro e w3 ⟨u,rfl,hu,cK⟩;exact⟨_,rfl,hu.mono λb hb=>Nat.le_trans hS.2.2.size hb,cK⟩))
         | exact E0 rfl (.inl rfl) (by kernel_rfl) rfl rfl rfl Sz
         | exact E3 rfl (.inl ⟨rfl,rfl⟩) (by kernel_rfl) rfl rfl (λw hS=>hS.2.2.size)
      exact trivial
    · intro a wx hS hV next hn
      have eL:a.eval (.tmp 58)=.slice po M.length co:=hV 1 _ 58 (by decide) rfl rfl;have hR:rj 181 (λb=>w2.heap.size≤b) w2.heap.size wx (a.eval (.tmp 63)) [⟨y1,SG⟩]:=hV 6 _ 63 (by decide) rfl rfl wx (zb _);exact jy GQ (by decide) (.tmp 58) (.tmp 63) rfl eL rfl hS.2.1.swap hR (by simp) (λb hb=>LZ.swap.apart F2 hb) (by simp;omega) (Nat.le_trans F2 hS.2.2.size) (by decide) (λv' w' h1 h2 h3 h4=>hn v' w' h1.swap ⟨(h2.block _ (by omega)).trans hS.1,(aa hS.2.2 F2).trans h2,(iT.ai hS.2.2).trans ⟨h3,h4,h2.size⟩⟩)
    · intro a wx hS
      obtain⟨u,hg',hr',hb',hk',JF,Jt⟩:=hS;have hk:=hk2.trans hk';refine⟨hk.from _,hk.s,?_⟩;refine⟨B2.trans hb',Nat.le_trans hI.size hk.z,JF,by rw[Mi];exact Jt,by rw[hmap,HL.out];exact hnl,?_⟩;rw[hmap,HL.out];exact⟨_,_,hg',hr'⟩
 case done=>
  rintro D' xs W hD hxs hI hK;obtain⟨nv,ov,hF,hR⟩:=hI.aO;have hnl:=hI.len;have hacc:jD (xs.map (·.s))=iO s:=by rw[hxs];rfl
  have hnd:(jD (xs.map (·.s))).aB.length≤100000:=by
   have h1:=(rW (xs.map (·.s))).1;rw[hxs] at h1 ⊢;omega
  rw[hacc] at hF hR hnl hnd;obtain⟨FR,OU⟩:∃FR,iO s=FR:=⟨_,rfl⟩
  rw[OU] at hF hR hnl hnd;have hnl:=zh hnl;have F7:=zh (show(if(gm FR).2=0∧(gm FR).1=s then(FR,0) else(⟨[],0,false,[],[]⟩,4))=RS by rw[←hRS.out,←OU];rfl);clear hRS hacc OU hxs;obtain⟨pn,cn,po,co,rfl,rfl⟩:=hR.shape;have bx:=cH hF;have Pj:=hR.Nb;have hV:kQ (λb=>w.heap.size+4≤b) W (.agg #[str FR.name,.int .u8 FR.kind,.bool FR.par,.slice pn FR.aB.length cn,.slice po FR.ops.length co]) FR:=⟨_,_,rfl,hnl.out,Pj.1,Pj.2⟩;have HW:=Co _ FR W (HT.out W hI.cV) hV hnd;have V7:w.heap.size+4≤D':=by omega
  clear hV Pj hnd hI0 vR HM HT Ij b0;generalize gm FR=WK at *;obtain⟨wt,we⟩:=WK;dsimp only at HW F7;have fin:∀(w9:World) (a0 a1 a2 a3 a4:Value),Below W.heap.size W w9→(ia w9 w.heap.size a0 a1 a2 a3 a4).heap[D']? =some (.deferred (some []))∧((ia w9 w.heap.size a0 a1 a2 a3 a4).putObj D' (.deferred none)).heap[w.heap.size]? =some (.cells #[a0,a1,a2,a3,a4] 123 (0,0))∧
   dM (λb=>w.heap.size≤b) ((ia w9 w.heap.size a0 a1 a2 a3 a4).putObj D' (.deferred none)) (.slice pn FR.aB.length cn) FR.aB∧dM (λb=>w.heap.size≤b) ((ia w9 w.heap.size a0 a1 a2 a3 a4).putObj D' (.deferred none)) (.slice po FR.ops.length co) FR.ops∧Below w.heap.size w ((ia w9 w.heap.size a0 a1 a2 a3 a4).putObj D' (.deferred none)):=by
   intro w9 a0 a1 a2 a3 a4 kM;have RC:=(xy (show D'≠w.heap.size by omega) a0 a1 a2 a3 a4).trans (ag hK kM);have T4:=(((((hR.below kM zr).set (a:=⟨w.heap.size,0,none⟩) (by simp only;omega) a0).set (a:=⟨w.heap.size,1,none⟩) (by simp only;omega) a1).set (a:=⟨w.heap.size,2,none⟩) (by simp only;omega) a2).set (a:=⟨w.heap.size,3,none⟩) (by simp only;omega) a3).set (a:=⟨w.heap.size,4,none⟩) (by simp only;omega) a4;have Pn:=T4.grown (grownBy_putObj' _ D' (.deferred none)) (λr e=>by cases e;exact⟨_,RC,rfl⟩);obtain⟨o1,o2⟩:=Pn.Nb;have Rf:=Below.ia (hI.cV.trans (aa kM hI.cV.size)) zr a0 a1 a2 a3 a4;exact⟨RC,(World.putObj_heap_other (by omega)).trans (BW (ag hI.res kM) a0 a1 a2 a3 a4),o1.mono λb hb=>by omega,o2.mono λb hb=>by omega,Rf.grown (grownBy_putObj' _ D' (.deferred none)) Rf.size (λk e=>by cases e;omega)⟩
  by_cases hw:we=0
  case pos=>
   subst hw
   by_cases MW:wt=s
   case pos=>
    subst MW
    gi_wp2_with (refine⟨trivial,?_⟩;gi_at_call 108;refine(callsIn_wide.2 HW).mono ?_;clear HW;rintro e w9 ⟨rfl,kM⟩;have b9:=cH (ag hI.res kM);have c9:=cH (ag hF kM);have LN:=ag hK kM)
    obtain⟨f1,f2,f3,f4,f5⟩:=fin w9 (str FR.name) (.int .u8 FR.kind) (.bool FR.par) (.slice pn FR.aB.length cn) (.slice po FR.ops.length co) kM;obtain⟨W6,Hw⟩:∃W6,(ia w9 w.heap.size (str FR.name) (.int .u8 FR.kind) (.bool FR.par) (.slice pn FR.aB.length cn) (.slice po FR.ops.length co)).putObj D' (.deferred none)=W6:=⟨_,rfl⟩
    rw[Hw] at f2 f3 f4 f5;refine⟨by simp,.inl ⟨_,W6,rfl,by rw[←Hw];exact run_takeDeferred f1,?_⟩⟩;have bz:=cH f2;refine⟨.tuple #[.agg #[str FR.name,.int .u8 FR.kind,.bool FR.par,.slice pn FR.aB.length cn,.slice po FR.ops.length co],.int .i64 0],by simp[results,Tryz.results61,go_sem,bz.1],?_⟩;rw[←F7.out,if_pos (by simp)];exact⟨_,rfl,⟨_,_,rfl,hnl.out,f3,f4⟩,f5⟩
   case neg=>
    have hq:(wt==s)=false:=by simp[MW]
    gi_wp2_with (refine⟨trivial,?_⟩;gi_at_call 108;refine(callsIn_wide.2 HW).mono ?_;clear HW;rintro e w9 ⟨rfl,kM⟩;have b9:=cH (ag hI.res kM);have c9:=cH (ag hF kM);have LN:=ag hK kM)
    obtain⟨f1,f2,f3,f4,f5⟩:=fin w9 (.string ⟨#[]⟩) (.int .u8 0) (.bool false) (.slice none 0 0) (.slice none 0 0) kM;obtain⟨W6,Hw⟩:∃W6,(ia w9 w.heap.size (.string ⟨#[]⟩) (.int .u8 0) (.bool false) (.slice none 0 0) (.slice none 0 0)).putObj D' (.deferred none)=W6:=⟨_,rfl⟩
    rw[Hw] at f2 f3 f4 f5;refine⟨by simp,.inl ⟨_,W6,rfl,by rw[←Hw];exact run_takeDeferred f1,?_⟩⟩;have bz:=cH f2;refine⟨.tuple #[.agg #[.string ⟨#[]⟩,.int .u8 0,.bool false,.slice none 0 0,.slice none 0 0],.int .i64 4],by simp[results,Tryz.results61,go_sem,bz.1],?_⟩;rw[←F7.out,if_neg (λh=>MW h.2)];exact⟨_,rfl,⟨_,_,rfl,Nat.zero_le _,dM.nil _ _ _ _,dM.nil _ _ _ _⟩,f5⟩
  case neg=>
   have hq:((we:Int)==0)=false:=by simp;omega
   gi_wp2_with (refine⟨trivial,?_⟩;gi_at_call 108;refine(callsIn_wide.2 HW).mono ?_;clear HW;rintro e w9 ⟨rfl,kM⟩;have b9:=cH (ag hI.res kM);have c9:=cH (ag hF kM);have LN:=ag hK kM)
   obtain⟨f1,f2,f3,f4,f5⟩:=fin w9 (.string ⟨#[]⟩) (.int .u8 0) (.bool false) (.slice none 0 0) (.slice none 0 0) kM;obtain⟨W6,Hw⟩:∃W6,(ia w9 w.heap.size (.string ⟨#[]⟩) (.int .u8 0) (.bool false) (.slice none 0 0) (.slice none 0 0)).putObj D' (.deferred none)=W6:=⟨_,rfl⟩
   rw[Hw] at f2 f3 f4 f5;refine⟨by simp,.inl ⟨_,W6,rfl,by rw[←Hw];exact run_takeDeferred f1,?_⟩⟩;have bz:=cH f2;refine⟨.tuple #[.agg #[.string ⟨#[]⟩,.int .u8 0,.bool false,.slice none 0 0,.slice none 0 0],.int .i64 4],by simp[results,Tryz.results61,go_sem,bz.1],?_⟩;rw[←F7.out,if_neg (λh=>hw h.1)];exact⟨_,rfl,⟨_,_,rfl,Nat.zero_le _,dM.nil _ _ _ _,dM.nil _ _ _ _⟩,f5⟩
 case stop=>
  rintro D' cd pre W _ _ h _;exact h.elim
end Go.Proofs.YtemjidmkolfgnaaGreatDoor
