/-
  Lemmas: contracts: slices.Index at texts; of the package face: the iterator of lines; Read. Conditions: bounds of lengths; the variable strings.asciiSpace.
-/
import Derived.Test.YtakgjcfkdemipaaGreatDoorZB30
import Derived.Test.YtakgjcfkdemipaaGreatDoorZBn
import Derived.Test.YtakgjcfkdemipaaGreatDoorZT4
import Derived.Test.YtakgjcfkdemipaaGreatDoorZT10
set_option maxHeartbeats 12800000
set_option maxRecDepth 8000
namespace Go.Proofs.YtakgjcfkdemipaaGreatDoor
open Go Go.RowKit
theorem vfw {x:List UInt8}:∀{L:List (List UInt8)} {i:Nat},(∀j,j<i→L[j]? ≠some x)→L[i]? =some x→L.idxOf x=i
 | [],_,_,h=>by simp at h
 | y::L,0,_,h=>by simp at h;simp[h]
 | y::L,i+1,hn,h=>by
  have hy:y≠x:=λe=>hn 0 (by omega) (by simp[e])
  have:=vfw (L:=L) (i:=i) (λj hj e=>hn (j+1) (by omega) (by simpa using e)) (by simpa using h);rw[List.idxOf_cons,this,show(y==x)=false by simp[hy]]
  rfl
theorem ven {D:Nat→Prop} (L:List (List UInt8)) (x:List UInt8) (v:Value) (w:World) (hv:SS D w v L):
 Calls Tryz.prog 111 #[v,str x] w λe w'=>e=.returned (.int .i64 (if x∈L then(L.idxOf x:Int) else -1))∧w'=w:=by
 obtain⟨r,hr⟩:∃r:Int,(if x∈L then(L.idxOf x:Int) else -1)=r:=⟨_,rfl⟩
 rw[hr]
 have hr:=zh hr
 obtain⟨p,c,rfl,hle⟩:=hv.shape
 go_enter Tryz.func111,Tryz.ntmps111
 go_wp2_with fail
 go_loopw [8] (λa wx=>∃i:Nat,i≤L.length∧a=.int .i64 i∧wx=w∧∀j,j<i→L[j]? ≠some x) (λa _=>L.length - (intOf a).toNat)
 case atStart=>exact⟨0,Nat.zero_le _,by go_num,rfl,λj h=>absurd h (Nat.not_lt_zero _)⟩
 case round=>
  obtain⟨i,hi,rfl,rfl,hn⟩:=hrel
  by_cases hlt:i<L.length
  case neg=>
   obtain rfl:i=L.length:=by omega
   have hno:x∉L:=λh=>by
    obtain⟨j,hj⟩:=List.mem_iff_getElem?.1 h;exact hn j (List.getElem?_eq_some_iff.1 hj).1 hj
   obtain rfl:r= -1:=by rw[←hr.out,if_neg hno]
   clear hr hn hno;go_wp2_with fail;go_ret;exact⟨rfl,rfl⟩
  case pos =>
   obtain⟨y,hy⟩:∃y,L[i]? =some y:=⟨_,List.getElem?_eq_getElem hlt⟩
   obtain⟨b,o,rfl,_,hc⟩:=hv.at hy
   by_cases he:x=y
   case pos=>
    subst he;have hx:=vfw hn hy;obtain rfl:r=i:=by rw[←hr.out,if_pos (List.mem_iff_getElem?.2 ⟨i,hy⟩),hx]
    clear hr hn hy hx;go_wp2_with fail;go_ret;exact⟨rfl,rfl⟩
   case neg=>
    have hq:(x==y)=false:=by simp[he]
    have hn2:=zh (show ∀j,j<i+1→L[j]? ≠some x from λj hj e=>by
     by_cases h:j=i
     · subst h
       rw[hy] at e;exact he (Option.some.inj e).symm
     · exact hn j (by omega) e)
    have h63:(i:Int)+1≤9223372036854775807:=by have:=hle.2.1;unfold maxLen at this;omega
    clear hn hy hr;go_wp2_with fail;exact⟨⟨i+1,hlt,by go_num,trivial,hn2.out⟩,by simp only[intOf];omega⟩
attribute [local go_sem] Oper.semAt_some
theorem veo (s:List UInt8) (c:UInt8) (w:World) (hs:s.length≤100000) (hm:vcl w):
 Calls Tryz.prog 168 #[str s,str [c]] w λe w'=>e=.returned (.slice (some ⟨w.heap.size,0,none⟩) (va1 c s).length (va1 c s).length)∧w'=w.alloc (.cells ((va1 c s).map str).toArray 9):=by
 obtain⟨m,hm⟩:=hm
 refine(Tryz.strings_Split ⟨s.toArray⟩ ⟨[c].toArray⟩ m w (by show s.toArray.size<_;simp;omega) hm (by show 1≤[c].toArray.size;simp)).mono ?_
 rintro e w' ⟨rfl,rfl⟩
 have hq:=vdc c s.length s zr
 have hlen:Lib.countB ⟨s.toArray⟩ ⟨[c].toArray⟩+1=(va1 c s).length:=by
  have h1:=congrArg List.length hq;rw[List.length_map,Lib.splitB_all _ (by show 1≤[c].toArray.size;simp) 0 _ _ rfl] at h1
  simpa[aB] using h1
 rw[hq,hlen]
 exact⟨rfl,rfl⟩
structure vhc where
 s:List UInt8
 le:s.length≤100000
theorem vg0:∀l:List (List UInt8),(∀a∈l,a.length≤100000)→∃m:List vhc,m.map (·.s)=l
 | [],_=>⟨[],rfl⟩
 | a::l,h=>by
  obtain⟨m,hm⟩:=vg0 l λx hx=>h x (by simp[hx])
  exact⟨⟨a,h a (by simp)⟩::m,by rw[List.map_cons,hm]⟩
theorem ve5 (s:List UInt8) (hs:s.length≤100000) {B:Nat} {w:World} (n:Nat) (hB:w.heap[B]? =some (.cells #[str s] 9 (0,0))) (hM:∀W,Below w.heap.size w W→vcl W):
 SeqStopsK Fence.wide n Tryz.prog 167 #[.pointer (some ⟨B,0,none⟩)] (λx:vhc=> #[str x.s]) vay (λxs=>xs.map (·.s)=va1 10 (Lib.trimSuffix s [10])) (λxs=>xs.map (·.s)<+:va1 10 (Lib.trimSuffix s [10])) (va1 10 (Lib.trimSuffix s [10])).length w:=by
 intro l J Jx W hW hJ _ hY h0
 have L6:=(hW.block B (Array.getElem?_eq_some_iff.1 hB).1).trans hB
 have c0:=(ak L6 0).trans rfl
 have HT:=vb5 s [10] W hs
 have HS:=veo (Lib.trimSuffix s [10]) 10 W (by have:=vao s [10];omega) (hM W hW)
 have PI:=vb4 10 (Lib.trimSuffix s [10])
 have htl:=vao s [10]
 have hbd:∀a∈va1 10 (Lib.trimSuffix s [10]),a.length≤100000:=λa ha=>by have:=vcb 10 _ a ha;omega
 generalize va1 10 (Lib.trimSuffix s [10])=LL at *
 obtain⟨LS,rfl⟩:=vg0 LL hbd
 clear hbd
 simp only[List.length_map] at PI hY
 simp only[List.length_map,List.map_map] at HS
 refine callsIn_of_wp Tryz.func167 rfl trivial ?_ rfl
 simp only[Tryz.ntmps167,List.size_toArray,List.length_cons,List.length_nil,Nat.reduceAdd,Nat.reduceSub,Array.replicate_succ,Array.replicate_zero,List.push_toArray,List.append_toArray,List.nil_append,List.cons_append]
 gi_wp2_with (first
  | (refine⟨trivial,gO _,?_⟩;gi_at_call 169;refine(callsIn_wide.2 HT).mono ?_;clear HT;rintro e W1 ⟨rfl,rfl⟩)
  | (refine⟨trivial,gO _,?_⟩;gi_at_call 168;refine(callsIn_wide.2 HS).mono ?_;clear HS;rintro e W2 ⟨rfl,rfl⟩))
 have hV:=heap_alloc_new W (.cells (LS.map (str ∘ (·.s))).toArray 9)
 have Pc:=hJ [] _ _ none h0 (World.grownBy_alloc W (.cells (LS.map (str ∘ (·.s))).toArray 9) none) (λr e=>by cases e)
 gi_loopw [9] (λa wr=>∃i:Nat,i≤LS.length∧a=.int .i64 i∧wr.heap[W.heap.size]? =some (.cells (LS.map (str ∘ (·.s))).toArray 9 (0,0))∧J (LS.take i) wr) (λa _=>LS.length - (intOf a).toNat)
 case atStart=>exact⟨0,Nat.zero_le _,rfl,hV,Pc⟩
 case round=>
  obtain⟨i,hi,rfl,vib,Pe⟩:=hrel
  by_cases hlt:i<LS.length
  case pos=>
   obtain⟨y,hy⟩:∃y,LS[i]? =some y:=⟨_,List.getElem?_eq_getElem hlt⟩
   have hc:wr.cell? ⟨W.heap.size,0+i,none⟩=some (str y.s):=by rw[Nat.zero_add,ak vib i];simp[hy]
   have ij:wr.cell? ⟨W.heap.size,i,none⟩=some (str y.s):=by rw[ak vib i];simp[hy]
   obtain⟨fn,tmps,assign,body,vjo,hR⟩:=hY (LS.take i) y wr Pe (by rw[List.length_take];omega);have hT:=zh (show LS.take i++[y]=LS.take (i+1) by rw[List.take_add_one,hy];rfl);have h63:(i:Int)+1≤9223372036854775807:=by omega
   have hP:=zh (show(LS.take (i+1)).map (·.s)<+:LS.map (·.s) from(List.take_prefix _ _).map _);clear hY hy
   gi_wp2
   refine⟨gO _,?_⟩;refine hR.mono ?_;clear hR vjo;rintro e W2 (⟨rfl,Pd,hk⟩|⟨rfl,vir⟩)
   · have vjf:=hk _ _ _ vib
     rw[hT.out] at Pd
     gi_wp2
     exact⟨⟨i+1,hlt,by go_num,vjf,Pd⟩,by simp only[intOf];omega⟩
   · rw[hT.out] at vir
     gi_wp2
     refine bodyPost_ret (results_none rfl _ _ _) rfl ?_;exact⟨⟨_,rfl⟩,.inr ⟨_,hP.out,vir⟩⟩
  case neg=>
   obtain rfl:i=LS.length:=by omega
   rw[List.take_length] at Pe
   gi_wp2
   go_end0
   exact⟨⟨_,rfl⟩,.inl ⟨_,rfl,Pe⟩⟩
theorem vff (s:List UInt8) (m:Nat) (w:World):CallsIn Fence.wide m Tryz.prog 109 #[str s] w λe w'=>e=.returned (.func (.func 167) #[] #[.pointer (some ⟨w.heap.size,0,none⟩)])∧w'=w.alloc (.cells #[str s] 9):=by
 refine callsIn_of_wp Tryz.func109 rfl trivial ?_ rfl
 simp only[Tryz.ntmps109,List.size_toArray,List.length_cons,List.length_nil,Nat.reduceAdd,Nat.reduceSub,Array.replicate_succ,Array.replicate_zero,List.push_toArray,List.append_toArray,List.nil_append,List.cons_append]
 gi_wp2
 go_ret
 exact⟨rfl,rfl⟩
def vb6:List (List UInt8)→aA
 | []=>⟨[],0,false,[],[]⟩
 | l::ls=>ls.foldl (vbq vck) (vbz l)
theorem vf7 {pre:List (List UInt8)} (h:pre≠[]) (x:List UInt8):vb6 (pre++[x])=vbq vck (vb6 pre) x:=by
 cases pre with
 | nil=>exact absurd rfl h
 | cons l ls=>
  show(ls++[x]).foldl (vbq vck) (vbz l)=_
  rw[List.foldl_append]
  rfl
theorem vd4:∀pre:List (List UInt8),(vb6 pre).ag.length+(vb6 pre).ops.length+1≤pre.length+1 - 0∧(pre≠[]→(vb6 pre).ag.length+(vb6 pre).ops.length+1≤pre.length):=by
 have key:∀(ls:List (List UInt8)) (f:aA),(ls.foldl (vbq vck) f).ag.length+(ls.foldl (vbq vck) f).ops.length=f.ag.length+f.ops.length+ls.length:=by
  intro ls
  induction ls with
  | nil=>intro f;rfl
  | cons l ls ih=>
   intro f;rw[List.foldl_cons,ih];unfold vbq aA.vf8 aA.vf9;dsimp only;split<;>simp<;>omega
 intro pre
 cases pre with
 | nil=>exact⟨by simp[vb6],λh=>absurd rfl h⟩
 | cons l ls=>
  have:=key ls (vbz l);have h0:(vbz l).ag.length+(vbz l).ops.length=0:=rfl;unfold vb6;simp only[List.length_cons];exact⟨by omega,λ_=>by omega⟩
theorem vfx (x:List UInt8):∃(r:Int) (k:Nat),(if x∈vab then(vab.idxOf x:Int) else -1)=r∧vab.idxOf x % 4=k∧k<4∧max 0 r=(k:Int):=by
 by_cases h:x∈vab
 · have h4:vab.idxOf x<4:=List.idxOf_lt_length_of_mem h
   exact⟨_,_,rfl,rfl,by omega,by rw[if_pos h];omega⟩
 · have h4:vab.idxOf x=4:=List.idxOf_eq_length h
   exact⟨_,_,rfl,rfl,by omega,by rw[if_neg h,h4];decide⟩
theorem vfj {w:World} {b:Nat} {c0 c1 c2 c3 c4:Value} {t:TypeId} (h:w.heap[b]? =some (.cells #[c0,c1,c2,c3,c4] t (0,0))) (a0 a1 a2 a3 a4:Value):(va9 w b a0 a1 a2 a3 a4).heap[b]? =some (.cells #[a0,a1,a2,a3,a4] t (0,0)):=
 heap_setCell_same _ b 4 _ t a4 (heap_setCell_same _ b 3 _ t a3 (heap_setCell_same _ b 2 _ t a2 (heap_setCell_same _ b 1 _ t a1 (heap_setCell_same _ b 0 _ t a0 h))))
theorem ve8 {w:World} {b k:Nat} (h:k≠b) (a0 a1 a2 a3 a4:Value):(va9 w b a0 a1 a2 a3 a4).heap[k]? =w.heap[k]? :=by
 unfold va9
 rw[heap_setCell_other _ _ _ _ h,heap_setCell_other _ _ _ _ h,heap_setCell_other _ _ _ _ h,heap_setCell_other _ _ _ _ h,heap_setCell_other _ _ _ _ h]
structure vi2 (w:World) (N:Nat) (pre:List vhc) (W:World):Prop where
 nD:Below N w W
 size:N+4≤W.heap.size
 res:W.heap[N]? =some (.cells #[.string ⟨#[]⟩,.int .u8 0,.bool false,.slice none 0 0,.slice none 0 0] 58 (0,0))
 first :W.heap[N+1+1]? =some (.cells #[.bool pre.isEmpty] 4 (0,0))
 len:(vb6 (pre.map (·.s))).name.length≤maxLen
 vgz:∃nv ov,W.heap[N+1]? =some (.cells #[str (vb6 (pre.map (·.s))).name,.int .u8 (vb6 (pre.map (·.s))).kind,.bool (vb6 (pre.map (·.s))).par,nv,ov] 58 (0,0))∧va5 79 50 (N+4) W nv ov (vb6 (pre.map (·.s))).ag (vb6 (pre.map (·.s))).ops
theorem vgl (w:World) (N:Nat):OwnFrom (N+4) (vi2 w N):=by
 intro pre W W' row h hg hr
 have hne:∀{b:Nat} {x:Obj},W.heap[b]? =some x→x.isCells=true→W'.heap[b]? =some x:=λhb hc=>
  (hg.block _ (Array.getElem?_eq_some_iff.1 hb).1 (λe=>by
   obtain⟨_,o,ho,hn⟩:=hr _ e.symm;rw[hb] at ho;cases ho;rw[hc] at hn;cases hn)).trans hb
 obtain⟨nv,ov,hf,hR⟩:=h.vgz
 exact⟨h.nD.grown hg (by have:=h.size;omega) (λk e=>by have:=(hr k e).1;omega),Nat.le_trans h.size hg.size,hne h.res rfl,hne h.first rfl,h.len,nv,ov,hne hf rfl,hR.grown hg λr e=>(hr r e).2⟩
theorem vd8 (s:List UInt8) (w:World) (hs:s.length≤100000) (PI:(va1 10 (Lib.trimSuffix s [10])).length≤1001) (ht:dW w) (hm:vcl w):
 Calls Tryz.prog 53 #[str s] w λe w'=>∃v,e=.returned (.tuple #[v,.int .i64 (vae vad s).2])∧dO (λb=>w.heap.size≤b) w' v (vae vad s).1∧Below w.heap.size w w':=by
 obtain⟨RS,hRS⟩:∃RS,vae vad s=RS:=⟨_,rfl⟩
 rw[hRS]
 have hRS:=zh hRS
 have HM:=zh (λW (hW:Below w.heap.size w W)=>hm.below hW)
 have HT:=zh (λW (hW:Below w.heap.size w W)=>ht.below hW zr)
 have b0:=((((zb w).alloc zr (.cells #[.string ⟨#[]⟩,.int .u8 0,.bool false,.slice none 0 0,.slice none 0 0] 58)).alloc (by simp) (.cells #[.string ⟨#[]⟩,.int .u8 0,.bool false,.slice none 0 0,.slice none 0 0] 58)).alloc (by simp;omega) (.cells #[.bool true] 4)).alloc (by simp;omega) (.cells #[str s] 9)
 refine(callsIn_wide (n:=6)).1 ?_
 refine callsIn_of_wp_marks Tryz.func53 rfl trivial ?_ rfl
 simp only[Tryz.ntmps53,List.size_toArray,List.length_cons,List.length_nil,Nat.reduceAdd,Nat.reduceSub,Array.replicate_succ,Array.replicate_zero,List.push_toArray,List.append_toArray,List.nil_append,List.cons_append]
 gi_wp2_with (refine⟨trivial,?_⟩;gi_at_call 109;refine(vff s _ _).mono ?_;rintro e w' ⟨rfl,rfl⟩)
 have hz:((((w.alloc (.cells #[.string ⟨#[]⟩,.int .u8 0,.bool false,.slice none 0 0,.slice none 0 0] 58)).alloc (.cells #[.string ⟨#[]⟩,.int .u8 0,.bool false,.slice none 0 0,.slice none 0 0] 58)).alloc (.cells #[.bool true] 4)).alloc (.cells #[str s] 9)).heap.size=w.heap.size+4:=by simp
 have hI0:vi2 w w.heap.size [] ((((w.alloc (.cells #[.string ⟨#[]⟩,.int .u8 0,.bool false,.slice none 0 0,.slice none 0 0] 58)).alloc (.cells #[.string ⟨#[]⟩,.int .u8 0,.bool false,.slice none 0 0,.slice none 0 0] 58)).alloc (.cells #[.bool true] 4)).alloc (.cells #[str s] 9)):=
  ⟨b0,by simp,aD _ (aD _ (aD _ (heap_alloc_new w _))),aD _ (cI (by simp) _ _),Nat.zero_le _,.slice none 0 0,.slice none 0 0,aD _ (aD _ (cI (by simp) _ _)),va5.nil _ _ _ _⟩
 have F7:((((w.alloc (.cells #[.string ⟨#[]⟩,.int .u8 0,.bool false,.slice none 0 0,.slice none 0 0] 58)).alloc (.cells #[.string ⟨#[]⟩,.int .u8 0,.bool false,.slice none 0 0,.slice none 0 0] 58)).alloc (.cells #[.bool true] 4)).alloc (.cells #[str s] 9)).heap[w.heap.size+1+1+1]? =some (.cells #[str s] 9 (0,0)):=cI (by simp) _ _
 have hle:w.heap.size≤((((w.alloc (.cells #[.string ⟨#[]⟩,.int .u8 0,.bool false,.slice none 0 0,.slice none 0 0] 58)).alloc (.cells #[.string ⟨#[]⟩,.int .u8 0,.bool false,.slice none 0 0,.slice none 0 0] 58)).alloc (.cells #[.bool true] 4)).alloc (.cells #[str s] 9)).heap.size:=by omega
 generalize (((w.alloc (.cells #[.string ⟨#[]⟩,.int .u8 0,.bool false,.slice none 0 0,.slice none 0 0] 58)).alloc (.cells #[.string ⟨#[]⟩,.int .u8 0,.bool false,.slice none 0 0,.slice none 0 0] 58)).alloc (.cells #[.bool true] 4)).alloc (.cells #[str s] 9)=W0 at *
 have vh0:=vgl w w.heap.size
 rw[←hz] at vh0
 refine wpIn_rangeFunc_ownH (α:=vhc) rfl (show 1≤6 by decide) (gf:=167) (lb:= #[.pointer (some ⟨w.heap.size+1+1+1,0,none⟩)]) rfl trivial (enters_of Tryz.func167 (by kernel_rfl) rfl)
  (ve5 s hs 5 F7 λW hW=>HM.out W (b0.trans (af hW hle))) (λh k=>h.trans k) (λW l o o' _ h1 h2 _=>vay.putObj h1 h2 o') (zb _) (λ_=>rfl)
  (λpre W=>vi2 w w.heap.size pre W) (λ_ _ _=>False) vh0 (λ_=>xU.from _) hI0
  (λx a' _=>a'={tmps:= #[str s,undef,.pointer (some ⟨w.heap.size,0,none⟩),.int .i64 0,.pointer (some ⟨w.heap.size+1,0,none⟩),.pointer (some ⟨w.heap.size+1+1,0,none⟩),str x.s,undef,undef,undef,undef,undef,undef,undef,undef,undef,str s,.func (.func 167) #[] #[.pointer (some ⟨w.heap.size+1+1+1,0,none⟩)],str x.s,undef,undef,undef,undef,undef,undef,undef,undef,undef,undef,undef,undef,undef,undef,undef,undef,undef,undef,undef,undef,undef,undef,undef,undef,undef,undef,undef,undef,undef,undef,undef,undef,undef,undef,undef,undef,undef,undef,undef,undef,undef,undef,undef,undef,undef,undef,undef,undef,undef,undef,undef,undef,undef,undef,undef,undef,undef,undef,undef,undef,undef],defers:=[] })
  (λx a' _ W W' row h hg hr=>h) ?assign ?body ?done ?stop
 case assign=>
  rintro l pre x W K hI hK
  gi_wp2
  exact hK _ _ (KeepsFrom.refl _ _) (vay.refl _) hI rfl
 case body =>
  rintro l pre x a' W hl ⟨r,hr⟩ hI rfl hlen;have HC:=zh (λW (hW:Below w.heap.size w W)=>vbb x.s [32] W x.le (by simp) (HM.out W hW));obtain⟨nv,ov,hF,hR⟩:=hI.vgz
  by_cases hp:pre=[]
  case pos=>
   subst hp;have c5:=(ak hI.first 0).trans rfl
   replace hF:W.heap[w.heap.size+1]? =some (.cells #[str [],.int .u8 0,.bool false,nv,ov] 58 (0,0)):=hF
   replace hR:va5 79 50 (w.heap.size+4) W nv ov [] []:=hR
   have hH:vbz x.s=⟨Lib.trimSuffix (va0 [32] x.s).2.1 [91,116,93],vab.idxOf (va0 [32] x.s).1 % 4,Lib.hasSuffix (va0 [32] x.s).2.1 [91,116,93],[],[]⟩:=rfl;have hcl:=va4 (p:=[32]) x.s;have hxl:=x.le;have GF:=λW=>vba (va0 [32] x.s).2.1 [91,116,93] W (by omega)
   have HI:=λW v (hv:SS Any W v vab)=>ven vab (va0 [32] x.s).1 v W hv
   generalize va0 [32] x.s=vko at *;obtain⟨a1,a2,a3⟩:=vko;dsimp only at *;obtain⟨r,kd,hr,hk,vk3,hmx⟩:=vfx a1;rw[hr] at HI;rw[hk] at hH;have hH:=zh hH;clear hr hk
   gi_wp2_with (first
    | (refine⟨trivial,?_⟩;gi_at_call 110;refine(CallsIn.inRound l (callsIn_wide.2 (HC.out _ hI.nD))).mono ?_;rintro e w1 ⟨rfl,au⟩;have vhs:=(ak (ah hI.first au) 0).trans rfl;have f51:=az (ah hI.first au) 0)
    | (refine⟨trivial,?_⟩;gi_at_call 106;refine(CallsIn.inRound l (callsIn_wide.2 (Cj _))).mono ?_;rintro e w2 ⟨rfl,aC⟩;skip)
    | (refine⟨trivial,?_⟩;gi_at_call 111;refine(CallsIn.inRound l (callsIn_wide.2 (HI _ _ (SS.new Any w2 trivial vab 127 (0,0) (by decide) (by decide))))).mono ?_;rintro e w3 ⟨rfl,rfl⟩;have vl1:=aD (.cells (aB vab).toArray 127) (ah ((heap_setCell_other w1 ⟨w.heap.size+1+1,0,none⟩ (w.heap.size+1) (.bool false) (by simp)).trans (ah hF au)) aC);have bx:=bz vl1)
    | (refine⟨trivial,?_⟩;gi_at_call 112;refine(CallsIn.inRound l (callsIn_wide.2 (GF _))).mono ?_;rintro e w4 ⟨rfl,rfl⟩))
   have xh:vbw W w1:=vbw.ey au;have hn2:=(xh.set (p:=⟨w.heap.size+1+1,0,none⟩) (ah hI.first au) (by decide) (.bool false)).trans (vbw.ey aC);have Sh:=hn2.trans (vbw.ey ((zb w2).alloc zr (.cells (aB vab).toArray 127)));have k5:=heap_setCell_same _ _ 1 _ _ (.int .u8 kd) vl1;have k6:=heap_setCell_same _ _ 0 _ _ (str (Lib.trimSuffix a2 [91,116,93])) k5;have k7:=heap_setCell_same _ _ 2 _ _ (.bool (Lib.hasSuffix a2 [91,116,93])) k6;have vig:=((Sh.set (p:=⟨w.heap.size+1,1,none⟩) vl1 (by decide) (.int .u8 kd)).set (p:=⟨w.heap.size+1,0,none⟩) k5 (by decide) (str (Lib.trimSuffix a2 [91,116,93]))).set (p:=⟨w.heap.size+1,2,none⟩) k6 (by decide) (.bool (Lib.hasSuffix a2 [91,116,93]));have hs1:=hI.size;have B1:=hI.nD.trans (af au hI.nD.size);have B2:=(B1.setCell (p:=⟨w.heap.size+1+1,0,none⟩) (by simp only;omega) (.bool false));have B3:=(B2.trans (af aC B2.size)).alloc (Nat.le_trans B2.size aC.size) (.cells (aB vab).toArray 127);have B6:=((B3.setCell (p:=⟨w.heap.size+1,1,none⟩) (by simp only;omega) (.int .u8 kd)).setCell (p:=⟨w.heap.size+1,0,none⟩) (by simp only;omega) (str (Lib.trimSuffix a2 [91,116,93]))).setCell (p:=⟨w.heap.size+1,2,none⟩) (by simp only;omega) (.bool (Lib.hasSuffix a2 [91,116,93]));have g1:=aD (.cells (aB vab).toArray 127) (ah (heap_setCell_same w1 _ 0 _ _ (.bool false) (ah hI.first au)) aC);have r1:=aD (.cells (aB vab).toArray 127) (ah ((heap_setCell_other w1 ⟨w.heap.size+1+1,0,none⟩ w.heap.size (.bool false) (by simp only;omega)).trans (ah hI.res au)) aC);have up:∀{b:Nat} {o:Obj} {W3:World} {u1 u2 u3:Value},b≠w.heap.size+1→W3.heap[b]? =some o→(((W3.setCell ⟨w.heap.size+1,1,none⟩ u1).setCell ⟨w.heap.size+1,0,none⟩ u2).setCell ⟨w.heap.size+1,2,none⟩ u3).heap[b]? =some o:=λhne h=>by
    rw[heap_setCell_other _ _ _ _ (λe=>hne e),heap_setCell_other _ _ _ _ (λe=>hne e),heap_setCell_other _ _ _ _ (λe=>hne e)];exact h
   refine⟨vig.from _,vig.s,?_⟩;have hacc:vb6 (([]++[x]:List vhc).map (·.s))=⟨Lib.trimSuffix a2 [91,116,93],kd,Lib.hasSuffix a2 [91,116,93],[],[]⟩:=hH.out;have htr:=vao a2 [91,116,93];refine⟨B6,Nat.le_trans hs1 vig.z,up (by omega) r1,up (by omega) g1,by rw[hacc];show(Lib.trimSuffix a2 [91,116,93]).length≤maxLen;unfold maxLen;omega,?_⟩;rw[hacc];have vll:=(((hR.below au zr).set (a:=⟨w.heap.size+1+1,0,none⟩) (by simp only;omega) (.bool false)).below aC zr).below ((zb w2).alloc zr (.cells (aB vab).toArray 127)) zr;exact⟨nv,ov,k7,((vll.set (a:=⟨w.heap.size+1,1,none⟩) (by simp only;omega) (.int .u8 kd)).set (a:=⟨w.heap.size+1,0,none⟩) (by simp only;omega) (str (Lib.trimSuffix a2 [91,116,93]))).set (a:=⟨w.heap.size+1,2,none⟩) (by simp only;omega) (.bool (Lib.hasSuffix a2 [91,116,93]))⟩
  case neg =>
   have HL:=vf7 (pre:=pre.map (·.s)) (by simpa using hp) x.s;have hrows:=(vd4 (pre.map (·.s))).2 (by simpa using hp);rw[List.length_map] at hrows;have PF:=hI.len;have hmap:(pre++[x]).map (·.s)=pre.map (·.s)++[x.s]:=by simp
   generalize vb6 (pre.map (·.s))=F at *;obtain⟨fn,fk,fp,N,M⟩:=F;dsimp only at hF hR hrows PF;have hem:pre.isEmpty=false:=by cases pre<;>simp at hp ⊢
   have c5:=(ak hI.first 0).trans rfl;rw[hem] at c5;obtain⟨pn,cn,po,co,rfl,rfl⟩:=hR.shape;have hcl:=va4 (p:=[32]) x.s;have hxl:=x.le;unfold vbq aA.vf8 aA.vf9 at HL;dsimp only at HL;generalize va0 [32] x.s=vko at *;obtain⟨a1,a2,a3⟩:=vko;dsimp only at hcl HC HL;have vgb:=va4 (p:=[32]) a2;have GF:=zh (λW (hW:Below w.heap.size w W)=>vbb a2 [32] W (by omega) (by simp) (HM.out W hW));generalize va0 [32] a2=CR2 at *;obtain⟨y1,y2,y3⟩:=CR2;dsimp only at vgb GF HL;have vks:=λW (hW:Below w.heap.size w W)=>vfy y2 W (by omega) (HM.out W hW)
   generalize vck y2=vm1 at *;have Mh:y1.length≤maxLen:=by unfold maxLen;omega
   have HL:=zh HL;have hNM:N.length+M.length+1≤1000:=by omega
   have hnl:fn.length≤maxLen:=PF;have vhh:(pre++[x]).isEmpty=false:=by simp
   clear hrows PF hcl vgb
   by_cases hx:a1=[104,97,115]
   case pos=>
    subst hx;have hq:(([104,97,115]:List UInt8)==[104,97,115])=true:=rfl;have HL:=zh (HL.out.trans (if_pos rfl))
    gi_wp2_with (first
     | (refine⟨trivial,?_⟩;gi_at_call 110;refine(CallsIn.inRound l (callsIn_wide.2 (GF.out _ B1))).mono ?_;rintro e w2 ⟨rfl,aC⟩;have B2:=B1.trans (af aC B1.size))
     | (refine⟨trivial,?_⟩;gi_at_call 110;refine(CallsIn.inRound l (callsIn_wide.2 (HC.out _ hI.nD))).mono ?_;rintro e w1 ⟨rfl,au⟩;have vhs:=(ak (ah hI.first au) 0).trans rfl;rw[hem] at vhs;have B1:=hI.nD.trans (af au hI.nD.size)))
    have hk2:vbw W w2:=(vbw.ey au).trans (vbw.ey aC);have vdo:=ah (ah hF au) aC;have vfd:=(hR.below au zr).below aC zr;have vi8:=ah (ah hI.res au) aC;have vhe:=ah (ah hI.first au) aC;rw[hem] at vhe;have vdn:w.heap.size+4≤w2.heap.size:=Nat.le_trans hI.size (Nat.le_trans au.size aC.size);refine vbd (D:=λb=>w2.heap.size≤b) (w:=w2) (O:=w.heap.size+1) (f:=3) 7 [(4,vP (w.heap.size+1) 0),(11,vT y1),(12,vT y2)] [vP (w.heap.size+1) 3,.eq (.slice pn N.length cn),vT y1,vT y2,.sig vm1,.op ⟨y1,vm1⟩,.prop λw v=>vbx 79 (λb=>w2.heap.size≤b) w2.heap.size w v [⟨y1,vm1⟩]] (λw'=>w'.heap[w.heap.size+1]? =some (.cells #[str fn,.int .u8 fk,.bool fp,.slice pn N.length cn,.slice po M.length co] 58 (0,0))∧va5 79 50 (w.heap.size+4) w' (.slice pn N.length cn) (.slice po M.length co) N M∧Below w2.heap.size w2 w') (λv w'=>va5 79 50 (w.heap.size+4) w' v (.slice po M.length co) (N++[⟨y1,vm1⟩]) M) (λw'=>w'.heap[w.heap.size+1]? =some (.cells #[str fn,.int .u8 fk,.bool fp,.slice pn N.length cn,.slice po M.length co] 58 (0,0))∧Below (w.heap.size+4) w2 w'∧vbw w2 w') (λw'=>∃u,w'.heap[w.heap.size+1]? =some (.cells #[str fn,.int .u8 fk,.bool fp,u,.slice po M.length co] 58 (0,0))∧va5 79 50 (w.heap.size+4) w' u (.slice po M.length co) (N++[⟨y1,vm1⟩]) M∧Below w.heap.size w2 w'∧vbw w2 w'∧w'.heap[w.heap.size]? =some (.cells #[.string ⟨#[]⟩,.int .u8 0,.bool false,.slice none 0 0,.slice none 0 0] 58 (0,0))∧w'.heap[w.heap.size+1+1]? =some (.cells #[.bool false] 4 (0,0))) (by kernel_rfl) (λ⟨_,_,h⟩=>h) (by kernel_rfl) rfl rfl rfl rfl rfl rfl ⟨?_,?_⟩
     (λw1 w2 h hb=>⟨ah h.1 hb,h.2.1.below hb zr,h.2.2.trans (af hb h.2.2.size)⟩) (λv w1 w2 h hb=>h.below hb zr) (λw1 w2 h hb=>⟨ah h.1 hb,h.2.1.trans (af hb (Nat.le_trans vdn h.2.1.size)),h.2.2.trans (vbw.ey hb)⟩)
     ⟨ah vdo (zb w2).drew,vfd.below (zb w2).drew zr,(zb w2).drew⟩ ⟨rfl,rfl,rfl,trivial⟩ ?_ ?_ (λv w h=>by obtain⟨p,c,q,d,e1,e2⟩:=h.shape;exact⟨p,_,c,e1⟩) (λw h=>⟨_,(bz h.1).1.2.2.2.1,rfl,az h.1 3⟩)
     (λv wx h1 h2=>⟨v,vf4 h2.1 _,h1.set (a:=⟨w.heap.size+1,3,none⟩) (by simp only;omega) _,(af h2.2.1 (by omega)).setCell (p:=⟨w.heap.size+1,3,none⟩) (by simp only;omega) _,h2.2.2.set (p:=⟨w.heap.size+1,3,none⟩) h2.1 (by decide) _,
      (heap_setCell_other wx ⟨w.heap.size+1,3,none⟩ w.heap.size v (by simp only;omega)).trans ((h2.2.1.block _ (by omega)).trans vi8),(heap_setCell_other wx ⟨w.heap.size+1,3,none⟩ (w.heap.size+1+1) v (by simp only;omega)).trans ((h2.2.1.block _ (by omega)).trans vhe)⟩) ?_
    · intro a wx hout Q next hn
      have e:=aR (x:=.pointer (some ⟨w.heap.size+1,0,none⟩)) (hout 4 (rI (by kernel_rfl)));unfold Oper.wp;simp only[execOp];simp[go_sem,e];exact hn
    · intro a wx p n c u e1 e2 e3 e4 e5 Q next hn
      have e1:=aR e1;have e2:=aR e2;unfold Oper.wp;simp only[execOp];simp[go_sem,e1,e2,e3,e5];exact hn
    · iterate 7
       refine And.intro ?_ ?_
       · first
         | exact oe rfl rfl (by kernel_rfl)
         | exact gN rfl (by kernel_rfl) rfl rfl (λw=>by simp[go_sem])
         | exact gv rfl (by kernel_rfl) rfl rfl (λw hS=>by have c1:=bz hS.1;simp[go_sem,c1])
         | exact er (s1:=vT y2) rfl (enters_of Tryz.func113 (by kernel_rfl) rfl) (by kernel_rfl) rfl rfl (λv wx hS h1=>by rw[show v=_ from h1];exact(vks wx (B2.trans (af hS.2.2 B2.size))).mono (by rintro e w3 ⟨u,rfl,hu,aH⟩;exact⟨_,rfl,hu.mono λb hb=>Nat.le_trans hS.2.2.size hb,aH⟩))
         | exact vdl rfl (.inr rfl) (by kernel_rfl) rfl rfl rfl Mh
         | exact vdm rfl (.inr ⟨rfl,rfl⟩) (by kernel_rfl) rfl rfl (λw hS=>hS.2.2.size)
      exact trivial
    · intro a wx hS hV next hn
      have eL:a.eval (.tmp 49)=.slice pn N.length cn:=hV 1 _ 49 (by decide) rfl rfl;have hR:vbx 79 (λb=>w2.heap.size≤b) w2.heap.size wx (a.eval (.tmp 54)) [⟨y1,vm1⟩]:=hV 6 _ 54 (by decide) rfl rfl wx (zb _);exact vag vd9 (by decide) (.tmp 49) (.tmp 54) rfl eL rfl hS.2.1 hR (by simp) (λb hb=>vfd.apart vdn hb) (by simp;omega) (Nat.le_trans vdn hS.2.2.size) (by decide) (λv' w' h1 h2 h3 h4=>hn v' w' h1 ⟨(h2.block _ (by omega)).trans hS.1,(af hS.2.2 vdn).trans h2,(vbw.ey hS.2.2).trans ⟨h3,h4,h2.size⟩⟩)
    · intro a wx hS
      obtain⟨u,hg',hr',hb',hk',vh4,vh3⟩:=hS;have hk:=hk2.trans hk';refine⟨hk.from _,hk.s,?_⟩;refine⟨B2.trans hb',Nat.le_trans hI.size hk.z,vh4,by rw[vhh];exact vh3,by rw[hmap,HL.out];exact hnl,?_⟩;rw[hmap,HL.out];exact⟨_,_,hg',hr'⟩
   case neg=>
    have hq:(a1==[104,97,115])=false:=by simp[hx]
    have HL:=zh (HL.out.trans (if_neg hx))
    gi_wp2_with (first
     | (refine⟨trivial,?_⟩;gi_at_call 110;refine(CallsIn.inRound l (callsIn_wide.2 (GF.out _ B1))).mono ?_;rintro e w2 ⟨rfl,aC⟩;have B2:=B1.trans (af aC B1.size))
     | (refine⟨trivial,?_⟩;gi_at_call 110;refine(CallsIn.inRound l (callsIn_wide.2 (HC.out _ hI.nD))).mono ?_;rintro e w1 ⟨rfl,au⟩;have vhs:=(ak (ah hI.first au) 0).trans rfl;rw[hem] at vhs;have B1:=hI.nD.trans (af au hI.nD.size)))
    have hk2:vbw W w2:=(vbw.ey au).trans (vbw.ey aC);have vdo:=ah (ah hF au) aC;have vfd:=(hR.below au zr).below aC zr;have vi8:=ah (ah hI.res au) aC;have vhe:=ah (ah hI.first au) aC;rw[hem] at vhe;have vdn:w.heap.size+4≤w2.heap.size:=Nat.le_trans hI.size (Nat.le_trans au.size aC.size);refine vbd (D:=λb=>w2.heap.size≤b) (w:=w2) (O:=w.heap.size+1) (f:=4) 7 [(4,vP (w.heap.size+1) 0),(11,vT y1),(12,vT y2)] [vP (w.heap.size+1) 4,.eq (.slice po M.length co),vT y1,vT y2,.sig vm1,.op ⟨y1,vm1⟩,.prop λw v=>vbx 50 (λb=>w2.heap.size≤b) w2.heap.size w v [⟨y1,vm1⟩]] (λw'=>w'.heap[w.heap.size+1]? =some (.cells #[str fn,.int .u8 fk,.bool fp,.slice pn N.length cn,.slice po M.length co] 58 (0,0))∧va5 79 50 (w.heap.size+4) w' (.slice pn N.length cn) (.slice po M.length co) N M∧Below w2.heap.size w2 w') (λv w'=>va5 79 50 (w.heap.size+4) w' (.slice pn N.length cn) v N (M++[⟨y1,vm1⟩])) (λw'=>w'.heap[w.heap.size+1]? =some (.cells #[str fn,.int .u8 fk,.bool fp,.slice pn N.length cn,.slice po M.length co] 58 (0,0))∧Below (w.heap.size+4) w2 w'∧vbw w2 w') (λw'=>∃u,w'.heap[w.heap.size+1]? =some (.cells #[str fn,.int .u8 fk,.bool fp,.slice pn N.length cn,u] 58 (0,0))∧va5 79 50 (w.heap.size+4) w' (.slice pn N.length cn) u N (M++[⟨y1,vm1⟩])∧Below w.heap.size w2 w'∧vbw w2 w'∧w'.heap[w.heap.size]? =some (.cells #[.string ⟨#[]⟩,.int .u8 0,.bool false,.slice none 0 0,.slice none 0 0] 58 (0,0))∧w'.heap[w.heap.size+1+1]? =some (.cells #[.bool false] 4 (0,0))) (by kernel_rfl) (λ⟨_,_,h⟩=>h) (by kernel_rfl) rfl rfl rfl rfl rfl rfl ⟨?_,?_⟩
     (λw1 w2 h hb=>⟨ah h.1 hb,h.2.1.below hb zr,h.2.2.trans (af hb h.2.2.size)⟩) (λv w1 w2 h hb=>h.below hb zr) (λw1 w2 h hb=>⟨ah h.1 hb,h.2.1.trans (af hb (Nat.le_trans vdn h.2.1.size)),h.2.2.trans (vbw.ey hb)⟩)
     ⟨ah vdo (zb w2).drew,vfd.below (zb w2).drew zr,(zb w2).drew⟩ ⟨rfl,rfl,rfl,trivial⟩ ?_ ?_ (λv w h=>by obtain⟨p,c,q,d,e1,e2⟩:=h.shape;exact⟨q,_,d,e2⟩) (λw h=>⟨_,(bz h.1).1.2.2.2.2,rfl,az h.1 4⟩)
     (λv wx h1 h2=>⟨v,vf5 h2.1 _,h1.set (a:=⟨w.heap.size+1,4,none⟩) (by simp only;omega) _,(af h2.2.1 (by omega)).setCell (p:=⟨w.heap.size+1,4,none⟩) (by simp only;omega) _,h2.2.2.set (p:=⟨w.heap.size+1,4,none⟩) h2.1 (by decide) _,
      (heap_setCell_other wx ⟨w.heap.size+1,4,none⟩ w.heap.size v (by simp only;omega)).trans ((h2.2.1.block _ (by omega)).trans vi8),(heap_setCell_other wx ⟨w.heap.size+1,4,none⟩ (w.heap.size+1+1) v (by simp only;omega)).trans ((h2.2.1.block _ (by omega)).trans vhe)⟩) ?_
    · intro a wx hout Q next hn
      have e:=aR (x:=.pointer (some ⟨w.heap.size+1,0,none⟩)) (hout 4 (rI (by kernel_rfl)));unfold Oper.wp;simp only[execOp];simp[go_sem,e];exact hn
    · intro a wx p n c u e1 e2 e3 e4 e5 Q next hn
      have e1:=aR e1;have e2:=aR e2;unfold Oper.wp;simp only[execOp];simp[go_sem,e1,e2,e3,e5];exact hn
    · iterate 7
       refine And.intro ?_ ?_
       · first
         | exact oe rfl rfl (by kernel_rfl)
         | exact gN rfl (by kernel_rfl) rfl rfl (λw=>by simp[go_sem])
         | exact gv rfl (by kernel_rfl) rfl rfl (λw hS=>by have c1:=bz hS.1;simp[go_sem,c1])
         | exact er (s1:=vT y2) rfl (enters_of Tryz.func113 (by kernel_rfl) rfl) (by kernel_rfl) rfl rfl (λv wx hS h1=>by rw[show v=_ from h1];exact(vks wx (B2.trans (af hS.2.2 B2.size))).mono (by rintro e w3 ⟨u,rfl,hu,aH⟩;exact⟨_,rfl,hu.mono λb hb=>Nat.le_trans hS.2.2.size hb,aH⟩))
         | exact vdl rfl (.inl rfl) (by kernel_rfl) rfl rfl rfl Mh
         | exact vdm rfl (.inl ⟨rfl,rfl⟩) (by kernel_rfl) rfl rfl (λw hS=>hS.2.2.size)
      exact trivial
    · intro a wx hS hV next hn
      have eL:a.eval (.tmp 58)=.slice po M.length co:=hV 1 _ 58 (by decide) rfl rfl;have hR:vbx 50 (λb=>w2.heap.size≤b) w2.heap.size wx (a.eval (.tmp 63)) [⟨y1,vm1⟩]:=hV 6 _ 63 (by decide) rfl rfl wx (zb _);exact vag vf3 (by decide) (.tmp 58) (.tmp 63) rfl eL rfl hS.2.1.swap hR (by simp) (λb hb=>vfd.swap.apart vdn hb) (by simp;omega) (Nat.le_trans vdn hS.2.2.size) (by decide) (λv' w' h1 h2 h3 h4=>hn v' w' h1.swap ⟨(h2.block _ (by omega)).trans hS.1,(af hS.2.2 vdn).trans h2,(vbw.ey hS.2.2).trans ⟨h3,h4,h2.size⟩⟩)
    · intro a wx hS
      obtain⟨u,hg',hr',hb',hk',vh4,vh3⟩:=hS;have hk:=hk2.trans hk';refine⟨hk.from _,hk.s,?_⟩;refine⟨B2.trans hb',Nat.le_trans hI.size hk.z,vh4,by rw[vhh];exact vh3,by rw[hmap,HL.out];exact hnl,?_⟩;rw[hmap,HL.out];exact⟨_,_,hg',hr'⟩
 case done=>
  rintro D' xs W hD hxs hI hK;obtain⟨nv,ov,hF,hR⟩:=hI.vgz;have hnl:=hI.len;have hacc:vb6 (xs.map (·.s))=vad s:=by rw[hxs];rfl
  have hnd:(vb6 (xs.map (·.s))).ag.length≤100000:=by
   have h1:=(vd4 (xs.map (·.s))).1;rw[hxs] at h1 ⊢;omega
  rw[hacc] at hF hR hnl hnd;obtain⟨vl2,vex⟩:∃vl2,vad s=vl2:=⟨_,rfl⟩
  rw[vex] at hF hR hnl hnd;have hnl:=zh hnl;have vga:=zh (show(if(su vl2).2=0∧(su vl2).1=s then(vl2,0) else(⟨[],0,false,[],[]⟩,4))=RS by rw[←hRS.out,←vex];rfl);clear hRS hacc vex hxs;obtain⟨pn,cn,po,co,rfl,rfl⟩:=hR.shape;have bx:=bz hF;have veh:=hR.x9;have hV:dO (λb=>w.heap.size+4≤b) W (.agg #[str vl2.name,.int .u8 vl2.kind,.bool vl2.par,.slice pn vl2.ag.length cn,.slice po vl2.ops.length co]) vl2:=⟨_,_,rfl,hnl.out,veh.1,veh.2⟩;have HW:=C1 _ vl2 W (HT.out W hI.nD) hV hnd;have vk2:w.heap.size+4≤D':=by omega
  clear hV veh hnd hI0 vh0 HM HT F7 b0;generalize su vl2=WK at *;obtain⟨wt,vmo⟩:=WK;dsimp only at HW vga;have fin:∀(w9:World) (a0 a1 a2 a3 a4:Value),Below W.heap.size W w9→(va9 w9 w.heap.size a0 a1 a2 a3 a4).heap[D']? =some (.deferred (some []))∧((va9 w9 w.heap.size a0 a1 a2 a3 a4).putObj D' (.deferred none)).heap[w.heap.size]? =some (.cells #[a0,a1,a2,a3,a4] 58 (0,0))∧
   aY (λb=>w.heap.size≤b) ((va9 w9 w.heap.size a0 a1 a2 a3 a4).putObj D' (.deferred none)) (.slice pn vl2.ag.length cn) vl2.ag∧aY (λb=>w.heap.size≤b) ((va9 w9 w.heap.size a0 a1 a2 a3 a4).putObj D' (.deferred none)) (.slice po vl2.ops.length co) vl2.ops∧Below w.heap.size w ((va9 w9 w.heap.size a0 a1 a2 a3 a4).putObj D' (.deferred none)):=by
   intro w9 a0 a1 a2 a3 a4 Me;have viu:=(ve8 (show D'≠w.heap.size by omega) a0 a1 a2 a3 a4).trans (ah hK Me);have vje:=(((((hR.below Me zr).set (a:=⟨w.heap.size,0,none⟩) (by simp only;omega) a0).set (a:=⟨w.heap.size,1,none⟩) (by simp only;omega) a1).set (a:=⟨w.heap.size,2,none⟩) (by simp only;omega) a2).set (a:=⟨w.heap.size,3,none⟩) (by simp only;omega) a3).set (a:=⟨w.heap.size,4,none⟩) (by simp only;omega) a4;have vjd:=vje.grown (grownBy_putObj' _ D' (.deferred none)) (λr e=>by cases e;exact⟨_,viu,rfl⟩);obtain⟨o1,o2⟩:=vjd.x9;have vip:=Below.va9 (hI.nD.trans (af Me hI.nD.size)) zr a0 a1 a2 a3 a4;exact⟨viu,(World.putObj_heap_other (by omega)).trans (vfj (ah hI.res Me) a0 a1 a2 a3 a4),o1.mono λb hb=>by omega,o2.mono λb hb=>by omega,vip.grown (grownBy_putObj' _ D' (.deferred none)) vip.size (λk e=>by cases e;omega)⟩
  by_cases hw:vmo=0
  case pos=>
   subst hw
   by_cases SL:wt=s
   case pos=>
    subst SL
    gi_wp2_with (refine⟨trivial,?_⟩;gi_at_call 51;refine(callsIn_wide.2 HW).mono ?_;clear HW;rintro e w9 ⟨rfl,Me⟩;have vm5:=bz (ah hI.res Me);have c9:=bz (ah hF Me);have vit:=ah hK Me)
    obtain⟨f1,f2,f3,f4,f5⟩:=fin w9 (str vl2.name) (.int .u8 vl2.kind) (.bool vl2.par) (.slice pn vl2.ag.length cn) (.slice po vl2.ops.length co) Me;obtain⟨W6,Kv⟩:∃W6,(va9 w9 w.heap.size (str vl2.name) (.int .u8 vl2.kind) (.bool vl2.par) (.slice pn vl2.ag.length cn) (.slice po vl2.ops.length co)).putObj D' (.deferred none)=W6:=⟨_,rfl⟩
    rw[Kv] at f2 f3 f4 f5;refine⟨by simp,.inl ⟨_,W6,rfl,by rw[←Kv];exact run_takeDeferred f1,?_⟩⟩;have vm7:=bz f2;refine⟨.tuple #[.agg #[str vl2.name,.int .u8 vl2.kind,.bool vl2.par,.slice pn vl2.ag.length cn,.slice po vl2.ops.length co],.int .i64 0],by simp[results,Tryz.results53,go_sem,vm7.1],?_⟩;rw[←vga.out,if_pos (by simp)];exact⟨_,rfl,⟨_,_,rfl,hnl.out,f3,f4⟩,f5⟩
   case neg=>
    have hq:(wt==s)=false:=by simp[SL]
    gi_wp2_with (refine⟨trivial,?_⟩;gi_at_call 51;refine(callsIn_wide.2 HW).mono ?_;clear HW;rintro e w9 ⟨rfl,Me⟩;have vm5:=bz (ah hI.res Me);have c9:=bz (ah hF Me);have vit:=ah hK Me)
    obtain⟨f1,f2,f3,f4,f5⟩:=fin w9 (.string ⟨#[]⟩) (.int .u8 0) (.bool false) (.slice none 0 0) (.slice none 0 0) Me;obtain⟨W6,Kv⟩:∃W6,(va9 w9 w.heap.size (.string ⟨#[]⟩) (.int .u8 0) (.bool false) (.slice none 0 0) (.slice none 0 0)).putObj D' (.deferred none)=W6:=⟨_,rfl⟩
    rw[Kv] at f2 f3 f4 f5;refine⟨by simp,.inl ⟨_,W6,rfl,by rw[←Kv];exact run_takeDeferred f1,?_⟩⟩;have vm7:=bz f2;refine⟨.tuple #[.agg #[.string ⟨#[]⟩,.int .u8 0,.bool false,.slice none 0 0,.slice none 0 0],.int .i64 4],by simp[results,Tryz.results53,go_sem,vm7.1],?_⟩;rw[←vga.out,if_neg (λh=>SL h.2)];exact⟨_,rfl,⟨_,_,rfl,Nat.zero_le _,aY.nil _ _ _ _,aY.nil _ _ _ _⟩,f5⟩
  case neg=>
   have hq:((vmo:Int)==0)=false:=by simp;omega
   gi_wp2_with (refine⟨trivial,?_⟩;gi_at_call 51;refine(callsIn_wide.2 HW).mono ?_;clear HW;rintro e w9 ⟨rfl,Me⟩;have vm5:=bz (ah hI.res Me);have c9:=bz (ah hF Me);have vit:=ah hK Me)
   obtain⟨f1,f2,f3,f4,f5⟩:=fin w9 (.string ⟨#[]⟩) (.int .u8 0) (.bool false) (.slice none 0 0) (.slice none 0 0) Me;obtain⟨W6,Kv⟩:∃W6,(va9 w9 w.heap.size (.string ⟨#[]⟩) (.int .u8 0) (.bool false) (.slice none 0 0) (.slice none 0 0)).putObj D' (.deferred none)=W6:=⟨_,rfl⟩
   rw[Kv] at f2 f3 f4 f5;refine⟨by simp,.inl ⟨_,W6,rfl,by rw[←Kv];exact run_takeDeferred f1,?_⟩⟩;have vm7:=bz f2;refine⟨.tuple #[.agg #[.string ⟨#[]⟩,.int .u8 0,.bool false,.slice none 0 0,.slice none 0 0],.int .i64 4],by simp[results,Tryz.results53,go_sem,vm7.1],?_⟩;rw[←vga.out,if_neg (λh=>hw h.1)];exact⟨_,rfl,⟨_,_,rfl,Nat.zero_le _,aY.nil _ _ _ _,aY.nil _ _ _ _⟩,f5⟩
 case stop=>
  rintro D' cd pre W _ _ h _;exact h.elim
