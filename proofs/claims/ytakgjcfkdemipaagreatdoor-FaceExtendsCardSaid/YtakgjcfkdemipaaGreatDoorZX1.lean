/-
  Lemmas for the statement: contract: of the package face: Extends. Conditions: bounds of lengths; the variable strings.asciiSpace.
-/
import Derived.Test.YtakgjcfkdemipaaGreatDoorZB23
import Derived.Test.YtakgjcfkdemipaaGreatDoorZBn
import Derived.Test.YtakgjcfkdemipaaGreatDoorZX0
set_option maxHeartbeats 25600000
namespace Go.Proofs.YtakgjcfkdemipaaGreatDoor
open Go.RowKit
def va0 (a b:aL):Bool:=decide (a.name=b.name)&&pK a.sig b.sig
theorem vbd {α:Type} (p:α→Bool) (l:List α):decide (0≤pU p l 0)=l.any p:=by
 rcases xC p l 0 with⟨h1,h2⟩|⟨i,x,h1,h2,h3⟩
 · rw[h1]
   have:l.any p=false:=by
    rw[List.any_eq_false];intro x hx;have:=List.find?_eq_none.1 h2 x hx
    simpa using this
   rw[this];rfl
 · rw[h1]
   have:l.any p=true:=List.any_eq_true.2 ⟨x,List.mem_of_getElem? h3,List.find?_some h2⟩;rw[this,decide_eq_true];omega
set_option maxRecDepth 4000 in
theorem vbl {D E:Nat→Prop} (x y:aL) (v u:Value) (w:World) (hv:gx D w v x) (hu:gx E w u y):
 Calls Tryz.prog 97 #[v,u] w λe w'=>e=.returned (.bool (va0 x y))∧Below w.heap.size w w':=by
 obtain⟨a,s,rfl,l1,h2,h3⟩:=hv
 obtain⟨b,q,rfl,l2,k2,k3⟩:=hu
 obtain⟨pa,ca,rfl,_⟩:=h2.shape
 obtain⟨ps,cs,rfl,_⟩:=h3.shape
 obtain⟨pb,cb,rfl,_⟩:=k2.shape
 obtain⟨pq,cq,rfl,_⟩:=k3.shape
 have hA:=(zb w).alloc zr (.cells #[str x.name,.bool x.sig.iter,.slice pa x.sig.args.length ca,str x.sig.res,.slice ps x.sig.sigs.length cs] 79)
 have hB:=hA.alloc hA.size (.cells #[str y.name,.bool y.sig.iter,.slice pb y.sig.args.length cb,str y.sig.res,.slice pq y.sig.sigs.length cq] 79)
 have bx:=bz (aD (.cells #[str y.name,.bool y.sig.iter,.slice pb y.sig.args.length cb,str y.sig.res,.slice pq y.sig.sigs.length cq] 79) (heap_alloc_new w (.cells #[str x.name,.bool x.sig.iter,.slice pa x.sig.args.length ca,str x.sig.res,.slice ps x.sig.sigs.length cs] 79)))
 have vf3:=bz (cI (w:=w.alloc (.cells #[str x.name,.bool x.sig.iter,.slice pa x.sig.args.length ca,str x.sig.res,.slice ps x.sig.sigs.length cs] 79)) (n:=w.heap.size+1) (by simp) #[str y.name,.bool y.sig.iter,.slice pb y.sig.args.length cb,str y.sig.res,.slice pq y.sig.sigs.length cq] 79)
 have HS:=tr x.sig y.sig _ _ _ ⟨_,_,rfl,l1.2,h2.below hB zr,h3.below hB zr⟩ ⟨_,_,rfl,l2.2,k2.below hB zr,k3.below hB zr⟩
 have HL:=zh (show va0 x y=(decide (x.name=y.name)&&pK x.sig y.sig) from rfl)
 generalize va0 x y=LK at *
 generalize pK x.sig y.sig=SK at *
 clear h2 h3 k2 k3
 by_cases hn:x.name=y.name
 · have g1:(x.name==y.name)=true:=by simpa using hn
   have HX:=zh (show LK=SK by rw[HL.out,decide_eq_true hn,Bool.true_and]);clear HL hn;cases SK
   all_goals
    go_enter Tryz.func97,Tryz.ntmps97;go_wp2_with (go_at_call 139;refine HS.mono ?_;clear HS;rintro e w3 ⟨rfl,aH⟩);go_ret;exact⟨by rw[HX.out];first|done|rfl,hB.trans (af aH hB.size)⟩
 · have g1:(x.name==y.name)=false:=by simpa using hn
   have HX:=zh (show LK=false by rw[HL.out,decide_eq_false hn,Bool.false_and]);clear HL hn HS;go_enter Tryz.func97,Tryz.ntmps97;go_wp2_with fail;go_ret;exact⟨by rw[HX.out];first|done|rfl,hB⟩
set_option maxRecDepth 4000 in
theorem vbh {D E:Nat→Prop} (y x:aL) (v:Value) (fb vfi:Nat) (w:World) (hv:gx D w v y) {xv:Value} (hx:gx E w xv x) (hf:w.heap[fb]? =some (.cells #[.func (.func 97) #[] #[]] 120 (0,0))) (vb7:∃cs:Array Value,xv=.agg cs∧w.heap[vfi]? =some (.cells cs 79 (0,0))):
 Calls Tryz.prog 154 #[v,.pointer (some ⟨fb,0,none⟩),.pointer (some ⟨vfi,0,none⟩)] w λe w'=>e=.returned (.bool (va0 y x))∧Below w.heap.size w w':=by
 obtain⟨a,s,rfl,l1,h2,h3⟩:=hv
 obtain⟨b,q,rfl,l2,k2,k3⟩:=hx
 obtain⟨cs0,hcs,vb7⟩:=vb7
 injection hcs with hcs
 subst hcs
 obtain⟨pa,ca,rfl,_⟩:=h2.shape
 obtain⟨ps,cs,rfl,_⟩:=h3.shape
 obtain⟨pb,cb,rfl,_⟩:=k2.shape
 obtain⟨pq,cq,rfl,_⟩:=k3.shape
 have hA:=(zb w).alloc zr (.cells #[str y.name,.bool y.sig.iter,.slice pa y.sig.args.length ca,str y.sig.res,.slice ps y.sig.sigs.length cs] 79)
 have bx:=bz (heap_alloc_new w (.cells #[str y.name,.bool y.sig.iter,.slice pa y.sig.args.length ca,str y.sig.res,.slice ps y.sig.sigs.length cs] 79))
 have vf3:=bz (aD (.cells #[str y.name,.bool y.sig.iter,.slice pa y.sig.args.length ca,str y.sig.res,.slice ps y.sig.sigs.length cs] 79) vb7)
 have bf:=(ak (aD (.cells #[str y.name,.bool y.sig.iter,.slice pa y.sig.args.length ca,str y.sig.res,.slice ps y.sig.sigs.length cs] 79) hf) 0).trans rfl
 have HS:=vbl y x _ _ _ ⟨_,_,rfl,l1,h2.below hA zr,h3.below hA zr⟩ ⟨_,_,rfl,l2,k2.below hA zr,k3.below hA zr⟩
 generalize va0 y x=LK at *
 clear h2 h3 k2 k3 vb7 hf
 cases LK
 all_goals
  go_enter Tryz.func154,Tryz.ntmps154;go_wp2_with (go_at_call 97;refine HS.mono ?_;clear HS;rintro e w3 ⟨rfl,aH⟩);go_ret;exact⟨rfl,hA.trans (af aH hA.size)⟩
set_option maxRecDepth 4000 in
theorem vb8 {D E:Nat→Prop} (l:List aL) (x:aL) (v xv:Value) (fb vfi:Nat) (w:World) (hv:aY D w v l) (hx:gx E w xv x) (hf:w.heap[fb]? =some (.cells #[.func (.func 97) #[] #[]] 120 (0,0))) (vb7:∃cs:Array Value,xv=.agg cs∧w.heap[vfi]? =some (.cells cs 79 (0,0))):
 Calls Tryz.prog 210 #[v,.func (.func 154) #[] #[.pointer (some ⟨fb,0,none⟩),.pointer (some ⟨vfi,0,none⟩)]] w λe w'=>e=.returned (.int .i64 (pU (λy=>va0 y x) l 0))∧Below w.heap.size w w':=by
 obtain⟨p,c,rfl,_,hm,hle⟩:=hv.shape
 unfold maxLen at hm
 clear hle
 have vcp:=λy yv W (hW:Below w.heap.size w W) (hy:gx D W yv y)=>vbh y x yv fb vfi W hy (hx.below hW zr) (ah hf hW) (by obtain⟨cs,h1,h2⟩:=vb7;exact⟨cs,h1,ah h2 hW⟩)
 clear hx hf vb7
 generalize hP:(λy=>va0 y x)=P
 have HP:=zh hP
 clear hP
 go_enter Tryz.func210,Tryz.ntmps210
 go_wp2_with fail
 go_loopw [8] (λa wr=>∃i:Nat,i≤l.length∧a=.int .i64 i∧Below w.heap.size w wr∧Hid (pU P l 0=pU P (l.drop i) i)) (λa _=>l.length - (intOf a).toNat)
 case atStart=>exact⟨0,Nat.zero_le _,rfl,zb _,rfl⟩
 case round=>
  obtain⟨i,hi,rfl,hb,hA⟩:=hrel
  by_cases hlt:i<l.length
  case neg=>
   have HX:=zh (show pU P l 0= -1 by rw[hA.out,List.drop_eq_nil_of_le (by omega)];rfl);clear hA;go_wp2_with fail;go_ret;exact⟨by rw[HX.out];rfl,hb⟩
  case pos=>
   obtain⟨y,hkx⟩:∃y,l[i]? =some y:=⟨_,List.getElem?_eq_getElem hlt⟩
   obtain⟨b1,o1,av,sv,rfl,_,hle,fe,eE,uq,pG,od,pZ,rK⟩:=(hv.below hb zr).at hkx;have HN:=vcp y _ wr hb ⟨av,sv,rfl,hle,fe,eE⟩;obtain⟨pa,ca,rfl,_⟩:=fe.shape;obtain⟨ps,cs,rfl,_⟩:=eE.shape;have hd:=hA.out;rw[bp hkx,pU] at hd;have vct:P y=va0 y x:=by rw[←HP.out]
   rw[←vct] at HN;clear hA hkx fe eE vct vcp;rcases hn:P y with _|_
   · rw[hn] at HN hd
     have HX:=zh (hd.trans (if_neg (by simp)));clear hd hn;go_wp2_with (go_at_call 154;refine HN.mono ?_;clear HN;rintro e w1 ⟨rfl,au⟩);exact⟨⟨i+1,by omega,by go_num,hb.trans (af au hb.size),HX⟩,by simp only[intOf];omega⟩
   · rw[hn] at HN hd
     have HX:=zh (hd.trans (if_pos rfl));clear hd hn;go_wp2_with (go_at_call 154;refine HN.mono ?_;clear HN;rintro e w1 ⟨rfl,au⟩);go_ret;exact⟨by rw[HX.out];rfl,hb.trans (af au hb.size)⟩
set_option maxRecDepth 4000 in
theorem vbs {D E:Nat→Prop} (l:List aL) (x:aL) (v xv:Value) (w:World) (hv:aY D w v l) (hx:gx E w xv x):
 Calls Tryz.prog 96 #[v,xv,.func (.func 97) #[] #[]] w λe w'=>e=.returned (.bool (l.any λy=>va0 y x))∧Below w.heap.size w w':=by
 have hx0:=hx
 obtain⟨a,s,rfl,l1,h2,h3⟩:=hx
 obtain⟨pa,ca,rfl,_⟩:=h2.shape
 obtain⟨ps,cs,rfl,_⟩:=h3.shape
 clear h2 h3
 have hA:=(zb w).alloc zr (.cells #[str x.name,.bool x.sig.iter,.slice pa x.sig.args.length ca,str x.sig.res,.slice ps x.sig.sigs.length cs] 79)
 have hB:=hA.alloc hA.size (.cells #[.func (.func 97) #[] #[]] 120)
 have h1:=aD (.cells #[.func (.func 97) #[] #[]] 120) (heap_alloc_new w (.cells #[str x.name,.bool x.sig.iter,.slice pa x.sig.args.length ca,str x.sig.res,.slice ps x.sig.sigs.length cs] 79))
 have hf:=cI (w:=w.alloc (.cells #[str x.name,.bool x.sig.iter,.slice pa x.sig.args.length ca,str x.sig.res,.slice ps x.sig.sigs.length cs] 79)) (n:=w.heap.size+1) (by simp) #[.func (.func 97) #[] #[]] 120
 have HI:=vb8 l x v _ _ _ _ (hv.below hB zr) (hx0.below hB zr) hf ⟨_,rfl,h1⟩
 have HC:Calls Tryz.prog 153 #[v,.func (.func 154) #[] #[.pointer (some ⟨w.heap.size+1,0,none⟩),.pointer (some ⟨w.heap.size,0,none⟩)]] ((w.alloc (.cells #[str x.name,.bool x.sig.iter,.slice pa x.sig.args.length ca,str x.sig.res,.slice ps x.sig.sigs.length cs] 79)).alloc (.cells #[.func (.func 97) #[] #[]] 120)) (λe w'=>e=.returned (.bool (l.any λy=>va0 y x))∧Below (w.heap.size+1+1) ((w.alloc (.cells #[str x.name,.bool x.sig.iter,.slice pa x.sig.args.length ca,str x.sig.res,.slice ps x.sig.sigs.length cs] 79)).alloc (.cells #[.func (.func 97) #[] #[]] 120)) w'):=by
  rw[←vbd];rw[World.size_alloc,World.size_alloc] at HI;generalize (w.alloc (.cells #[str x.name,.bool x.sig.iter,.slice pa x.sig.args.length ca,str x.sig.res,.slice ps x.sig.sigs.length cs] 79)).alloc (.cells #[.func (.func 97) #[] #[]] 120)=W at *;generalize pU (λy=>va0 y x) l 0=I at *;clear hx0 hA h1 hf hB;obtain⟨p,c,rfl,_⟩:=hv.shape
  by_cases hI:0≤I
  · have HX:=zh (decide_eq_true hI)
    have g:¬I<0:=by omega
    go_enter Tryz.func153,Tryz.ntmps153;go_wp2_with (go_at_call 210;refine HI.mono ?_;rintro e w1 ⟨rfl,au⟩);go_ret;exact⟨by rw[HX.out];first|done|rfl,au⟩
  · have HX:=zh (decide_eq_false hI)
    go_enter Tryz.func153,Tryz.ntmps153;go_wp2_with (go_at_call 210;refine HI.mono ?_;rintro e w1 ⟨rfl,au⟩);go_ret;exact⟨by rw[HX.out];first|done|rfl,au⟩
 generalize (l.any λy=>va0 y x)=R at *
 clear HI hf h1 hx0 hA
 obtain⟨p,c,rfl,_⟩:=hv.shape
 clear hv
 cases R
 all_goals
  go_enter Tryz.func96,Tryz.ntmps96;go_wp2_with (go_at_call 153;refine HC.mono ?_;clear HC;rintro e w1 ⟨rfl,au⟩);go_ret;exact⟨rfl,hB.trans (af au (by omega))⟩
set_option maxRecDepth 4000 in
theorem vc8 {D E:Nat→Prop} (x y:aL) (v u:Value) (w:World) (hv:gx D w v x) (hu:gx E w u y):
 Calls Tryz.prog 99 #[v,u] w λe w'=>e=.returned (.bool (va0 x y))∧Below w.heap.size w w':=by
 obtain⟨a,s,rfl,l1,h2,h3⟩:=hv
 obtain⟨b,q,rfl,l2,k2,k3⟩:=hu
 obtain⟨pa,ca,rfl,_⟩:=h2.shape
 obtain⟨ps,cs,rfl,_⟩:=h3.shape
 obtain⟨pb,cb,rfl,_⟩:=k2.shape
 obtain⟨pq,cq,rfl,_⟩:=k3.shape
 have hA:=(zb w).alloc zr (.cells #[str x.name,.bool x.sig.iter,.slice pa x.sig.args.length ca,str x.sig.res,.slice ps x.sig.sigs.length cs] 50)
 have hB:=hA.alloc hA.size (.cells #[str y.name,.bool y.sig.iter,.slice pb y.sig.args.length cb,str y.sig.res,.slice pq y.sig.sigs.length cq] 50)
 have bx:=bz (aD (.cells #[str y.name,.bool y.sig.iter,.slice pb y.sig.args.length cb,str y.sig.res,.slice pq y.sig.sigs.length cq] 50) (heap_alloc_new w (.cells #[str x.name,.bool x.sig.iter,.slice pa x.sig.args.length ca,str x.sig.res,.slice ps x.sig.sigs.length cs] 50)))
 have vf3:=bz (cI (w:=w.alloc (.cells #[str x.name,.bool x.sig.iter,.slice pa x.sig.args.length ca,str x.sig.res,.slice ps x.sig.sigs.length cs] 50)) (n:=w.heap.size+1) (by simp) #[str y.name,.bool y.sig.iter,.slice pb y.sig.args.length cb,str y.sig.res,.slice pq y.sig.sigs.length cq] 50)
 have HS:=tr x.sig y.sig _ _ _ ⟨_,_,rfl,l1.2,h2.below hB zr,h3.below hB zr⟩ ⟨_,_,rfl,l2.2,k2.below hB zr,k3.below hB zr⟩
 have HL:=zh (show va0 x y=(decide (x.name=y.name)&&pK x.sig y.sig) from rfl)
 generalize va0 x y=LK at *
 generalize pK x.sig y.sig=SK at *
 clear h2 h3 k2 k3
 by_cases hn:x.name=y.name
 · have g1:(x.name==y.name)=true:=by simpa using hn
   have HX:=zh (show LK=SK by rw[HL.out,decide_eq_true hn,Bool.true_and]);clear HL hn;cases SK
   all_goals
    go_enter Tryz.func99,Tryz.ntmps99;go_wp2_with (go_at_call 139;refine HS.mono ?_;clear HS;rintro e w3 ⟨rfl,aH⟩);go_ret;exact⟨by rw[HX.out];first|done|rfl,hB.trans (af aH hB.size)⟩
 · have g1:(x.name==y.name)=false:=by simpa using hn
   have HX:=zh (show LK=false by rw[HL.out,decide_eq_false hn,Bool.false_and]);clear HL hn HS;go_enter Tryz.func99,Tryz.ntmps99;go_wp2_with fail;go_ret;exact⟨by rw[HX.out];first|done|rfl,hB⟩
set_option maxRecDepth 4000 in
theorem vc5 {D E:Nat→Prop} (y x:aL) (v:Value) (fb vfi:Nat) (w:World) (hv:gx D w v y) {xv:Value} (hx:gx E w xv x) (hf:w.heap[fb]? =some (.cells #[.func (.func 99) #[] #[]] 122 (0,0))) (vb7:∃cs:Array Value,xv=.agg cs∧w.heap[vfi]? =some (.cells cs 50 (0,0))):
 Calls Tryz.prog 156 #[v,.pointer (some ⟨fb,0,none⟩),.pointer (some ⟨vfi,0,none⟩)] w λe w'=>e=.returned (.bool (va0 y x))∧Below w.heap.size w w':=by
 obtain⟨a,s,rfl,l1,h2,h3⟩:=hv
 obtain⟨b,q,rfl,l2,k2,k3⟩:=hx
 obtain⟨cs0,hcs,vb7⟩:=vb7
 injection hcs with hcs
 subst hcs
 obtain⟨pa,ca,rfl,_⟩:=h2.shape
 obtain⟨ps,cs,rfl,_⟩:=h3.shape
 obtain⟨pb,cb,rfl,_⟩:=k2.shape
 obtain⟨pq,cq,rfl,_⟩:=k3.shape
 have hA:=(zb w).alloc zr (.cells #[str y.name,.bool y.sig.iter,.slice pa y.sig.args.length ca,str y.sig.res,.slice ps y.sig.sigs.length cs] 50)
 have bx:=bz (heap_alloc_new w (.cells #[str y.name,.bool y.sig.iter,.slice pa y.sig.args.length ca,str y.sig.res,.slice ps y.sig.sigs.length cs] 50))
 have vf3:=bz (aD (.cells #[str y.name,.bool y.sig.iter,.slice pa y.sig.args.length ca,str y.sig.res,.slice ps y.sig.sigs.length cs] 50) vb7)
 have bf:=(ak (aD (.cells #[str y.name,.bool y.sig.iter,.slice pa y.sig.args.length ca,str y.sig.res,.slice ps y.sig.sigs.length cs] 50) hf) 0).trans rfl
 have HS:=vc8 y x _ _ _ ⟨_,_,rfl,l1,h2.below hA zr,h3.below hA zr⟩ ⟨_,_,rfl,l2,k2.below hA zr,k3.below hA zr⟩
 generalize va0 y x=LK at *
 clear h2 h3 k2 k3 vb7 hf
 cases LK
 all_goals
  go_enter Tryz.func156,Tryz.ntmps156;go_wp2_with (go_at_call 99;refine HS.mono ?_;clear HS;rintro e w3 ⟨rfl,aH⟩);go_ret;exact⟨rfl,hA.trans (af aH hA.size)⟩
set_option maxRecDepth 4000 in
theorem vbx {D E:Nat→Prop} (l:List aL) (x:aL) (v xv:Value) (fb vfi:Nat) (w:World) (hv:aY D w v l) (hx:gx E w xv x) (hf:w.heap[fb]? =some (.cells #[.func (.func 99) #[] #[]] 122 (0,0))) (vb7:∃cs:Array Value,xv=.agg cs∧w.heap[vfi]? =some (.cells cs 50 (0,0))):
 Calls Tryz.prog 136 #[v,.func (.func 156) #[] #[.pointer (some ⟨fb,0,none⟩),.pointer (some ⟨vfi,0,none⟩)]] w λe w'=>e=.returned (.int .i64 (pU (λy=>va0 y x) l 0))∧Below w.heap.size w w':=by
 obtain⟨p,c,rfl,_,hm,hle⟩:=hv.shape
 unfold maxLen at hm
 clear hle
 have vcp:=λy yv W (hW:Below w.heap.size w W) (hy:gx D W yv y)=>vc5 y x yv fb vfi W hy (hx.below hW zr) (ah hf hW) (by obtain⟨cs,h1,h2⟩:=vb7;exact⟨cs,h1,ah h2 hW⟩)
 clear hx hf vb7
 generalize hP:(λy=>va0 y x)=P
 have HP:=zh hP
 clear hP
 go_enter Tryz.func136,Tryz.ntmps136
 go_wp2_with fail
 go_loopw [8] (λa wr=>∃i:Nat,i≤l.length∧a=.int .i64 i∧Below w.heap.size w wr∧Hid (pU P l 0=pU P (l.drop i) i)) (λa _=>l.length - (intOf a).toNat)
 case atStart=>exact⟨0,Nat.zero_le _,rfl,zb _,rfl⟩
 case round=>
  obtain⟨i,hi,rfl,hb,hA⟩:=hrel
  by_cases hlt:i<l.length
  case neg=>
   have HX:=zh (show pU P l 0= -1 by rw[hA.out,List.drop_eq_nil_of_le (by omega)];rfl);clear hA;go_wp2_with fail;go_ret;exact⟨by rw[HX.out];rfl,hb⟩
  case pos=>
   obtain⟨y,hkx⟩:∃y,l[i]? =some y:=⟨_,List.getElem?_eq_getElem hlt⟩
   obtain⟨b1,o1,av,sv,rfl,_,hle,fe,eE,uq,pG,od,pZ,rK⟩:=(hv.below hb zr).at hkx;have HN:=vcp y _ wr hb ⟨av,sv,rfl,hle,fe,eE⟩;obtain⟨pa,ca,rfl,_⟩:=fe.shape;obtain⟨ps,cs,rfl,_⟩:=eE.shape;have hd:=hA.out;rw[bp hkx,pU] at hd;have vct:P y=va0 y x:=by rw[←HP.out]
   rw[←vct] at HN;clear hA hkx fe eE vct vcp;rcases hn:P y with _|_
   · rw[hn] at HN hd
     have HX:=zh (hd.trans (if_neg (by simp)));clear hd hn;go_wp2_with (go_at_call 156;refine HN.mono ?_;clear HN;rintro e w1 ⟨rfl,au⟩);exact⟨⟨i+1,by omega,by go_num,hb.trans (af au hb.size),HX⟩,by simp only[intOf];omega⟩
   · rw[hn] at HN hd
     have HX:=zh (hd.trans (if_pos rfl));clear hd hn;go_wp2_with (go_at_call 156;refine HN.mono ?_;clear HN;rintro e w1 ⟨rfl,au⟩);go_ret;exact⟨by rw[HX.out];rfl,hb.trans (af au hb.size)⟩
set_option maxRecDepth 4000 in
theorem vci {D E:Nat→Prop} (l:List aL) (x:aL) (v xv:Value) (w:World) (hv:aY D w v l) (hx:gx E w xv x):
 Calls Tryz.prog 98 #[v,xv,.func (.func 99) #[] #[]] w λe w'=>e=.returned (.bool (l.any λy=>va0 y x))∧Below w.heap.size w w':=by
 have hx0:=hx
 obtain⟨a,s,rfl,l1,h2,h3⟩:=hx
 obtain⟨pa,ca,rfl,_⟩:=h2.shape
 obtain⟨ps,cs,rfl,_⟩:=h3.shape
 clear h2 h3
 have hA:=(zb w).alloc zr (.cells #[str x.name,.bool x.sig.iter,.slice pa x.sig.args.length ca,str x.sig.res,.slice ps x.sig.sigs.length cs] 50)
 have hB:=hA.alloc hA.size (.cells #[.func (.func 99) #[] #[]] 122)
 have h1:=aD (.cells #[.func (.func 99) #[] #[]] 122) (heap_alloc_new w (.cells #[str x.name,.bool x.sig.iter,.slice pa x.sig.args.length ca,str x.sig.res,.slice ps x.sig.sigs.length cs] 50))
 have hf:=cI (w:=w.alloc (.cells #[str x.name,.bool x.sig.iter,.slice pa x.sig.args.length ca,str x.sig.res,.slice ps x.sig.sigs.length cs] 50)) (n:=w.heap.size+1) (by simp) #[.func (.func 99) #[] #[]] 122
 have HI:=vbx l x v _ _ _ _ (hv.below hB zr) (hx0.below hB zr) hf ⟨_,rfl,h1⟩
 have HC:Calls Tryz.prog 155 #[v,.func (.func 156) #[] #[.pointer (some ⟨w.heap.size+1,0,none⟩),.pointer (some ⟨w.heap.size,0,none⟩)]] ((w.alloc (.cells #[str x.name,.bool x.sig.iter,.slice pa x.sig.args.length ca,str x.sig.res,.slice ps x.sig.sigs.length cs] 50)).alloc (.cells #[.func (.func 99) #[] #[]] 122)) (λe w'=>e=.returned (.bool (l.any λy=>va0 y x))∧Below (w.heap.size+1+1) ((w.alloc (.cells #[str x.name,.bool x.sig.iter,.slice pa x.sig.args.length ca,str x.sig.res,.slice ps x.sig.sigs.length cs] 50)).alloc (.cells #[.func (.func 99) #[] #[]] 122)) w'):=by
  rw[←vbd];rw[World.size_alloc,World.size_alloc] at HI;generalize (w.alloc (.cells #[str x.name,.bool x.sig.iter,.slice pa x.sig.args.length ca,str x.sig.res,.slice ps x.sig.sigs.length cs] 50)).alloc (.cells #[.func (.func 99) #[] #[]] 122)=W at *;generalize pU (λy=>va0 y x) l 0=I at *;clear hx0 hA h1 hf hB;obtain⟨p,c,rfl,_⟩:=hv.shape
  by_cases hI:0≤I
  · have HX:=zh (decide_eq_true hI)
    have g:¬I<0:=by omega
    go_enter Tryz.func155,Tryz.ntmps155;go_wp2_with (go_at_call 136;refine HI.mono ?_;rintro e w1 ⟨rfl,au⟩);go_ret;exact⟨by rw[HX.out];first|done|rfl,au⟩
  · have HX:=zh (decide_eq_false hI)
    go_enter Tryz.func155,Tryz.ntmps155;go_wp2_with (go_at_call 136;refine HI.mono ?_;rintro e w1 ⟨rfl,au⟩);go_ret;exact⟨by rw[HX.out];first|done|rfl,au⟩
 generalize (l.any λy=>va0 y x)=R at *
 clear HI hf h1 hx0 hA
 obtain⟨p,c,rfl,_⟩:=hv.shape
 clear hv
 cases R
 all_goals
  go_enter Tryz.func98,Tryz.ntmps98;go_wp2_with (go_at_call 155;refine HC.mono ?_;clear HC;rintro e w1 ⟨rfl,au⟩);go_ret;exact⟨rfl,hB.trans (af au (by omega))⟩
def vac (f g:aA):Bool:=
 decide (f.name=g.name)&&decide (f.kind=g.kind)&&decide (f.par=g.par)&&g.ag.all (λn=>f.ag.any λy=>va0 y n)&&f.ops.all (λo=>g.ops.any λy=>va0 y o)
def vai (f g:aA):Bool×Nat:=if(dF f&&dF g)=true then(vac f g,0) else(false,42)
set_option maxRecDepth 8000 in
theorem vay {D E : Nat → Prop} (f g : aA) (v u : Value) (w : World) (ht : dW w) (hv : dO D w v f) (hu : dO E w u g) (hf : f.ag.length ≤ 100000) (hg : g.ag.length ≤ 100000) :
 Calls Tryz.prog 45 #[v,u] w λe w'=>e=.returned (.tuple #[.bool (vai f g).1,.int .i64 (vai f g).2])∧Below w.heap.size w w':=by
 obtain⟨fn,fk,fp,vf5,vf6⟩:=f
 obtain⟨gn,gk,vfa,vf7,vf8⟩:=g
 obtain⟨nv,ov,rfl,hnl,hN,hO⟩:=hv
 obtain⟨mv,vfe,rfl,hml,hM,hQ⟩:=hu
 dsimp only at hnl hN hO hml hM hQ hf hg
 have hA:=(zb w).alloc zr (.cells #[str fn,.int .u8 fk,.bool fp,nv,ov] 58)
 have hB:=hA.alloc hA.size (.cells #[str gn,.int .u8 gk,.bool vfa,mv,vfe] 58)
 have h1:=aD (.cells #[str gn,.int .u8 gk,.bool vfa,mv,vfe] 58) (heap_alloc_new w (.cells #[str fn,.int .u8 fk,.bool fp,nv,ov] 58))
 have h2:=cI (w:=w.alloc (.cells #[str fn,.int .u8 fk,.bool fp,nv,ov] 58)) (n:=w.heap.size+1) (by simp) #[str gn,.int .u8 gk,.bool vfa,mv,vfe] 58
 have veo:=mR _ ⟨fn,fk,fp,vf5,vf6⟩ _ (ht.below hB zr) ⟨nv,ov,rfl,hnl,hN.below hB zr,hO.below hB zr⟩ hf
 have vep:=λW (hW:Below (w.heap.size+1+1) ((w.alloc (.cells #[str fn,.int .u8 fk,.bool fp,nv,ov] 58)).alloc (.cells #[str gn,.int .u8 gk,.bool vfa,mv,vfe] 58)) W)=>mR _ ⟨gn,gk,vfa,vf7,vf8⟩ W ((ht.below hB zr).below hW (by simp)) ⟨mv,vfe,rfl,hml,(hM.below hB zr).below hW (by simp),(hQ.below hB zr).below hW (by simp)⟩ hg
 have vdo:iL ⟨fn,fk,fp,vf5,vf6⟩=if dF ⟨fn,fk,fp,vf5,vf6⟩=true then 0 else 42:=rfl
 have vdp:iL ⟨gn,gk,vfa,vf7,vf8⟩=if dF ⟨gn,gk,vfa,vf7,vf8⟩=true then 0 else 42:=rfl
 have HX:vai ⟨fn,fk,fp,vf5,vf6⟩ ⟨gn,gk,vfa,vf7,vf8⟩=if(dF ⟨fn,fk,fp,vf5,vf6⟩&&dF ⟨gn,gk,vfa,vf7,vf8⟩)=true then(vac ⟨fn,fk,fp,vf5,vf6⟩ ⟨gn,gk,vfa,vf7,vf8⟩,0) else(false,42):=rfl
 have vbo:vac ⟨fn,fk,fp,vf5,vf6⟩ ⟨gn,gk,vfa,vf7,vf8⟩=(decide (fn=gn)&&decide (fk=gk)&&decide (fp=vfa)&&vf7.all (λn=>vf5.any λy=>va0 y n)&&vf6.all (λo=>vf8.any λy=>va0 y o)):=rfl
 obtain⟨p1,c1,rfl,_⟩:=hN.shape
 obtain⟨p2,c2,rfl,_,hm2,_⟩:=hO.shape
 unfold maxLen at hm2
 obtain⟨p3,c3,rfl,_⟩:=hM.shape
 obtain⟨p4,c4,rfl,_⟩:=hQ.shape
 generalize vai ⟨fn,fk,fp,vf5,vf6⟩ ⟨gn,gk,vfa,vf7,vf8⟩=XR at *
 generalize vac ⟨fn,fk,fp,vf5,vf6⟩ ⟨gn,gk,vfa,vf7,vf8⟩=XB at *
 rw[vdo] at veo
 rw[vdp] at vep
 clear vdo vdp
 rcases q1:dF ⟨fn,fk,fp,vf5,vf6⟩ with _|_
 · rw[q1] at veo HX
   have HX:=zh (show XR=(false,42) by rw[HX];rfl);clear vep vbo q1 hN hO hM hQ;have bx:=bz h1;go_enter Tryz.func45,Tryz.ntmps45;go_wp2_with (go_at_call 38;refine veo.mono ?_;clear veo;rintro e w3 ⟨rfl,aH⟩);go_ret2;rw[HX.out];exact⟨rfl,hB.trans (af aH hB.size)⟩
 rw[q1] at veo HX
 rcases q2:dF ⟨gn,gk,vfa,vf7,vf8⟩ with _|_
 · rw[q2] at vep HX
   have HX:=zh (show XR=(false,42) by rw[HX];rfl);clear vbo q1 q2 hN hO hM hQ;have bx:=bz h1;have QO:=bz h2
   go_enter Tryz.func45,Tryz.ntmps45;go_wp2_with (first
    | (go_at_call 38;refine(vep w3 vas).mono ?_;clear vep;rintro e w4 ⟨rfl,hb4⟩)
    | (go_at_call 38;refine veo.mono ?_;clear veo;rintro e w3 ⟨rfl,aH⟩;have vas:Below (w.heap.size+1+1) _ w3:=af aH (by simp);have yR:=bz (ah h2 aH)))
   go_ret2;rw[HX.out];have dx:=hB.trans (af aH hB.size);exact⟨rfl,dx.trans (af hb4 dx.size)⟩
 rw[q2] at vep HX
 have HX:XR=(XB,0):=by rw[HX];rfl
 have bx:=bz h1
 by_cases e1:fn=gn
 case neg=>
  as_aux_lemma=>
   have g1:(fn==gn)=false:=by simpa using e1
   have HZ:=zh (show XR=(false,0) by rw[HX,vbo];simp[e1]);clear HX vbo hN hO hM hQ q1 q2;go_enter Tryz.func45,Tryz.ntmps45;go_wp2_with (first
    | (go_at_call 38;refine(vep w3 vas).mono ?_;clear vep;rintro e w4 ⟨rfl,hb4⟩;have B4:=B3.trans (af hb4 B3.size);have O0:=bz (ah (ah h1 aH) hb4);have vd2:=bz (ah (ah h2 aH) hb4))
    | (go_at_call 38;refine veo.mono ?_;clear veo;rintro e w3 ⟨rfl,aH⟩;have vas:Below (w.heap.size+1+1) _ w3:=af aH (by simp);have yR:=bz (ah h2 aH);have B3:=hB.trans (af aH hB.size)))
   go_ret2;rw[HZ.out];exact⟨rfl,B4⟩
 subst e1
 by_cases e2:fk=gk
 case neg=>
  as_aux_lemma=>
   have g1:((fk:Int)==(gk:Int))=false:=by rw[beq_eq_false_iff_ne];omega
   have g2:((fk:Int) != (gk:Int))=true:=by rw[bne_iff_ne];omega
   have HZ:=zh (show XR=(false,0) by rw[HX,vbo];simp[e2]);clear HX vbo hN hO hM hQ q1 q2;go_enter Tryz.func45,Tryz.ntmps45;go_wp2_with (first
    | (go_at_call 38;refine(vep w3 vas).mono ?_;clear vep;rintro e w4 ⟨rfl,hb4⟩;have B4:=B3.trans (af hb4 B3.size);have O0:=bz (ah (ah h1 aH) hb4);have vd2:=bz (ah (ah h2 aH) hb4))
    | (go_at_call 38;refine veo.mono ?_;clear veo;rintro e w3 ⟨rfl,aH⟩;have vas:Below (w.heap.size+1+1) _ w3:=af aH (by simp);have yR:=bz (ah h2 aH);have B3:=hB.trans (af aH hB.size)))
   go_ret2;rw[HZ.out];exact⟨rfl,B4⟩
 subst e2
 by_cases e3:fp=vfa
 case neg=>
  as_aux_lemma=>
   have e4:(fp=true∧vfa=false)∨(fp=false∧vfa=true):=by revert e3;cases fp<;>cases vfa<;>simp
   clear e3;rcases e4 with⟨rfl,rfl⟩|⟨rfl,rfl⟩
   all_goals
    have HZ:=zh (show XR=(false,0) by rw[HX,vbo];simp[]);clear HX vbo hN hO hM hQ q1 q2;go_enter Tryz.func45,Tryz.ntmps45;go_wp2_with (first
     | (go_at_call 38;refine(vep w3 vas).mono ?_;clear vep;rintro e w4 ⟨rfl,hb4⟩;have B4:=B3.trans (af hb4 B3.size);have O0:=bz (ah (ah h1 aH) hb4);have vd2:=bz (ah (ah h2 aH) hb4))
     | (go_at_call 38;refine veo.mono ?_;clear veo;rintro e w3 ⟨rfl,aH⟩;have vas:Below (w.heap.size+1+1) _ w3:=af aH (by simp);have yR:=bz (ah h2 aH);have B3:=hB.trans (af aH hB.size)))
    go_ret2;rw[HZ.out];exact⟨rfl,B4⟩
 subst e3
 have vbo:XB=(vf7.all (λn=>vf5.any λy=>va0 y n)&&vf6.all (λo=>vf8.any λy=>va0 y o)):=by rw[vbo];simp
 have vdc:=zh HX
 have HS:=zh vbo
 have Nh:=hN.below hB zr
 have RG:=hO.below hB zr
 have Pf:=hM.below hB zr
 have vdw:=hQ.below hB zr
 clear HX vbo hN hO hM hQ q1 q2
 as_aux_lemma=>
  go_enter Tryz.func45,Tryz.ntmps45;go_wp2_with (first
   | (go_at_call 38;refine(vep w3 vas).mono ?_;clear vep;rintro e w4 ⟨rfl,hb4⟩;have B4:=B3.trans (af hb4 B3.size);have O0:=bz (ah (ah h1 aH) hb4);have vd2:=bz (ah (ah h2 aH) hb4))
   | (go_at_call 38;refine veo.mono ?_;clear veo;rintro e w3 ⟨rfl,aH⟩;have vas:Below (w.heap.size+1+1) _ w3:=af aH (by simp);have yR:=bz (ah h2 aH);have B3:=hB.trans (af aH hB.size)))
  have veu:=ah (ah h1 aH) hb4;have vex:=ah (ah h2 aH) hb4;have BQ:=(Nh.below aH zr).below hb4 zr;have Ph:=(RG.below aH zr).below hb4 zr;have vdu:=(Pf.below aH zr).below hb4 zr;have vdv:=(vdw.below aH zr).below hb4 zr;clear bx yR O0 vd2 Nh RG Pf vdw h1 h2 aH vas hb4 B3 hA hB;go_loopw [40] (λy wx=>∃i:Nat,i≤vf7.length∧y=.int .i64 i∧Below w4.heap.size w4 wx∧Hid (XB=((vf7.drop i).all (λn=>vf5.any λy=>va0 y n)&&vf6.all (λo=>vf8.any λy=>va0 y o)))) (λy _=>vf7.length - (intOf y).toNat)
  case atStart=>exact⟨0,Nat.zero_le _,by go_num,zb _,HS⟩
  case round=>
   obtain⟨i,hi,rfl,hr,hA⟩:=hrel;have kx:=bz (ah veu hr);have ky:=bz (ah vex hr)
   by_cases hlt:i<vf7.length
   case neg =>
    have hie:vf7.drop i=[]:=List.drop_eq_nil_of_le (by omega);have HS:=zh (show XB=vf6.all (λo=>vf8.any λy=>va0 y o) by rw[hA.out,hie];rfl);clear hA hie;have vev:=ah veu hr;have vey:=ah vex hr;have Ni:=Ph.below hr zr;have ve8:=vdv.below hr zr;have B6:=B4.trans (af hr B4.size);go_wp2_with fail;clear kx ky veu vex BQ vdu Ph vdv hr B4;generalize wr=w6 at *;go_loopw [53] (λy wx=>∃i:Nat,i≤vf6.length∧y=.int .i64 i∧Below w6.heap.size w6 wx∧Hid (XB=((vf6.drop i).all (λo=>vf8.any λy=>va0 y o)))) (λy _=>vf6.length - (intOf y).toNat)
    case atStart=>exact⟨0,Nat.zero_le _,by go_num,zb _,HS⟩
    case round=>
     obtain⟨i,hi,rfl,hr,hA⟩:=hrel;have kx:=bz (ah vev hr);have ky:=bz (ah vey hr)
     by_cases hlt:i<vf6.length
     case neg=>
      have hie:vf6.drop i=[]:=List.drop_eq_nil_of_le (by omega);have HZ:=zh (show XR=(true,0) by rw[vdc.out,hA.out,hie];rfl);clear hA hie;go_wp2_with fail;go_ret2;rw[HZ.out];exact⟨rfl,B6.trans (af hr B6.size)⟩
     case pos=>
      obtain⟨x,hx⟩:∃x,vf6[i]? =some x:=⟨_,List.getElem?_eq_getElem hlt⟩
      obtain⟨b1,o1,av,sv,mq,_,hxl,fe,eE,uq,pG,od,pZ,rK⟩:=(Ni.below hr zr).at hx;subst mq;obtain⟨pa,ca,rfl,_⟩:=fe.shape;obtain⟨ps,cs,rfl,_⟩:=eE.shape;have hE:=(zb wr).alloc zr (.cells #[str x.name,.bool x.sig.iter,.slice pa x.sig.args.length ca,str x.sig.res,.slice ps x.sig.sigs.length cs] 50);have hr2:=hr.trans (af hE hr.size);have vei:=bz (ah vev hr2);have vej:=bz (ah vey hr2);have vf3:=bz (heap_alloc_new wr (.cells #[str x.name,.bool x.sig.iter,.slice pa x.sig.args.length ca,str x.sig.res,.slice ps x.sig.sigs.length cs] 50));have vez:=vci vf8 x _ _ _ (ve8.below hr2 zr) ⟨_,_,rfl,hxl,fe.below hE zr,eE.below hE zr⟩;have qc:=zh hA.out;clear hA fe eE;rcases hh:vf8.any (λy=>va0 y x) with _|_
      · rw[hh] at vez
        have HZ:=zh (show XR=(false,0) by rw[vdc.out,qc.out,dP hx hh];first|done|rfl);clear qc hx hh;go_wp2_with (go_at_call 98;refine vez.mono ?_;clear vez;rintro e w5 ⟨rfl,eT⟩);go_ret2;rw[HZ.out];exact⟨rfl,B6.trans (af (hr2.trans (af eT hr2.size)) B6.size)⟩
      · rw[hh] at vez
        have HZ:=zh (qc.out.trans (by rw[jZ (p:=λo=>vf8.any λy=>va0 y o) hx hh]));clear qc hx hh;go_wp2_with (go_at_call 98;refine vez.mono ?_;clear vez;rintro e w5 ⟨rfl,eT⟩);exact⟨⟨i+1,hlt,by go_num,hr2.trans (af eT hr2.size),HZ⟩,by simp only[intOf];omega⟩
   case pos=>
    obtain⟨x,hx⟩:∃x,vf7[i]? =some x:=⟨_,List.getElem?_eq_getElem hlt⟩
    obtain⟨b1,o1,av,sv,mq,_,hxl,fe,eE,uq,pG,od,pZ,rK⟩:=(vdu.below hr zr).at hx;subst mq;obtain⟨pa,ca,rfl,_⟩:=fe.shape;obtain⟨ps,cs,rfl,_⟩:=eE.shape;have hE:=(zb wr).alloc zr (.cells #[str x.name,.bool x.sig.iter,.slice pa x.sig.args.length ca,str x.sig.res,.slice ps x.sig.sigs.length cs] 79);have hr2:=hr.trans (af hE hr.size);have vei:=bz (ah veu hr2);have vej:=bz (ah vex hr2);have vf3:=bz (heap_alloc_new wr (.cells #[str x.name,.bool x.sig.iter,.slice pa x.sig.args.length ca,str x.sig.res,.slice ps x.sig.sigs.length cs] 79));have vez:=vbs vf5 x _ _ _ (BQ.below hr2 zr) ⟨_,_,rfl,hxl,fe.below hE zr,eE.below hE zr⟩;have qc:=zh hA.out;clear hA fe eE;rcases hh:vf5.any (λy=>va0 y x) with _|_
    · rw[hh] at vez
      have HZ:=zh (show XR=(false,0) by rw[vdc.out,qc.out,dP hx hh];first|done|rfl);clear qc hx hh;go_wp2_with (go_at_call 96;refine vez.mono ?_;clear vez;rintro e w5 ⟨rfl,eT⟩);go_ret2;rw[HZ.out];exact⟨rfl,B4.trans (af (hr2.trans (af eT hr2.size)) B4.size)⟩
    · rw[hh] at vez
      have HZ:=zh (qc.out.trans (by rw[jZ (p:=λn=>vf5.any λy=>va0 y n) hx hh]));clear qc hx hh;go_wp2_with (go_at_call 96;refine vez.mono ?_;clear vez;rintro e w5 ⟨rfl,eT⟩);exact⟨⟨i+1,hlt,by go_num,hr2.trans (af eT hr2.size),HZ⟩,by simp only[intOf];omega⟩
end Go.Proofs.YtakgjcfkdemipaaGreatDoor
