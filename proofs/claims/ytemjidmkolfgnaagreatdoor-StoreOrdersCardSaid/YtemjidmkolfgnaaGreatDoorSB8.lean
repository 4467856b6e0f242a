/-
  Lemmas for the statement: contract: kind.read. No condition.
-/
import Derived.Test.YtemjidmkolfgnaaGreatDoorSBn
import Derived.Test.YtemjidmkolfgnaaGreatDoorSB7
set_option maxHeartbeats 6400000
namespace Go.Proofs.YtemjidmkolfgnaaGreatDoor
open Go.RowKit
section
variable {P:Program} {ops:Array Oper} {Q:Exit→Act→World→Prop} {md:Region.Mode} {S:World→Prop}
theorem ig {i:Nat} {oi:Oper} {d:Option Nat} {v:Value} {fuel:Nat} {listed:Array Bool} {a:Act} {w:World} (hi:ops[i]? =some oi) (hd:oi.dst=d)
 (hs:Region.noSelect ops=true) (hf:Region.free md ops listed i=true) (hr:(Region.ready md ops listed).contains i=true)
 (hQ:∀c a w,Q (.panic c) (a.put d v) w→Q (.panic c) a w) (hS:S w) (hw:Region.wanted oi (yielded ops a.tmps)=true) (hy:∀w,S w→(execOp a.eval oi).run P w=.ok (.value v) w)
 (h:wpAnyH P md ops Q S fuel (listed.setIfInBounds i true) (a.put d v) w):wpAnyH P md ops Q S (fuel+1) listed a w:=by
 subst hd
 exact wpAnyH_take hi hs hf hr hQ (.inl ⟨hw,hy⟩) hS h
theorem wN {fn:Func} {t t':Array Value} {R:Ending→World→Prop} (he:results fn t=results fn t'):∀(ds:List Deferred) (u:FrameMode) (w:World),Leaves P fn t R ds u w→Leaves P fn t' R ds u w:=by
 intro ds
 induction ds with
 | nil=>
  intro u w h;cases u with
  | returning=>unfold Leaves at h ⊢;rw[←he];exact h
  | panicking=>exact h
  | run=>exact h
 | cons d ds ih=>
  intro u w h;obtain⟨h1,fv,cap,f,args,h2,h3,h4⟩:=h;refine⟨h1,fv,cap,f,args,h2,h3,h4.mono ?_⟩;intro e u' w' hp;cases e with
  | returned=>exact ih _ _ hp
  | panicked=>exact ih _ _ hp
  | outgrown=>exact hp
theorem bW {R:Ending→World→Prop} {K:Act→World→Prop} (v:Value) (d:Nat) (hd:4≤d):∀c (a:Act) w,Exit.then K (bodyPostD Tryz.prog Tryz.f225 R) (.panic c) (a.put (some d) v) w→Exit.then K (bodyPostD Tryz.prog Tryz.f225 R) (.panic c) a w:=by
 intro c a w h
 refine wN ?_ _ _ _ h
 have h2:(a.tmps.setIfInBounds d v)[2]? =a.tmps[2]? :=Array.getElem?_setIfInBounds_ne (by omega)
 have h3:(a.tmps.setIfInBounds d v)[3]? =a.tmps[3]? :=Array.getElem?_setIfInBounds_ne (by omega)
 simp[results,Tryz.results225,Act.put,Array.getD_eq_getD_getElem?,h2,h3]
end
def er (w:World) (s:List UInt8) (e:Ending) (w':World):Prop:=
 (match aI s with
  | some (t,[])=>∃v,e=.returned (.tuple #[.agg #[.int .u8 t.k,str t.n,v],.bool true])∧ff w' (λb=>w.heap.size≤b) t.sub v
  | _=>e=.returned (.tuple #[.agg #[.int .u8 0,str [],.slice none 0 0],.bool false]))∧Below w.heap.size w w'
def K6 (w:World) (s:List UInt8):World:=
 (((((w.alloc (.cells #[.int .u8 0,.string ⟨#[]⟩,.slice none 0 0] 282)).alloc (.cells #[.bool false] 4)).alloc (.cells #[.func (.func 233) #[] #[]] 312)).alloc (.cells #[str s] 317)).alloc (.cells #[.pointer (some ⟨w.heap.size+1+1+1,0,none⟩)] 313)).alloc
  (.cells #[.func (.func 234) #[] #[.pointer (some ⟨w.heap.size+1+1+1+1,0,none⟩),.pointer (some ⟨w.heap.size+1+1,0,none⟩),.pointer (some ⟨w.heap.size+1+1+1+1+1,0,none⟩)]] 318)
theorem bI {w:World} {k:Nat} {o':Obj} (o:Obj) (h:w.heap[k]? =some o'):(w.alloc o).heap[k]? =some o':=
 (((Below.refl w.heap.size w).alloc zr o).block k (Array.getElem?_eq_some_iff.1 h).1).trans h
theorem kD {w:World} {n:Nat} (hn:w.heap.size=n) (cs:Array Value) (t:TypeId):(w.alloc (.cells cs t)).heap[n]? =some (.cells cs t (0,0)):=hn▸heap_alloc_new w _
theorem gx.lt {w:World} (h:gx w):1<w.heap.size:=by
 unfold gx Lib.TabIs World.var? at h
 rw[Dv] at h
 simp only[Option.bind_some] at h
 rcases hk:w.heap[1]? with _|o
 · rw[hk] at h;simp at h
 · exact(Array.getElem?_eq_some_iff.1 hk).1
structure Oj (w:World) (s:List UInt8) (W:World):Prop where
 env:Env W (w.heap.size+1+1+1+1) (w.heap.size+1+1) (w.heap.size+1+1+1+1+1) (w.heap.size+1+1+1)
 rest:Rest W (w.heap.size+1+1+1) s
 tab:gx W
 cV:Below w.heap.size w W
 res:W.heap[w.heap.size]? =some (.cells #[.int .u8 0,.string ⟨#[]⟩,.slice none 0 0] 282 (0,0))
 ok:W.heap[w.heap.size+1]? =some (.cells #[.bool false] 4 (0,0))
 size:W.heap.size=w.heap.size+1+1+1+1+1+1
theorem k6 (w:World) (s:List UInt8) (ht:gx w):Oj w s (K6 w s):=by
 have hl:=ht.lt
 have hb:Below w.heap.size w (K6 w s):=by
  unfold K6;exact((((((zb w).alloc zr _).alloc (by simp) _).alloc (by simp;omega) _).alloc (by simp;omega) _).alloc (by simp;omega) _).alloc (by simp;omega) _
 have hsz:(K6 w s).heap.size=w.heap.size+1+1+1+1+1+1:=by simp[K6]
 have htab:=ht.kept (b:=w.heap.size) (Kept.ai hb zr) (by omega)
 have e1:=kD (w:=w) rfl #[.int .u8 0,.string ⟨#[]⟩,.slice none 0 0] 282
 unfold K6 at hb hsz htab ⊢
 generalize w.alloc (.cells #[.int .u8 0,.string ⟨#[]⟩,.slice none 0 0] 282)=w1 at *
 have z1:w1.heap.size=w.heap.size+1:=by simp at hsz;omega
 have e2:=kD z1 #[.bool false] 4
 replace e1:=bI (.cells #[.bool false] 4) e1
 generalize w1.alloc (.cells #[.bool false] 4)=w2 at *
 have z2:w2.heap.size=w.heap.size+1+1:=by simp at hsz;omega
 have e3:=kD z2 #[.func (.func 233) #[] #[]] 312
 replace e1:=bI (.cells #[.func (.func 233) #[] #[]] 312) e1
 replace e2:=bI (.cells #[.func (.func 233) #[] #[]] 312) e2
 generalize w2.alloc (.cells #[.func (.func 233) #[] #[]] 312)=w3 at *
 have z3:w3.heap.size=w.heap.size+1+1+1:=by simp at hsz;omega
 have e4:=kD z3 #[str s] 317
 replace e1:=bI (.cells #[str s] 317) e1
 replace e2:=bI (.cells #[str s] 317) e2
 replace e3:=bI (.cells #[str s] 317) e3
 generalize w3.alloc (.cells #[str s] 317)=w4 at *
 have z4:w4.heap.size=w.heap.size+1+1+1+1:=by simp at hsz;omega
 have e5:=kD z4 #[.pointer (some ⟨w.heap.size+1+1+1,0,none⟩)] 313
 replace e1:=bI (.cells #[.pointer (some ⟨w.heap.size+1+1+1,0,none⟩)] 313) e1
 replace e2:=bI (.cells #[.pointer (some ⟨w.heap.size+1+1+1,0,none⟩)] 313) e2
 replace e3:=bI (.cells #[.pointer (some ⟨w.heap.size+1+1+1,0,none⟩)] 313) e3
 replace e4:=bI (.cells #[.pointer (some ⟨w.heap.size+1+1+1,0,none⟩)] 313) e4
 generalize w4.alloc (.cells #[.pointer (some ⟨w.heap.size+1+1+1,0,none⟩)] 313)=w5 at *
 have z5:w5.heap.size=w.heap.size+1+1+1+1+1:=by simp at hsz;omega
 have e6:=kD z5 #[.func (.func 234) #[] #[.pointer (some ⟨w.heap.size+1+1+1+1,0,none⟩),.pointer (some ⟨w.heap.size+1+1,0,none⟩),.pointer (some ⟨w.heap.size+1+1+1+1+1,0,none⟩)]] 318
 replace e1:=bI (.cells #[.func (.func 234) #[] #[.pointer (some ⟨w.heap.size+1+1+1+1,0,none⟩),.pointer (some ⟨w.heap.size+1+1,0,none⟩),.pointer (some ⟨w.heap.size+1+1+1+1+1,0,none⟩)]] 318) e1
 replace e2:=bI (.cells #[.func (.func 234) #[] #[.pointer (some ⟨w.heap.size+1+1+1+1,0,none⟩),.pointer (some ⟨w.heap.size+1+1,0,none⟩),.pointer (some ⟨w.heap.size+1+1+1+1+1,0,none⟩)]] 318) e2
 replace e3:=bI (.cells #[.func (.func 234) #[] #[.pointer (some ⟨w.heap.size+1+1+1+1,0,none⟩),.pointer (some ⟨w.heap.size+1+1,0,none⟩),.pointer (some ⟨w.heap.size+1+1+1+1+1,0,none⟩)]] 318) e3
 replace e4:=bI (.cells #[.func (.func 234) #[] #[.pointer (some ⟨w.heap.size+1+1+1+1,0,none⟩),.pointer (some ⟨w.heap.size+1+1,0,none⟩),.pointer (some ⟨w.heap.size+1+1+1+1+1,0,none⟩)]] 318) e4
 replace e5:=bI (.cells #[.func (.func 234) #[] #[.pointer (some ⟨w.heap.size+1+1+1+1,0,none⟩),.pointer (some ⟨w.heap.size+1+1,0,none⟩),.pointer (some ⟨w.heap.size+1+1+1+1+1,0,none⟩)]] 318) e5
 exact⟨⟨(af e5 0).trans rfl,(af e3 0).trans rfl,(af e6 0).trans rfl,by omega,by omega,by omega,by omega⟩,⟨(af e4 0).trans rfl,au e4 0⟩,htab,hb,e1,e2,hsz⟩
theorem n9 {w1:World} {pb qb:Nat} {x0 x1 x2 y:Value} {tq:TypeId} (h1:w1.heap[pb]? =some (.cells #[x0,x1,x2] 282 (0,0))) (h2:w1.heap[qb]? =some (.cells #[y] tq (0,0))) (hne:pb≠qb) (o:Obj):
 (((((w1.setCell ⟨pb,0,none⟩ (.int .u8 0)).setCell ⟨pb,1,none⟩ (str [])).setCell ⟨pb,2,none⟩ (.slice none 0 0)).setCell ⟨qb,0,none⟩ (.bool false)).alloc o).heap[pb]? =some (.cells #[.int .u8 0,str [],.slice none 0 0] 282 (0,0))∧
 (((((w1.setCell ⟨pb,0,none⟩ (.int .u8 0)).setCell ⟨pb,1,none⟩ (str [])).setCell ⟨pb,2,none⟩ (.slice none 0 0)).setCell ⟨qb,0,none⟩ (.bool false)).alloc o).heap[qb]? =some (.cells #[.bool false] tq (0,0)):=by
 have a1:=cC (cC (cC h1 0 (.int .u8 0)) 1 (str [])) 2 (.slice none 0 0)
 have b1:(((w1.setCell ⟨pb,0,none⟩ (.int .u8 0)).setCell ⟨pb,1,none⟩ (str [])).setCell ⟨pb,2,none⟩ (.slice none 0 0)).heap[qb]? =some (.cells #[y] tq (0,0)):=by
  rw[Below.heap_setCell _ _ _ _ (Ne.symm hne),Below.heap_setCell _ _ _ _ (Ne.symm hne),Below.heap_setCell _ _ _ _ (Ne.symm hne)];exact h2
 refine⟨bI o ?_,bI o (cC b1 0 (.bool false))⟩
 rw[Below.heap_setCell _ _ _ _ hne]
 exact a1
theorem BQ {w1:World} {pb qb:Nat} {x0 x1 x2 y:Value} {tq:TypeId} (h1:w1.heap[pb]? =some (.cells #[x0,x1,x2] 282 (0,0))) (h2:w1.heap[qb]? =some (.cells #[y] tq (0,0))) (hne:pb≠qb) (a b c d:Value):
 ((((w1.setCell ⟨pb,0,none⟩ a).setCell ⟨pb,1,none⟩ b).setCell ⟨pb,2,none⟩ c).setCell ⟨qb,0,none⟩ d).heap[pb]? =some (.cells #[a,b,c] 282 (0,0))∧
 ((((w1.setCell ⟨pb,0,none⟩ a).setCell ⟨pb,1,none⟩ b).setCell ⟨pb,2,none⟩ c).setCell ⟨qb,0,none⟩ d).heap[qb]? =some (.cells #[d] tq (0,0)):=by
 have a1:=cC (cC (cC h1 0 a) 1 b) 2 c
 have b1:(((w1.setCell ⟨pb,0,none⟩ a).setCell ⟨pb,1,none⟩ b).setCell ⟨pb,2,none⟩ c).heap[qb]? =some (.cells #[y] tq (0,0)):=by
  rw[Below.heap_setCell _ _ _ _ (Ne.symm hne),Below.heap_setCell _ _ _ _ (Ne.symm hne),Below.heap_setCell _ _ _ _ (Ne.symm hne)];exact h2
 refine⟨?_,cC b1 0 d⟩
 rw[Below.heap_setCell _ _ _ _ hne]
 exact a1
theorem nZ {B:Nat} {w w1:World} (h:Below B w w1) {pb qb:Nat} (hp:B≤pb) (hq:B≤qb) (hB:B≤w1.heap.size) (o:Obj):
 Below B w (((((w1.setCell ⟨pb,0,none⟩ (.int .u8 0)).setCell ⟨pb,1,none⟩ (str [])).setCell ⟨pb,2,none⟩ (.slice none 0 0)).setCell ⟨qb,0,none⟩ (.bool false)).alloc o):=
 ((((h.setCell (p:=⟨pb,0,none⟩) hp _).setCell (p:=⟨pb,1,none⟩) hp _).setCell (p:=⟨pb,2,none⟩) hp _).setCell (p:=⟨qb,0,none⟩) hq _).alloc (by simpa[World.setCell] using hB) _
theorem Kept.toBelow {B rb:Nat} {w w':World} (h:Kept rb w w') (hr:B≤rb) (hB:B≤w.heap.size):Below B w w':=
 (Below.refl B w).grown h hB (by intro b e;injection e with e;omega)
set_option maxRecDepth 4000 in
theorem yR (s:List UInt8) (hN:ei s) (w:World) (ht:gx w) (hq:aI s=none):Calls Tryz.prog 225 #[str s] w (er w s):=by
 have Kz:∀(fn:Fn) (first cap:Array Value) (w:World),(Instr.makeFunc fn first cap).run Tryz.prog w=.ok (.func fn first cap) w:=λ_ _ _ _=>rfl
 have HQ:=zh hq
 clear hq
 go_enter_defers Tryz.func225,Tryz.ntmps225
 go_wp2_with fail
 have F:=k6 w s ht
 unfold K6 at F
 refine(hN (w.heap.size+1+1+1+1) (w.heap.size+1+1) (w.heap.size+1+1+1+1+1) (w.heap.size+1+1+1) _ F.tab F.env F.rest).mono ?_
 intro e w1 hpost
 unfold aD at hpost
 rw[HQ.out] at hpost
 obtain⟨rfl,hk⟩:=hpost
 have h1:=hk.heap F.res (by omega)
 have h2:=hk.heap F.ok (by omega)
 have hb:=F.cV
 have hsz:=F.size
 clear F
 generalize World.alloc _ _=W at *
 refine leaves_cons (f:=232) (args:= #[.pointer (some ⟨w.heap.size,0,none⟩),.pointer (some ⟨w.heap.size+1,0,none⟩)]) (by simp) (by simp[go_sem]) ?_
 refine(pL w.heap.size (w.heap.size+1) _ _ _ _ _ [] _ h1 h2 (by omega)).mono ?_
 rintro e u' w'' ⟨rfl,rfl,rfl⟩
 obtain⟨q1,q2⟩:=n9 h1 h2 (by omega) (.cells #[] 310)
 have hB:=nZ (hb.trans (hk.toBelow (B:=w.heap.size) (by omega) (by omega))) (pb:=w.heap.size) (qb:=w.heap.size+1) zr (by omega) (by have:=hk.size;omega) (.cells #[] 310)
 generalize World.alloc _ _=WF at *
 have c0:=(af q1 0).trans rfl
 have c1:=(af q1 1).trans rfl
 have c2:=(af q1 2).trans rfl
 have d0:=(af q2 0).trans rfl
 simp[Leaves,settle,results,Tryz.results225,go_sem,c0,c1,c2,d0]
 unfold er
 rw[HQ.out]
 exact⟨rfl,hB⟩
set_option maxRecDepth 4000 in
theorem yS (s r:List UInt8) (t:Tr) (hN:ei s) (w:World) (ht:gx w) (hq:aI s=some (t,r)):Calls Tryz.prog 225 #[str s] w (er w s):=by
 have Kz:∀(fn:Fn) (first cap:Array Value) (w:World),(Instr.makeFunc fn first cap).run Tryz.prog w=.ok (.func fn first cap) w:=λ_ _ _ _=>rfl
 have HQ:=zh hq
 clear hq
 go_enter_defers Tryz.func225,Tryz.ntmps225
 go_wp2_with fail
 have F:=k6 w s ht
 unfold K6 at F
 refine(hN (w.heap.size+1+1+1+1) (w.heap.size+1+1) (w.heap.size+1+1+1+1+1) (w.heap.size+1+1+1) _ F.tab F.env F.rest).mono ?_
 intro e w1 hpost
 unfold aD at hpost
 rw[HQ.out] at hpost
 obtain⟨⟨v,rfl,hv⟩,hr,hk⟩:=hpost
 have h1:=hk.heap F.res (by omega)
 have h2:=hk.heap F.ok (by omega)
 have hb:=F.cV
 have hsz:=F.size
 have he:=F.env.kept hk
 clear F
 generalize World.alloc _ _=W at *
 obtain⟨pt,ct,rfl,_⟩:=hv.shape
 have c0:=(af h1 0).trans rfl
 have c1:=(af h1 1).trans rfl
 have c2:=(af h1 2).trans rfl
 have f0:=au h1 0
 have f1:=au h1 1
 have f2:=au h1 2
 go_wp2_with fail
 have JG:=hk.size
 have hB:=(((hb.trans (hk.toBelow (B:=w.heap.size) (by omega) (by omega))).setCell (p:=⟨w.heap.size,0,none⟩) zr (.int .u8 t.k)).setCell (p:=⟨w.heap.size,1,none⟩) zr (str t.n)).setCell (p:=⟨w.heap.size,2,none⟩) zr (.slice pt t.sub.len ct)
 have dL:∀b,b≠w.heap.size→(((w1.setCell ⟨w.heap.size,0,none⟩ (.int .u8 t.k)).setCell ⟨w.heap.size,1,none⟩ (str t.n)).setCell ⟨w.heap.size,2,none⟩ (.slice pt t.sub.len ct)).heap[b]? =w1.heap[b]? :=λb hb=>by rw[Below.heap_setCell _ _ _ _ hb,Below.heap_setCell _ _ _ _ hb,Below.heap_setCell _ _ _ _ hb]
 have Ny:(((w1.setCell ⟨w.heap.size,0,none⟩ (.int .u8 t.k)).setCell ⟨w.heap.size,1,none⟩ (str t.n)).setCell ⟨w.heap.size,2,none⟩ (.slice pt t.sub.len ct)).heap[w.heap.size]? =some (.cells #[.int .u8 t.k,str t.n,.slice pt t.sub.len ct] 282 (0,0)):=cC (cC (cC h1 0 (.int .u8 t.k)) 1 (str t.n)) 2 (.slice pt t.sub.len ct)
 have NA:=(dL (w.heap.size+1) (by omega)).trans h2
 have hk2:Kept w.heap.size w1 (((w1.setCell ⟨w.heap.size,0,none⟩ (.int .u8 t.k)).setCell ⟨w.heap.size,1,none⟩ (str t.n)).setCell ⟨w.heap.size,2,none⟩ (.slice pt t.sub.len ct)):=((Kept.setCell _ _ _ _).trans (Kept.setCell _ _ _ _)).trans (Kept.setCell _ _ _ _)
 have KH:=hv.kept (w':=((w1.setCell ⟨w.heap.size,0,none⟩ (.int .u8 t.k)).setCell ⟨w.heap.size,1,none⟩ (str t.n)).setCell ⟨w.heap.size,2,none⟩ (.slice pt t.sub.len ct)) λb hb _=>dL b (by have hb:W.heap.size≤b:=hb;omega)
 replace hr:=((hr.dG (B:=w.heap.size) (by omega) 0 (.int .u8 t.k)).dG (B:=w.heap.size) (by omega) 1 (str t.n)).dG (B:=w.heap.size) (by omega) 2 (.slice pt t.sub.len ct)
 have PO:∀{a:Addr} {u:Value},w1.cell? a=some u→a.block≠w.heap.size→(((w1.setCell ⟨w.heap.size,0,none⟩ (.int .u8 t.k)).setCell ⟨w.heap.size,1,none⟩ (str t.n)).setCell ⟨w.heap.size,2,none⟩ (.slice pt t.sub.len ct)).cell? a=some u:=λh hne=>hk2.cell h hne
 have Bj:=PO he.need (by simp;omega)
 have Mj:=PO he.r (by simp;omega)
 have Ww:=hk2.size
 clear PO hk2 dL c0 c1 c2 f0 f1 f2 h1 h2 hv he hk hb
 generalize ((w1.setCell ⟨w.heap.size,0,none⟩ (.int .u8 t.k)).setCell ⟨w.heap.size,1,none⟩ (str t.n)).setCell ⟨w.heap.size,2,none⟩ (.slice pt t.sub.len ct)=WS at *
 rcases r with _|⟨c,r'⟩
 · refine wp_region_held_drew (S:=(λW:World=>W.cell? ⟨w.heap.size+1+1,0,none⟩=some (.func (.func 233) #[] #[])∧W.cell? ⟨w.heap.size+1+1+1+1,0,none⟩=some (.pointer (some ⟨w.heap.size+1+1+1,0,none⟩))∧W.cell? ⟨w.heap.size+1+1+1,0,none⟩=some (str []))) (by kernel_rfl) ?_ (λdA=>?_)
   · exact⟨Bj,Mj,hr.cell⟩
   refine ig (i:=0) (d:=some 15) (v:=?_) rfl (by kernel_rfl) (by kernel_rfl) (by kernel_rfl) (by kernel_rfl) (bW _ _ (by decide)) (by assumption) (by kernel_rfl) ?_ ?_;rotate_left
   · intro w aF
     try dsimp only at aF
     go_simp;try with_reducible rfl
   try simp only[pz,pw]
   refine ig (i:=1) (d:=some 16) (v:=?_) rfl (by kernel_rfl) (by kernel_rfl) (by kernel_rfl) (by kernel_rfl) (bW _ _ (by decide)) (by assumption) (by kernel_rfl) ?_ ?_;rotate_left
   · intro w aF
     try dsimp only at aF
     go_simp;try with_reducible rfl
   try simp only[pz,pw]
   refine ig (i:=2) (d:=some 17) (v:=?_) rfl (by kernel_rfl) (by kernel_rfl) (by kernel_rfl) (by kernel_rfl) (bW _ _ (by decide)) (by assumption) (by kernel_rfl) ?_ ?_;rotate_left
   · intro w aF
     try dsimp only at aF
     go_simp;try with_reducible rfl
   try simp only[pz,pw]
   refine ig (i:=3) (d:=some 18) (v:=?_) rfl (by kernel_rfl) (by kernel_rfl) (by kernel_rfl) (by kernel_rfl) (bW _ _ (by decide)) (by assumption) (by kernel_rfl) ?_ ?_;rotate_left
   · intro w aF
     try dsimp only at aF
     go_simp;try with_reducible rfl
   try simp only[pz,pw]
   refine ig (i:=4) (d:=some 19) (v:=?_) rfl (by kernel_rfl) (by kernel_rfl) (by kernel_rfl) (by kernel_rfl) (bW _ _ (by decide)) (by assumption) (by kernel_rfl) ?_ ?_;rotate_left
   · intro w aF
     try dsimp only at aF
     go_simp;try with_reducible rfl
   try simp only[pz,pw]
   refine ig (i:=5) (d:=some 20) (v:=?_) rfl (by kernel_rfl) (by kernel_rfl) (by kernel_rfl) (by kernel_rfl) (bW _ _ (by decide)) (by assumption) (by kernel_rfl) ?_ ?_;rotate_left
   · intro w aF
     try dsimp only at aF
     go_simp;try with_reducible rfl
   try simp only[pz,pw]
   refine ig (i:=6) (d:=some 21) (v:=?_) rfl (by kernel_rfl) (by kernel_rfl) (by kernel_rfl) (by kernel_rfl) (bW _ _ (by decide)) (by assumption) (by kernel_rfl) ?_ ?_;rotate_left
   · intro w aF
     try dsimp only at aF
     go_simp;try with_reducible rfl
   try simp only[pz,pw]
   refine wpAnyH_ready (rs:=[7]) (by kernel_rfl) (by simp) ?_;refine AllReadyH.cons rfl (λK hK=>?_) AllReadyH.nil;go_simp;go_wp2_with (go_at_call 233;refine(cZ _).mono ?_;rintro e w0 ⟨rfl,rfl⟩);refine hK.out _ _ ?_ (λdA=>?_)
   · exact⟨Bj,Mj,hr.cell⟩
   clear hK K;try simp only[pz,pw]
   refine wpAnyH_done (by kernel_rfl) ?_ _;have Fj:WS.drew.heap[w.heap.size]? =some (.cells #[.int .u8 t.k,str t.n,.slice pt t.sub.len ct] 282 (0,0)):=Ny;have Kb:WS.drew.heap[w.heap.size+1]? =some (.cells #[.bool false] 4 (0,0)):=NA;have ND:Below w.heap.size w WS.drew:=⟨hB.os,hB.tape,hB.output,hB.size,hB.block⟩;have U4:=KH.kept (w:=WS) (w':=WS.drew) (λ_ _ _=>rfl);clear dA Ny NA hB KH Bj Mj hr;generalize WS.drew=WD at *;have c0:=(af Fj 0).trans rfl;have c1:=(af Fj 1).trans rfl;have c2:=(af Fj 2).trans rfl;have d0:=(af Kb 0).trans rfl;have f0:=au Fj 0;have f1:=au Fj 1;have f2:=au Fj 2;have g0:=au Kb 0;go_wp2_with fail;refine leaves_cons (f:=232) (args:= #[.pointer (some ⟨w.heap.size,0,none⟩),.pointer (some ⟨w.heap.size+1,0,none⟩)]) (by simp) (by simp[go_sem]) ?_;refine(ya w.heap.size (w.heap.size+1) _).mono ?_;rintro e u' w'' ⟨rfl,rfl,rfl⟩;obtain⟨q1,q2⟩:=BQ Fj Kb (by omega) (.int .u8 t.k) (.string ⟨t.n.toArray⟩) (.slice pt t.sub.len ct) (.bool true);have hB:=(((ND.setCell (p:=⟨w.heap.size,0,none⟩) zr (.int .u8 t.k)).setCell (p:=⟨w.heap.size,1,none⟩) zr (.string ⟨t.n.toArray⟩)).setCell (p:=⟨w.heap.size,2,none⟩) zr (.slice pt t.sub.len ct)).setCell (p:=⟨w.heap.size+1,0,none⟩) (Nat.le_succ _) (.bool true);have U6:=U4.kept (w':=(((WD.setCell ⟨w.heap.size,0,none⟩ (.int .u8 t.k)).setCell ⟨w.heap.size,1,none⟩ (.string ⟨t.n.toArray⟩)).setCell ⟨w.heap.size,2,none⟩ (.slice pt t.sub.len ct)).setCell ⟨w.heap.size+1,0,none⟩ (.bool true)) λb hb _=>by
    have hb:W.heap.size≤b:=hb;rw[Below.heap_setCell _ _ _ _ (by simp;omega),Below.heap_setCell _ _ _ _ (by simp;omega),Below.heap_setCell _ _ _ _ (by simp;omega),Below.heap_setCell _ _ _ _ (by simp;omega)]
   clear c0 c1 c2 d0 f0 f1 f2 g0;generalize World.setCell _ _ _=WF at *;have c0:=(af q1 0).trans rfl;have c1:=(af q1 1).trans rfl;have c2:=(af q1 2).trans rfl;have d0:=(af q2 0).trans rfl;simp[Leaves,settle,results,Tryz.results225,go_sem,c0,c1,c2,d0];unfold er;rw[HQ.out];exact⟨⟨_,rfl,U6.mono λb hb _=>by have hb:W.heap.size≤b:=hb;show w.heap.size≤b;omega⟩,hB⟩
 · refine wp_region_held_drew (S:=(λW:World=>W.cell? ⟨w.heap.size+1+1,0,none⟩=some (.func (.func 233) #[] #[])∧W.cell? ⟨w.heap.size+1+1+1+1,0,none⟩=some (.pointer (some ⟨w.heap.size+1+1+1,0,none⟩))∧W.cell? ⟨w.heap.size+1+1+1,0,none⟩=some (str (c::r')))) (by kernel_rfl) ?_ (λdA=>?_)
   · exact⟨Bj,Mj,hr.cell⟩
   refine ig (i:=0) (d:=some 15) (v:=?_) rfl (by kernel_rfl) (by kernel_rfl) (by kernel_rfl) (by kernel_rfl) (bW _ _ (by decide)) (by assumption) (by kernel_rfl) ?_ ?_;rotate_left
   · intro w aF
     try dsimp only at aF
     go_simp;try with_reducible rfl
   try simp only[pz,pw]
   refine ig (i:=1) (d:=some 16) (v:=?_) rfl (by kernel_rfl) (by kernel_rfl) (by kernel_rfl) (by kernel_rfl) (bW _ _ (by decide)) (by assumption) (by kernel_rfl) ?_ ?_;rotate_left
   · intro w aF
     try dsimp only at aF
     go_simp;try with_reducible rfl
   try simp only[pz,pw]
   refine ig (i:=2) (d:=some 17) (v:=?_) rfl (by kernel_rfl) (by kernel_rfl) (by kernel_rfl) (by kernel_rfl) (bW _ _ (by decide)) (by assumption) (by kernel_rfl) ?_ ?_;rotate_left
   · intro w aF
     try dsimp only at aF
     go_simp;try with_reducible rfl
   try simp only[pz,pw]
   refine ig (i:=3) (d:=some 18) (v:=?_) rfl (by kernel_rfl) (by kernel_rfl) (by kernel_rfl) (by kernel_rfl) (bW _ _ (by decide)) (by assumption) (by kernel_rfl) ?_ ?_;rotate_left
   · intro w aF
     try dsimp only at aF
     go_simp;try with_reducible rfl
   try simp only[pz,pw]
   refine ig (i:=4) (d:=some 19) (v:=?_) rfl (by kernel_rfl) (by kernel_rfl) (by kernel_rfl) (by kernel_rfl) (bW _ _ (by decide)) (by assumption) (by kernel_rfl) ?_ ?_;rotate_left
   · intro w aF
     try dsimp only at aF
     go_simp;try with_reducible rfl
   try simp only[pz,pw]
   refine ig (i:=5) (d:=some 20) (v:=?_) rfl (by kernel_rfl) (by kernel_rfl) (by kernel_rfl) (by kernel_rfl) (bW _ _ (by decide)) (by assumption) (by kernel_rfl) ?_ ?_;rotate_left
   · intro w aF
     try dsimp only at aF
     go_simp;try with_reducible rfl
   try simp only[pz,pw]
   refine ig (i:=6) (d:=some 21) (v:=?_) rfl (by kernel_rfl) (by kernel_rfl) (by kernel_rfl) (by kernel_rfl) (bW _ _ (by decide)) (by assumption) (by kernel_rfl) ?_ ?_;rotate_left
   · intro w aF
     try dsimp only at aF
     go_simp;try with_reducible rfl
   try simp only[pz,pw]
   refine wpAnyH_ready (rs:=[7]) (by kernel_rfl) (by simp) ?_;refine AllReadyH.cons rfl (λK hK=>?_) AllReadyH.nil;go_simp;go_wp2_with (go_at_call 233;refine(dY _).mono ?_;rintro e w0 ⟨rfl,rfl⟩);have Fj:WS.drew.heap[w.heap.size]? =some (.cells #[.int .u8 t.k,str t.n,.slice pt t.sub.len ct] 282 (0,0)):=Ny;have Kb:WS.drew.heap[w.heap.size+1]? =some (.cells #[.bool false] 4 (0,0)):=NA;have ND:Below w.heap.size w WS.drew:=⟨hB.os,hB.tape,hB.output,hB.size,hB.block⟩;clear dA hK Ny NA hB KH Bj Mj hr;generalize WS.drew=WD at *;refine leaves_cons (f:=232) (args:= #[.pointer (some ⟨w.heap.size,0,none⟩),.pointer (some ⟨w.heap.size+1,0,none⟩)]) (by simp) (by simp[go_sem]) ?_;refine(pL w.heap.size (w.heap.size+1) _ _ _ _ _ [] _ Fj Kb (by omega)).mono ?_;rintro e u' w'' ⟨rfl,rfl,rfl⟩;obtain⟨q1,q2⟩:=n9 Fj Kb (by omega) (.cells #[] 310);have hB:=nZ ND (pb:=w.heap.size) (qb:=w.heap.size+1) zr (by omega) ND.size (.cells #[] 310);generalize World.alloc _ _=WF at *;have c0:=(af q1 0).trans rfl;have c1:=(af q1 1).trans rfl;have c2:=(af q1 2).trans rfl;have d0:=(af q2 0).trans rfl;simp[Leaves,settle,results,Tryz.results225,go_sem,c0,c1,c2,d0];unfold er;rw[HQ.out];exact⟨rfl,hB⟩
theorem sJ (s:List UInt8) (hm:s.length≤1000) (w:World) (ht:gx w):Calls Tryz.prog 225 #[str s] w (er w s):=by
 rcases hq:aI s with _|⟨t,r⟩
 · exact yR s (Aq s hm) w ht hq
 · exact yS s r t (Aq s hm) w ht hq
def bH (s:List UInt8):Nat×Tr:=
 if 100<s.length then(2,⟨0,[],.nil⟩) else
 match aI s with
 | some (t,[])=>if 6<t.level then(2,⟨0,[],.nil⟩) else(0,t)
 | _=>(4,⟨0,[],.nil⟩)
def cU (w:World) (s:List UInt8) (e:Ending) (w':World):Prop:=
 ∃v,e=.returned (.tuple #[.agg #[.int .u8 (bH s).2.k,str (bH s).2.n,v],.int .i64 (bH s).1])∧ff w' (λb=>w.heap.size≤b) (bH s).2.sub v∧Below w.heap.size w w'
set_option maxRecDepth 4000 in
theorem rI (s:List UInt8) (_hm:s.length≤maxLen) (w:World) (hl:100<s.length):Calls Tryz.prog 219 #[str s] w (cU w s):=by
 have HE:=zh (show bH s=(2,⟨0,[],.nil⟩) by unfold bH;rw[if_pos hl])
 go_enter Tryz.func219,Tryz.ntmps219
 go_wp2_with fail
 refine bodyPost_ret (v:=.tuple #[.agg #[.int .u8 0,str [],.slice none 0 0],.int .i64 2]) (by simp[results,Tryz.results219,go_sem]) rfl ?_
 unfold cU
 rw[HE.out]
 exact⟨_,rfl,ff.nil _ _,(zb _).alloc zr _⟩
set_option maxRecDepth 4000 in
theorem mF (s:List UInt8) (w:World) (ht:gx w) (hl:¬100<s.length) (hq:∀t,aI s≠some (t,[])):Calls Tryz.prog 219 #[str s] w (cU w s):=by
 have HE:=zh (show bH s=(4,⟨0,[],.nil⟩) by
  unfold bH;rw[if_neg hl];rcases h:aI s with _|⟨t,_|⟨c,r⟩⟩
  · rfl
  · exact absurd h (hq t)
  · rfl)
 have HR:=zh (show ∀W e w',er W s e w'→e=.returned (.tuple #[.agg #[.int .u8 0,str [],.slice none 0 0],.bool false])∧Below W.heap.size W w' by
  intro W e w' h;unfold er at h;rcases hp:aI s with _|⟨t,_|⟨c,r⟩⟩
  · rw[hp] at h;exact h
  · exact absurd hp (hq t)
  · rw[hp] at h;exact h)
 have mD:=(Below.refl w.heap.size w).alloc zr (.cells #[.int .u8 0,.string ⟨#[]⟩,.slice none 0 0] 282)
 clear hq
 go_enter Tryz.func219,Tryz.ntmps219
 go_wp2_with (go_at_call 225;refine(sJ s (by omega) _ (ht.kept (b:=w.heap.size) (Kept.ai mD zr) (by have:=ht.lt;omega))).mono ?_;intro e w1 hp;obtain⟨rfl,aP⟩:=HR.out _ _ _ hp;clear hp;have r1:=λo=>bI o ((aP.block w.heap.size (by simp)).trans (heap_alloc_new w (.cells #[.int .u8 0,.string ⟨#[]⟩,.slice none 0 0] 282)));have c0:=λo=>(af (r1 o) 0).trans rfl;have c1:=λo=>(af (r1 o) 1).trans rfl;have c2:=λo=>(af (r1 o) 2).trans rfl;have f0:=λo=>au (r1 o) 0;have f1:=λo=>au (r1 o) 1;have f2:=λo=>au (r1 o) 2;clear r1)
 refine bodyPost_ret (v:=.tuple #[.agg #[.int .u8 0,str [],.slice none 0 0],.int .i64 4]) (by simp[results,Tryz.results219,go_sem,c0,c1,c2]) rfl ?_
 unfold cU
 rw[HE.out]
 have bO:=(mD.trans (aa aP (by simp))).alloc (by have:=aP.size;simp at this;omega) (.cells #[.int .u8 0,.string ⟨#[]⟩,.slice none 0 0] 282)
 exact⟨_,rfl,ff.nil _ _,((bO.setCell (p:=⟨w.heap.size,0,none⟩) zr _).setCell (p:=⟨w.heap.size,1,none⟩) zr _).setCell (p:=⟨w.heap.size,2,none⟩) zr _⟩
set_option maxRecDepth 4000 in
theorem rJ (s:List UInt8) (t:Tr) (w:World) (ht:gx w) (hl:¬100<s.length) (hq:aI s=some (t,[])):Calls Tryz.prog 219 #[str s] w (cU w s):=by
 have HE:=zh (show bH s=if 6<t.level then(2,⟨0,[],.nil⟩) else(0,t) by unfold bH;rw[if_neg hl,hq])
 have HR:=zh (show ∀W e w',er W s e w'→(∃v,e=.returned (.tuple #[.agg #[.int .u8 t.k,str t.n,v],.bool true])∧ff w' (λb=>W.heap.size≤b) t.sub v)∧Below W.heap.size W w' by
  intro W e w' h;unfold er at h;rw[hq] at h;exact h)
 have PZ:t.sub.level≤100:=by
  have h:=Dt (s.length+1) none s (.one t) [] (by rw[iN (by omega),hq];rfl);simp[Fo.one,Fo.level] at h;omega
 have mD:=(Below.refl w.heap.size w).alloc zr (.cells #[.int .u8 0,.string ⟨#[]⟩,.slice none 0 0] 282)
 clear hq
 by_cases h6:6<t.level
 all_goals have V6:((6:Int)<(t.sub.level:Int)+1)=(6<t.level):=by unfold Tr.level;apply propext;omega
 all_goals go_enter Tryz.func219,Tryz.ntmps219
 all_goals go_wp2_with (first|(go_at_call 225;refine(sJ s (by omega) _ (ht.kept (b:=w.heap.size) (Kept.ai mD zr) (by have:=ht.lt;omega))).mono ?_;intro e w1 hp;obtain⟨⟨v,rfl,hv⟩,aP⟩:=HR.out _ _ _ hp;clear hp;obtain⟨pt,ct,rfl,_⟩:=hv.shape;have r1:=λo=>bI o ((aP.block w.heap.size (by simp)).trans (heap_alloc_new w (.cells #[.int .u8 0,.string ⟨#[]⟩,.slice none 0 0] 282))))|(go_at_call 226;refine(BB 100 t.sub PZ (by omega) _ _ _ t.k t.n (hv.below ((zb w1).alloc zr _) zr)).mono ?_;rintro e w2 ⟨rfl,bO⟩;have r2:=(bO.block w.heap.size (by have:=aP.size;simp at this ⊢;omega)).trans (r1 _);have c0:=(af r2 0).trans rfl;have c1:=(af r2 1).trans rfl;have c2:=(af r2 2).trans rfl;have f0:=au r2 0;have f1:=au r2 1;have f2:=au r2 2;have r4:=(bO.block w1.heap.size (by simp)).trans (heap_alloc_new w1 _);have d0:=(af r4 0).trans rfl;have d1:=(af r4 1).trans rfl;have d2:=(af r4 2).trans rfl;clear r1 r2 r4))
 all_goals have hs1:=aP.size
 all_goals simp only[World.size_alloc] at hs1
 all_goals have cK:=((mD.trans (aa aP (by simp))).alloc (by omega) (.cells #[.int .u8 t.k,.string ⟨t.n.toArray⟩,.slice pt t.sub.len ct] 282)).trans (aa bO (by simp;omega))
 · refine bodyPost_ret (v:=.tuple #[.agg #[.int .u8 0,str [],.slice none 0 0],.int .i64 2]) (by simp[results,Tryz.results219,go_sem,c0,c1,c2]) rfl ?_
   unfold cU;rw[HE.out,if_pos h6];exact⟨_,rfl,ff.nil _ _,((cK.setCell (p:=⟨w.heap.size,0,none⟩) zr _).setCell (p:=⟨w.heap.size,1,none⟩) zr _).setCell (p:=⟨w.heap.size,2,none⟩) zr _⟩
 · refine bodyPost_ret (v:=.tuple #[.agg #[.int .u8 t.k,str t.n,.slice pt t.sub.len ct],.int .i64 0]) (by simp[results,Tryz.results219,go_sem,c0,c1,c2]) rfl ?_
   unfold cU;rw[HE.out,if_neg h6];refine⟨_,rfl,?_,((cK.setCell (p:=⟨w.heap.size,0,none⟩) zr _).setCell (p:=⟨w.heap.size,1,none⟩) zr _).setCell (p:=⟨w.heap.size,2,none⟩) zr _⟩;have Bp:=(hv.below (B:=w1.heap.size) ((zb w1).alloc zr (.cells #[.int .u8 t.k,.string ⟨t.n.toArray⟩,.slice pt t.sub.len ct] 282)) zr).below bO zr;have U2:=Bp.mono (D':=λb=>w.heap.size<b) λb hb _=>by simp only[World.size_alloc] at hb;show w.heap.size<b;omega
   exact(U2.GU (λb hb=>Nat.ne_of_gt hb) _ _ _).mono λb hb _=>Nat.le_of_lt hb
theorem ur (s:List UInt8) (hm:s.length≤maxLen) (w:World) (ht:gx w):Calls Tryz.prog 219 #[str s] w (cU w s):=by
 by_cases hl:100<s.length
 · exact rI s hm w hl
 · rcases hq:aI s with _|⟨t,_|⟨c,r⟩⟩
   · exact mF s w ht hl (by rw[hq];intro t h;cases h)
   · exact rJ s t w ht hl hq
   · exact mF s w ht hl (by rw[hq];intro t h;cases h)
end Go.Proofs.YtemjidmkolfgnaaGreatDoor
