/-
  Lemmas for the statement: contract of the package store: sealed (a sector; which bytes is not said). Conditions: bounds of lengths; the variable strings.asciiSpace.
-/
import Derived.Test.YtemjidmkolfgnaaGreatDoorSBn
import Derived.Test.YtemjidmkolfgnaaGreatDoorSB11
import Derived.Test.YtemjidmkolfgnaaGreatDoorSB25
set_option maxHeartbeats 6400000
namespace Go.Proofs.YtemjidmkolfgnaaGreatDoor
open Go Go.RowKit
def FC:List Value→Prop
 | []=>True
 | .int .u8 y::l=>(0≤y∧y<256)∧FC l
 | _::_=>False
theorem vp:∀L:List Value,FC L→∃bs,aH bs=L
 | [],_=>⟨[],rfl⟩
 | v::l,h=>by
  unfold FC at h;split at h
  · rename_i e
    cases e
  · rename_i y l' e
    cases e;obtain⟨bs,hb⟩:=vp l h.2;obtain⟨n,rfl⟩:∃n:Nat,y=(n:Int):=⟨y.toNat,by omega⟩
    refine⟨UInt8.ofNat n::bs,?_⟩;have hn:(UInt8.ofNat n).toNat=n:=by rw[UInt8.toNat_ofNat'];omega
    show Value.int .u8 ((UInt8.ofNat n).toNat:Int)::aH bs=_
    rw[hn,hb]
  · exact absurd h id
def jB (W:World) (g:Nat):Prop:=∃ds:List UInt8,ds.length=64∧W.heap[g]? =some (.cells (aH ds).toArray 145 (0,0))
theorem jB.lt {W:World} {g:Nat} (h:jB W g):g<W.heap.size:=by
 obtain⟨ds,_,h⟩:=h
 exact aj h
theorem jB.keep {W W':World} {g:Nat} (h:jB W g) (hb:W'.heap[g]? =W.heap[g]?):jB W' g:=by
 obtain⟨ds,h1,h2⟩:=h
 exact⟨ds,h1,hb.trans h2⟩
theorem jB.below {W W':World} {g K:Nat} (h:jB W g) (hb:Below K W W') (hK:g<K):jB W' g:=h.keep (hb.block g hK)
theorem BZ (ds bs:List UInt8) (f:Nat):splice (aH ds) f (aH bs)=aH (ds.take f++(bs++ds.drop (f+bs.length))):=by
 unfold splice aH
 simp[List.map_take,List.map_drop]
section
variable {ops:Array Oper} {rest:List Oper} {o:Oper} {a:Act} {Q:Exit→Act→World→Prop}
theorem qZ {D:Nat→Prop} {w:World} {K:Act→World→Prop} (hgd:o.guard=none) (d s:Operand) (ho:o.op=.call {callee:=.builtin .copy,args:= #[d,s],argTypes:= #[38,38] }) {g f n c:Nat} {v:Value} {bs:List UInt8} (hd:a.eval d=.slice (some ⟨g,f,none⟩) n c) (hs:a.eval s=v)
 (hg:jB w g) (hv:CV D w v (aH bs)) (hl:bs.length≤n) (hf:f+n≤64) (h:∀w' u,jB w' g→Below g w w'→K (a.put o.dst u) w'):o.wp Tryz.prog a w K Q:=by
 obtain⟨ds,hl1,hg1⟩:=hg
 obtain⟨p,cc,rfl,hcl,hcm,h4⟩:=hv
 have:=step_copy_splice (P:=Tryz.prog) (ops:= #[]) (K:=K) (Q:=Q) (E:=True) hgd d s 38 38 ho 5 Tryz.underlying38 (by kernel_rfl) _ _ n c (aH bs).length cc hd hs g f (aH ds) 145 hg1 (aH bs) (Nat.min_eq_left (by rw[ak];exact hl)).symm (λh0=>⟨rfl,by
  rcases h4 with h4|⟨b,o',rfl,_,_,hc⟩
  · rw[h4] at h0
    simp at h0
  · exact⟨⟨b,o',none⟩,rfl,λj u hj=>by rw[eH];exact hc j u hj⟩⟩) (by rw[ak,ak,hl1];omega) (bF.u8 bs).one g w (Below.refl g w) zr λw' h5 h6=>
  h w' _ ⟨ds.take f++(bs++ds.drop (f+bs.length)),by simp[hl1];omega,by rw[h5.out,BZ]⟩ h6
 rwa [if_pos (by simp[Region.wanted,hgd])] at this
theorem j9 {D:Nat→Prop} {w:World} (hgd:o.guard=none) (d s:Operand) (ho:o.op=.call {callee:=.builtin .copy,args:= #[d,s],argTypes:= #[38,38] }) {g f n c:Nat} {v:Value} {bs:List UInt8} (hd:a.eval d=.slice (some ⟨g,f,none⟩) n c) (hs:a.eval s=v)
 (hg:jB w g) (hv:CV D w v (aH bs)) (hl:bs.length≤n) (hf:f+n≤64) (h:∀w' u,jB w' g→Below g w w'→wpList Tryz.prog ops Q rest (a.put o.dst u) w'):wpList Tryz.prog ops Q (o::rest) a w:=
 wpList_plain hgd λ_ hK=>qZ hgd d s ho hd hs hg hv hl hf λw' u h1 h2=>hK _ _ (h w' u h1 h2)
theorem oU (hgd:o.guard=none) (d s:Operand) (ho:o.op=.call {callee:=.builtin .copy,args:= #[d,s],argTypes:= #[38,38] }) {W:World} {X:Array Value} {g f n c:Nat} (hd:a.eval d=.slice (some ⟨g,f,none⟩) n c) (hs:a.eval s=.slice (some ⟨W.heap.size,0,none⟩) X.size X.size)
 (hg:jB W g) (hX:FC X.toList) (hl:X.size≤n) (hf:f+n≤64) (h:∀w' u,jB w' g→Below g W w'→wpList Tryz.prog ops Q rest (a.put o.dst u) w'):wpList Tryz.prog ops Q (o::rest) a (W.alloc (.cells X 5)):=by
 obtain⟨bs,R7⟩:=vp _ hX
 have hA:=(Below.refl g W).alloc (Nat.le_of_lt hg.lt) (.cells X 5)
 have hlen:bs.length=X.size:=by rw[←ak,R7,Array.length_toList]
 have Uo:X=(aH bs).toArray:=by rw[R7,Array.toArray_toList]
 refine j9 (D:=λ_=>True) hgd d s ho (v:=.slice (some ⟨W.heap.size,0,none⟩) X.size X.size) (bs:=bs) hd hs (hg.keep ((zb W).alloc zr (.cells X 5) |>.block g hg.lt)) ?_ (by omega) hf λw' u h1 h2=>h w' u h1 (hA.trans h2)
 have:=CV.new (w:=W) (D:=λ_=>True) rfl trivial (aH bs) 5 (0,0) (by rw[ak];unfold maxLen;omega)
 rw[ak,hlen,←Uo] at this
 exact this
end
theorem tj (w:World) (x y z:Obj):(((w.alloc x).alloc y).alloc z).heap[w.heap.size]? =some x∧(((w.alloc x).alloc y).alloc z).heap[w.heap.size+1]? =some y∧(((w.alloc x).alloc y).alloc z).heap[w.heap.size+2]? =some z∧Below w.heap.size w (((w.alloc x).alloc y).alloc z)∧(((w.alloc x).alloc y).alloc z).heap.size=w.heap.size+3:=by
 obtain⟨h1,h2,h3,h4⟩:=AE w x y
 have hA:=(zb ((w.alloc x).alloc y)).alloc zr z
 refine⟨(hA.block _ (by omega)).trans h1,(hA.block _ (by omega)).trans h2,?_,h3.trans (aa hA (by omega)),by simp⟩
 rw[←h4]
 exact heap_alloc_new _ z
theorem CV.block {w:World} {g:Nat} {cs:List Value} {t:TypeId} {z:Nat×Nat} (h:w.heap[g]? =some (.cells cs.toArray t z)) (hl:cs.length≤maxLen):CV (λ_=>True) w (.slice (some ⟨g,0,none⟩) cs.length cs.length) cs:=
 ⟨_, _, rfl, nl _, hl, .inr ⟨g, 0, rfl, trivial, aj h, fun j u hj => by
  rw[Nat.zero_add];exact(af h j).trans (by simpa using hj)⟩⟩
def nX (NB:Nat) (i:Nat) (w w':World):Prop:=(i≠3→Below w.heap.size w w')∧(NB≤w.heap.size→Below NB w w')∧∀(b:Nat) (cs:Array Value) (t:TypeId),w.heap[b]? =some (.cells cs t (0,0))→t≠5→w'.heap[b]? =w.heap[b]?
theorem nX.ai {NB i:Nat} {w w':World} (h:Below w.heap.size w w'):nX NB i w w':=⟨λ_=>h,λhn=>aa h hn,λb _cs _t e _=>h.block b (aj e)⟩
def jZ (j:Nat):Option Nat:=if j=1 then some 3 else none
def bP (_:Nat):Option Nat:=none
set_option maxRecDepth 8000 in
theorem zu {D:Nat→Prop} (last:List UInt8) (k many:Int) (v:Value) (bs:List UInt8) (w:World) (hv:CV D w v (aH bs)) (hn:bs.length≤27) (hl:last.length=32):
 Calls Tryz.prog 115 #[.agg (aH last).toArray,.int .i64 k,.int .i64 many,v] w λe w'=>(∃ds:List UInt8,e=.returned (.agg (aH ds).toArray)∧ds.length=64)∧Below w.heap.size w w':=by
 obtain⟨i0,kN,hz0,hz1,hz2⟩:=aV infoByte
 obtain⟨p,c,rfl,hlc,hlm⟩:=hv.shape
 rw[ak] at hlc hlm
 have oN:(aH last).toArray.size=32:=by simp[ak,hl]
 obtain⟨LA,NO⟩:∃LA,(aH last).toArray=LA:=⟨_,rfl⟩
 rw[NO] at oN ⊢
 have NO:=zh NO
 rw[ak] at *
 go_enter Tryz.func115,Tryz.ntmps115
 go_upto_region 2 with fail
 obtain⟨h1,h2,h3,cK,sF⟩:=tj w _ _ _
 generalize World.alloc (World.alloc (World.alloc w _) _) _=W3 at *
 replace sF:w.heap.size+3≤W3.heap.size:=Nat.le_of_eq sF.symm
 replace h2:jB W3 (w.heap.size+1):=⟨List.replicate 64 0,rfl,h2⟩
 replace h3:jB W3 (w.heap.size+1+1):=⟨List.replicate 64 0,rfl,h3⟩
 go_upto_region 3 with((with_reducible refine oU (o:=⟨some 26,_,_,_,_,_⟩) (g:=w.heap.size+1+1) (f:=32) (n:=32) (c:=32) ?_ (.tmp 11) (.tmp 25) ?_ ?_ ?_ ?_ ?_ ?_ ?_ ?_);rfl;rfl;kernel_rfl;kernel_rfl;exact h3;exact⟨by omega,by omega,by omega,by omega,by omega,trivial⟩;exact(by decide:5≤32);decide;intro W5 WH Kn lR)
 have lN:Below w.heap.size w W5:=cK.trans (aa lR (by omega))
 have h5:W5.heap[w.heap.size]? =some (.cells LA 195 (0,0)):=(lR.block _ (by omega)).trans h1
 have Q7:=h2.below lR (by omega)
 have hs5:w.heap.size+3≤W5.heap.size:=Nat.le_trans sF lR.size
 have Sv:=hv.below lN zr
 clear h1 h2 h3 cK sF lR hv
 go_upto_region 4 with((with_reducible refine j9 (D:=D) (o:=⟨some 29,_,_,_,_,_⟩) (g:=w.heap.size+1+1) (f:=37) (n:=27) (c:=27) (v:=.slice p bs.length c) (bs:=bs) ?_ (.tmp 27) (.tmp 28) ?_ ?_ ?_ ?_ ?_ ?_ ?_ ?_);rfl;rfl;kernel_rfl;kernel_rfl;exact Kn;exact Sv;exact hn;decide;intro W6 SK DA I7)
 have Li:Below w.heap.size w W6:=lN.trans (aa I7 (by omega))
 have h6:W6.heap[w.heap.size]? =some (.cells LA 195 (0,0)):=(I7.block _ (by omega)).trans h5
 have Q8:=Q7.below I7 (by omega)
 have D8:w.heap.size+3≤W6.heap.size:=Nat.le_trans hs5 I7.size
 clear h5 Q7 hs5 Sv Kn I7 lN
 rw[←NO.out] at h6
 have QX:=enters_of Tryz.func20 (by kernel_rfl) rfl
 have Q1:=enters_of Tryz.func114 (by kernel_rfl) rfl
 refine eC (w:=W6) (nX W6.heap.size) jZ 6
  [fun v _ => v = .slice (some ⟨w.heap.size, 0, none⟩) 32 32, fun v w' => w'.ownsRow W6.heap.size 5 1 v 32 (aH last), fun v _ => v = .slice (some ⟨w.heap.size + 1 + 1, 32, none⟩) 32 32,
   λv w'=>∃cs,bF .u8 cs∧cs.length=64∧w'.ownsRow W6.heap.size 5 1 v cs.length cs,λv _=>∃ds:List UInt8,v=.agg (aH ds).toArray∧ds.length=32,
   λv w'=>∃(g:Nat) (cs:Array Value),v=.pointer (some ⟨g,0,none⟩)∧W6.heap.size≤g∧cs.size=32∧w'.heap[g]? =some (.cells cs 195 (0,0))]
  (λw'=>Below W6.heap.size W6 w') (λa w'=>∃(g:Nat) (ds:List UInt8),a.tmps.getD 10 undef=.pointer (some ⟨g,0,none⟩)∧ds.length=32∧W6.heap.size≤g∧w'.heap[g]? =some (.cells (aH ds).toArray 195 (0,0))∧Below W6.heap.size W6 w')
  (by kernel_rfl) rfl rfl ?_ ?_ (zb W6).drew ⟨?_,?_,?_,?_,?_,?_,trivial⟩ ?_ ?_
 · intro i j F hF hij hl v w1 w2 h hr
   rcases j with _|_|_|_|_|_|j
   · cases hF;exact h
   · cases hF
     exact aT h (hr.1 λe=>hl (by rw[e];rfl)) zr
   · cases hF;exact h
   · cases hF
     obtain⟨cs,k1,k2,k3⟩:=h;exact⟨cs,k1,k2,aT k3 (hr.1 hij) zr⟩
   · cases hF;exact h
   · cases hF
     obtain⟨g,cs,k1,k2,k3,k4⟩:=h;exact⟨g,cs,k1,k2,k3,(hr.2.2 g cs _ k4 (by decide)).trans k4⟩
   · cases hF
 · intro i w1 w2 h hr
   exact h.trans (hr.2.1 h.size)
 · intro a wx hS hd ho next hnx
   have e4:a.eval (.tmp 4)=.pointer (some ⟨w.heap.size,0,none⟩):=(ho 4 (dZ (by kernel_rfl))).trans rfl;exact aR (v:=.slice (some ⟨w.heap.size,0,none⟩) 32 32) (by unfold execOp;simp only[e4];simp[go_sem]) (hnx _ _ (aM rfl rfl) (nX.ai (zb _)))
 · intro a wx hS hd ho next hnx
   have Tk:=fA hd 0 (by kernel_rfl) rfl (λk e=>by simp[jZ] at e) rfl;have hcv:=CV.block (w:=wx) ((hS.block _ (by omega)).trans h6) (by rw[ak,hl];decide);rw[ak,hl] at hcv;refine xK rfl QX Tk (vr _ _ wx hcv (bF.u8 last) (by rw[ak,hl];decide)) λu w' hu=>hnx u w' (aM rfl ?_) (nX.ai hu.2)
   have:=ef hu.1 hS.size
   rwa [ak,hl] at this
 · intro a wx hS hd ho next hnx
   have e9:a.eval (.tmp 9)=.pointer (some ⟨w.heap.size+1+1,0,none⟩):=(ho 9 (dZ (by kernel_rfl))).trans rfl;exact aR (v:=.slice (some ⟨w.heap.size+1+1,32,none⟩) 32 32) (by unfold execOp;simp only[e9];simp[go_sem]) (hnx _ _ (aM rfl rfl) (nX.ai (zb _)))
 · intro a wx hS hd ho next hnx
   have OB:=fA hd 1 (by kernel_rfl) rfl (λk e=>by simp[jZ] at e;exact e.symm) rfl;have Tl:=fA hd 2 (by kernel_rfl) rfl (λk e=>by simp[jZ] at e) rfl;obtain⟨ds,k1,k2⟩:=DA.below hS (by omega);refine wp_append_own wx (.tmp 31) (.tmp 32) 38 rfl W6.heap.size 5 i0 _ 1 1 (by kernel_rfl) kN hz0 hz1 hz2 rfl (by decide) _ 32 (aH last) rfl OB ⟨w.heap.size+1+1,32,none⟩ 32 32 ((aH ds).drop 32) Tl (by rw[List.length_drop,ak,k1]) (λj u hj=>?_) (λu hu=>(bF.u8 ds).one u (List.mem_of_mem_drop hu)) (by decide) (by decide) hS.size λv' w' k3 k4 _=>hnx v' w' (aM rfl ⟨aH last++(aH ds).drop 32,?_,?_,?_⟩) ⟨λe=>absurd rfl e,λhN=>?_,λb cs t k5 k6=>?_⟩
   · rw[eH]
     exact(af k2 (32+j)).trans (by rw[List.getElem?_drop] at hj;simpa using hj)
   · exact(bF.u8 last).append λu hu=>bF.u8 ds u (List.mem_of_mem_drop hu)
   · rw[List.length_append,List.length_drop,ak,ak,hl,k1]
   · have:(aH last++(aH ds).drop 32).length=32+32:=by rw[List.length_append,List.length_drop,ak,ak,hl,k1]
     rw[this];exact k3
   · exact(zb wx).grown k4 hN λb e=>(OB.lt b e).1
   · refine k4.block b (aj k5) λe=>k6 ?_
     rcases OB.2 with⟨e2,_⟩|⟨g,cap,cur,e2,_,k7,_⟩
     · rw[e2] at e;cases e
     · rw[e2] at e
       cases e;rw[k5] at k7;cases k7
       rfl
 · intro a wx hS hd ho next hnx
   obtain⟨cs,k1,k2,k3⟩:=fA hd 3 (by kernel_rfl) rfl (λk e=>by simp[jZ] at e) rfl;refine xK rfl Q1 rfl ((AD (D:=λ_=>True) _ cs wx (CV.eZ k3 λ_ _=>trivial) k1 (by omega)).mono ?_) λu w' (hu:(∃ds:List UInt8,u=.agg (aH ds).toArray∧ds.length=32)∧Below wx.heap.size wx w')=>hnx u w' (aM rfl hu.1) (nX.ai hu.2)
   rintro e w' ⟨⟨ds,rfl,k4⟩,k5⟩;exact⟨_,rfl,⟨ds,rfl,k4⟩,k5⟩
 · intro a wx hS hd ho next hnx
   exact aR (v:=.pointer (some ⟨wx.heap.size,0,none⟩)) (w':=wx.alloc (.cells (aH (List.replicate 32 0)).toArray 195)) (by kernel_rfl) (hnx _ _ (aM rfl ⟨wx.heap.size,(aH (List.replicate 32 0)).toArray,rfl,hS.size,rfl,heap_alloc_new _ _⟩) (nX.ai ((zb wx).alloc zr _)))
 · intro a wx hS hV hout next hnx
   obtain⟨ds,Tm,hds⟩:=hV 4 _ 34 (by decide) rfl rfl rfl;obtain⟨g,cs,Cy,hg,hcs,hblk⟩:=hV 5 _ 10 (by decide) rfl rfl rfl;have OQ:(aH ds).toArray.size=32:=by simp[ak,hds]
   refine aY rfl Cy Tm (bK (o:=0) hblk (by rw[OQ];kernel_rfl) (by rw[OQ,hcs];decide) (bF.u8 ds).one) (hnx _ _ ⟨g,ds,Cy,hds,hg,(setRow_heap _ _ _ _ _ _ hblk).trans (congrArg (λz=>some (Obj.cells z 195 (0,0))) ?_),below_setRow hS hg _⟩);rw[OQ,List.take_zero,List.nil_append,List.drop_eq_nil_of_le (by rw[Array.length_toList,hcs];decide),List.append_nil]
 intro a v7 W7 DB
 obtain⟨g,ds,Cy,hds,hg,hblk,Ho⟩:=DB
 simp only[pq,pz,pw]
 rw[Cy]
 have Q9:=Q8.below Ho (by omega)
 have DB:=DA.below Ho (by omega)
 have Lj:=Li.trans (aa Ho (by omega))
 have MI:w.heap.size+3≤W7.heap.size:=Nat.le_trans D8 Ho.size
 clear h6 Q8 DA QX Q1 Li Cy
 go_upto_region 5 with fail
 refine eC (w:=W7) (d:=some 37) (λ_ w w'=>Below w.heap.size w w') bP 2
  [λv _=>v=.slice (some ⟨w.heap.size+1+1,0,none⟩) 64 64,λv _=>v=.slice (some ⟨g,0,none⟩) 32 32]
  (λw'=>Below W7.heap.size W7 w') (λ_ w'=>jB w' (w.heap.size+1+1)∧jB w' (w.heap.size+1)∧Below w.heap.size w w') (by kernel_rfl) rfl rfl ?_ ?_ (zb W7).drew ⟨?_,?_,trivial⟩ ?_ ?_
 · intro i j F hF hij hl v w1 w2 h hr
   rcases j with _|_|j
   · cases hF;exact h
   · cases hF;exact h
   · cases hF
 · intro i w1 w2 h hr
   exact h.trans (aa hr h.size)
 · intro a wx hS hd ho next hnx
   have e9:a.eval (.tmp 9)=.pointer (some ⟨w.heap.size+1+1,0,none⟩):=(ho 9 (dZ (by kernel_rfl))).trans rfl;exact aR (v:=.slice (some ⟨w.heap.size+1+1,0,none⟩) 64 64) (by unfold execOp;simp only[e9];simp[go_sem]) (hnx _ _ (aM rfl rfl) (zb _))
 · intro a wx hS hd ho next hnx
   have Cy:a.eval (.tmp 10)=.pointer (some ⟨g,0,none⟩):=(ho 10 (dZ (by kernel_rfl))).trans rfl;exact aR (v:=.slice (some ⟨g,0,none⟩) 32 32) (by unfold execOp;simp only[Cy];simp[go_sem]) (hnx _ _ (aM rfl rfl) (zb _))
 · intro a wx hS hV hout next hnx
   have K8:=hV 0 _ 35 (by decide) rfl rfl rfl;have Tn:=hV 1 _ 36 (by decide) rfl rfl rfl;have hcv:=CV.block (w:=wx) ((hS.block _ (aj hblk)).trans hblk) (by rw[ak,hds];decide);rw[ak,hds] at hcv;refine qZ (D:=λ_=>True) rfl (.tmp 35) (.tmp 36) rfl K8 Tn (DB.below hS (by omega)) hcv (by rw[hds];decide) (by decide) λw' u k1 k2=>hnx u w' ⟨k1,(Q9.below hS (by omega)).below k2 (by omega),(Lj.trans (aa hS (by omega))).trans (aa k2 (by omega))⟩
 intro a2 SM W8 DD
 obtain⟨⟨d9,k1,k2⟩,⟨d8,k3,k4⟩,OJ⟩:=DD
 simp only[pq,Act.put]
 clear Q9 DB hblk Ho Lj
 have NI:(aH d9).toArray.size=64:=by simp[ak,k1]
 have hrs:(W8.setRow (w.heap.size+1) (aH d9++List.drop 64 (aH d8)).toArray).heap[w.heap.size+1]? =some (.cells (aH d9).toArray 145 (0,0)):=(setRow_heap _ _ _ _ _ _ k4).trans (congrArg (λz=>some (Obj.cells z 145 (0,0))) (by rw[List.drop_eq_nil_of_le (by rw[ak,k3];exact nl _),List.append_nil]))
 have ri:Below w.heap.size w (W8.setRow (w.heap.size+1) (aH d9++List.drop 64 (aH d8)).toArray):=below_setRow OJ (by omega) _
 go_wp2_with (first
  | ((with_reducible refine wpList_load_row (o:=⟨some 38,_,_,_,_,_⟩) (T:=145) (g:=w.heap.size+1+1) (c:=(aH d9).toArray) ?_ (.tmp 9) ?_ ?_ ?_ ?_);rfl;rfl;kernel_rfl;exact bT k2 Tryz.underlying145 (by rw[NI];kernel_rfl))
  | ((with_reducible refine wpList_store_row (o:=⟨none,_,_,_,_,_⟩) (T:=145) (f:=0) (Y:=(aH d9).toArray) ?_ (.tmp 8) (.tmp 38) ?_ k4 ?_ ?_ ?_ ?_ ?_ ?_);rfl;rfl;kernel_rfl;kernel_rfl;(rw[NI];kernel_rfl);(rw[NI];simp[ak,k3]);exact(bF.u8 d9).one))
 generalize W8.setRow (w.heap.size+1) (aH d9++List.drop 64 (aH d8)).toArray=We at *
 exact bodyPost_ret (v:=.agg (aH d9).toArray) (results_cell_row (fn:=Tryz.f115) (p:=8) (ty:=145) rfl _ We (w.heap.size+1) 145 (aH d9).toArray (0,0) _ rfl hrs Tryz.underlying145 rfl (by rw[NI];kernel_rfl)) rfl ⟨⟨d9,rfl,k1⟩,ri⟩
end Go.Proofs.YtemjidmkolfgnaaGreatDoor
