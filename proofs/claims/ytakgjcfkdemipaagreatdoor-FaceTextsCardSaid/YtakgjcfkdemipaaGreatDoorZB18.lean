/-
  Lemmas for the statement: contracts: of the package face: sig, raising, equals. Conditions: bounds of lengths; the variable strings.asciiSpace.
-/
import Derived.Laws.AppendOwnNone
import Derived.Test.YtakgjcfkdemipaaGreatDoorZBn
import Derived.Test.YtakgjcfkdemipaaGreatDoorZB17
set_option maxHeartbeats 3200000
namespace Go.Proofs.YtakgjcfkdemipaaGreatDoor
open Go.RowKit
theorem bY {t:TypeId} {z:Value} {n b:Nat} (h:(Tryz.prog.info? t).map (λi=>(i.zero,i.size,i.bytes))=some (some z,n,b)):∃i,Tryz.prog.info? t=some i∧i.zero=some z∧i.size=n∧i.bytes=b:=by
 cases hi:Tryz.prog.info? t with
 | none=>rw[hi] at h;simp at h
 | some i=>
  rw[hi] at h;simp only[Option.map_some,Option.some.injEq,Prod.mk.injEq] at h;exact⟨i,rfl,h.1,h.2.1,h.2.2⟩
theorem iM:(Tryz.prog.info? 9).map (λi=>(i.zero,i.size,i.bytes))=some (some (.string ⟨#[]⟩),1,16):=by kernel_rfl
theorem uB (ss:List (List UInt8)):∀u∈aB ss,u.oneCell'=true:=by
 intro u hu
 obtain⟨s,_,rfl⟩:=List.mem_map.1 hu
 rfl
def mN (w:World) (b:Nat):Prop:=∃cur t,w.heap[b]? =some (.cells cur t (0,0))
theorem mN.agree {w w':World} {b:Nat} (h:mN w b) (hk:w'.heap[b]? =w.heap[b]?):mN w' b:=by
 obtain⟨cur,t,h⟩:=h
 exact⟨cur,t,hk.trans h⟩
theorem mN.lt {w:World} {b:Nat} (h:mN w b):b<w.heap.size:=by
 obtain⟨cur,t,h⟩:=h
 exact(Array.getElem?_eq_some_iff.1 h).1
theorem mN.below {K:Nat} {w w':World} {b:Nat} (h:mN w b) (hb:Below K w w') (hK:w.heap.size≤K):mN w' b:=h.agree (hb.block b (Nat.lt_of_lt_of_le h.lt hK))
theorem mN.set {w:World} {b:Nat} (h:mN w b) (a:Addr) (u:Value):mN (w.setCell a u) b:=by
 by_cases e:b=a.block
 · subst e
   obtain⟨cur,t,h⟩:=h;exact⟨_,t,by simp only[World.setCell,Array.getElem?_modify,if_true,h,Option.map_some];rfl⟩
 · exact h.agree (heap_setCell_other w a b u e)
def jh (D:Nat→Prop) (w:World) (v:Value) (ss:List (List UInt8)):Prop:=SS (λb=>D b∧mN w b) w v ss
theorem jh.below {D:Nat→Prop} {K:Nat} {w w':World} {v:Value} {ss:List (List UInt8)} (h:jh D w v ss) (hb:Below K w w') (hK:w.heap.size≤K):jh D w' v ss:=
 (SS.below h hb hK).mono λ_ h=>⟨h.1,h.2.below hb hK⟩
theorem jh.mono {D D':Nat→Prop} {w:World} {v:Value} {ss:List (List UInt8)} (h:jh D w v ss) (hD:∀b,D b→D' b):jh D' w v ss:=SS.mono h λ_ h=>⟨hD _ h.1,h.2⟩
theorem jh.fresh {D:Nat→Prop} {w:World} {v:Value} {ss:List (List UInt8)} (h:jh D w v ss):jh (λb=>D b∧b<w.heap.size) w v ss:=SS.mono h λ_ h=>⟨⟨h.1,h.2.lt⟩,h.2⟩
theorem jh.set {D:Nat→Prop} {w:World} {v:Value} {ss:List (List UInt8)} (h:jh D w v ss) {a:Addr} (ha:∀b,D b→b≠a.block) (u:Value):jh D (w.setCell a u) v ss:=
 (SS.set h (λb hb=>ha b hb.1) u).mono λ_ h=>⟨h.1,h.2.set a u⟩
theorem jh.bH {w:World} {base:Nat} {e:TypeId} {v:Value} {ss:List (List UInt8)} (h:w.ownsRow base e 1 v ss.length (aB ss)) (hl:∀s∈ss,s.length≤maxLen) {D:Nat→Prop} (hD:∀b,v.ownBlock=some b→D b):jh D w v ss:=
 SS.bH h hl λb hb=>⟨hD b hb,by
  rcases h.2 with⟨rfl,_⟩|⟨g,cap,cur,rfl,_,hh,_⟩
  · cases hb
  · cases hb
    exact⟨cur,e,hh⟩⟩
set_option maxRecDepth 4000 in
theorem qB {D:Nat→Prop} (v:Value) (ss:List (List UInt8)) (w:World) (hv:SS D w v ss) (hn:ss.length≤100000):
 Calls Tryz.prog 152 #[v] w λe w'=>∃v',e=.returned v'∧w'.ownsRow w.heap.size 9 1 v' ss.length (aB ss)∧Below w.heap.size w w':=by
 obtain⟨i0,gw,hz0,hz1,hz2⟩:=bY iM
 obtain⟨p,c,rfl,hc,hm,hl,h4⟩:=hv
 have FX:=λ(w:World) (a:Option Addr) (n c:Nat)=>Lib.run_eql_slice_nil (P:=Tryz.prog) w 34 9 a n c 0 0 eV
 cases p with
 | none=>
  obtain rfl:ss=[]:=by
   rcases h4 with h4|⟨b,o,e,_⟩
   · exact h4
   · cases e
  clear hc hm hl h4 hn;go_enter Tryz.func152,Tryz.ntmps152;go_wp2_with fail;go_ret;exact⟨_,rfl,World.ownsRow_nil _ _ _ _,zb _⟩
 | some a=>
  have hnew:∀j u,(aB ss)[j]? =some u→w.cell? (a.add j)=some u:=by
   intro j u hu;rcases h4 with rfl|⟨b,o,e,_,_,hcell⟩
   · simp[aB] at hu
   · injection e with e
     subst e;have hj:j<ss.length:=by
      have:=(List.getElem?_eq_some_iff.1 hu).1
      simpa[aB] using this
     rw[iJ ss j hj] at hu;cases hu;rw[Go.WideShapes.add_plain];exact hcell j hj
  clear h4;have hE:(w.alloc (.cells #[] 9)).ownsRow w.heap.size 9 1 (.slice (some ⟨w.heap.size,0,none⟩) 0 0) 0 []:=
   ⟨rfl,.inr ⟨w.heap.size,0,#[],rfl,nl _,heap_alloc_new w _,nl _,Nat.zero_le _,rfl,rfl⟩⟩
  have DU:∀(j:Nat) (u:Value),(aB ss)[j]? =some u→(w.alloc (.cells #[] 9)).cell? (a.add j)=some u:=λj u hj=>
   Below.keep ((zb w).alloc zr _) (hnew j u hj)
  have hlen:(aB ss).length=ss.length * 1:=by simp[aB]
  have hone:=uB ss;clear hnew hl hm hc;generalize aB ss=xs at *;generalize ss.length=n at *;go_enter Tryz.func152,Tryz.ntmps152;go_wp2_with (at_builtin;refine wpList_append_own (w.alloc (.cells #[] 9)) rfl _ _ 34 rfl w.heap.size 9 i0 _ 1 16 eV gw hz0 hz1 hz2 rfl (by decide) (.slice (some ⟨w.heap.size,0,none⟩) 0 0) 0 [] rfl hE a n c xs rfl hlen DU hone (by unfold maxLen;omega) (by omega) (by simp) ?_;intro v' w3 bB hgr _);go_ret;rw[List.nil_append,Nat.zero_add] at bB;exact⟨v',rfl,bB,((zb w).alloc zr _).grown hgr (by simp) (λb e=>by cases e;exact nl _)⟩
set_option maxRecDepth 4000 in
theorem oS {D:Nat→Prop} (x:Value) (s:bP) (w:World) (hx:aT D w x s) (h1:s.args.length≤100000) (h2:s.sigs.length≤100000):
 Calls Tryz.prog 94 #[x] w λe w'=>∃v,e=.returned v∧aT (λb=>w.heap.size≤b∧mN w' b) w' v s∧Below w.heap.size w w'∧∃a q,v=.agg #[.bool s.iter,a,str s.res,q]∧w'.ownsRow (w.heap.size+2) 9 1 a s.args.length (aB s.args)∧jh (λb=>w.heap.size+2≤b∧a.ownBlock≠some b) w' q s.sigs:=by
 obtain⟨av,sv,rfl,hr,ha,hs⟩:=hx
 have hal:=zh ha.le
 have Cc:=zh hs.le
 have uK:=λW (hW:Below w.heap.size w W)=>qB _ _ _ (ha.below hW zr) h1
 have GF:=λW (hW:Below w.heap.size w W)=>qB _ _ _ (hs.below hW zr) h2
 obtain⟨p1,c1,rfl,_⟩:=ha.shape
 obtain⟨p2,c2,rfl,_⟩:=hs.shape
 obtain⟨it,ar,re,sg⟩:=s
 dsimp only at *
 have hA:=((zb w).alloc zr (.cells #[.bool it,.slice p1 ar.length c1,str re,.slice p2 sg.length c2] 36))
 have hB:=hA.alloc (by simp) (.cells #[.bool false,.slice none 0 0,.string ⟨#[]⟩,.slice none 0 0] 36)
 have hg:=aD (.cells #[.bool false,.slice none 0 0,.string ⟨#[]⟩,.slice none 0 0] 36) (heap_alloc_new w (.cells #[.bool it,.slice p1 ar.length c1,str re,.slice p2 sg.length c2] 36))
 have hg2:=cI (w:=w.alloc (.cells #[.bool it,.slice p1 ar.length c1,str re,.slice p2 sg.length c2] 36)) (n:=w.heap.size+1) (by simp) #[.bool false,.slice none 0 0,.string ⟨#[]⟩,.slice none 0 0] 36
 go_enter Tryz.func94,Tryz.ntmps94
 go_wp2_with (first
  | (go_at_call 152;refine(GF _ (mE.setCell (p:=⟨w.heap.size,1,none⟩) zr (.slice q1 ar.length d1))).mono ?_;clear GF;rintro e w2 ⟨v2,rfl,zz,aC⟩;obtain⟨q2,d2,rfl⟩:=bu zz;have hg:=Eg hg aC;have hg2:=zN hg2 (by omega) aC;have bx:=(aN hg).1;have TJ:=(aN hg).2.2.2.2;have cx:=(aN hg2).1;have cy:=(aN hg2).2)
  | (go_at_call 152;refine(uK _ hB).mono ?_;clear uK;rintro e w1 ⟨v1,rfl,jW,au⟩;obtain⟨q1,d1,rfl⟩:=bu jW;have mE:=hB.trans (af au (by simp;omega));have hg:=cG hg au (by simp;omega);have hg2:=cG hg2 au (by simp);have bx:=(aN hg).1;have O1:=(aN hg).2.2.1))
 refine bodyPost_ret (v:=.agg #[.bool it,.slice q1 ar.length d1,str re,.slice q2 sg.length d2]) (by simp[results,Tryz.results94,go_sem,cx]) rfl ?_
 have s1:jh (λb=>w.heap.size+2≤b) w1 (.slice q1 ar.length d1) ar:=jh.bH jW hal.out (λb hb=>by have:=(jW.lt b hb).1;simp at this;omega)
 have s2:jh (λb=>w.heap.size+2≤b) w2 (.slice q2 sg.length d2) sg:=jh.bH zz Cc.out (λb hb=>by have h1:=(zz.lt b hb).1;rw[size_set] at h1;have h2:=au.size;simp at h2;omega)
 have s3:=(s1.set (a:=⟨w.heap.size,1,none⟩) (by intro b hb;simp only;omega) (.slice q1 ar.length d1)).below aC zr
 have cD:=(mE.setCell (p:=⟨w.heap.size,1,none⟩) zr (.slice q1 ar.length d1)).trans (af aC (by rw[size_set];exact mE.size))
 refine⟨_,rfl,⟨_,_,rfl,hr,?_,?_⟩,?_,_,_,rfl,?_,?_⟩
 rotate_left 2
 · exact((((cD.setCell (p:=⟨w.heap.size,3,none⟩) zr _).setCell (p:=⟨w.heap.size+1,0,none⟩) (by simp) _).setCell (p:=⟨w.heap.size+1,1,none⟩) (by simp) _).setCell (p:=⟨w.heap.size+1,2,none⟩) (by simp) _).setCell (p:=⟨w.heap.size+1,3,none⟩) (by simp) _
 · have o1:w1.ownsRow (w.heap.size+2) 9 1 (.slice q1 ar.length d1) ar.length (aB ar):=by
    have:=jW;simp only[World.size_alloc] at this;exact this
   have o2:=ay (ownsRow_setCell_below o1 (a:=⟨w.heap.size,1,none⟩) (by simp) (.slice q1 ar.length d1)) aC zr;exact ownsRow_setCell_below (ownsRow_setCell_below (ownsRow_setCell_below (ownsRow_setCell_below (ownsRow_setCell_below o2 (a:=⟨w.heap.size,3,none⟩) (by simp) _) (a:=⟨w.heap.size+1,0,none⟩) (by simp) _) (a:=⟨w.heap.size+1,1,none⟩) (by simp) _) (a:=⟨w.heap.size+1,2,none⟩) (by simp) _) (a:=⟨w.heap.size+1,3,none⟩) (by simp) _
 · have s4:jh (λb=>w.heap.size+2≤b∧(Value.slice q1 ar.length d1).ownBlock≠some b) w2 (.slice q2 sg.length d2) sg:=jh.bH zz Cc.out (λb hb=>by
    have h1:=(zz.lt b hb).1;rw[size_set] at h1;have h2:=au.size;simp only[World.size_alloc] at h2;exact⟨by omega,λe=>by have:=aK jW e;omega⟩)
   exact((((s4.set (a:=⟨w.heap.size,3,none⟩) (by intro b hb;have:=hb.1;simp only;omega) _).set (a:=⟨w.heap.size+1,0,none⟩) (by intro b hb;have:=hb.1;simp only;omega) _).set (a:=⟨w.heap.size+1,1,none⟩) (by intro b hb;have:=hb.1;simp only;omega) _).set (a:=⟨w.heap.size+1,2,none⟩) (by intro b hb;have:=hb.1;simp only;omega) _).set (a:=⟨w.heap.size+1,3,none⟩) (by intro b hb;have:=hb.1;simp only;omega) _
 · exact(((((s3.set (a:=⟨w.heap.size,3,none⟩) (by intro b hb;simp only;omega) _).set (a:=⟨w.heap.size+1,0,none⟩) (by intro b hb;simp only;omega) _).set (a:=⟨w.heap.size+1,1,none⟩) (by intro b hb;simp only;omega) _).set (a:=⟨w.heap.size+1,2,none⟩) (by intro b hb;simp only;omega) _).set (a:=⟨w.heap.size+1,3,none⟩) (by intro b hb;simp only;omega) _).mono (by intro b hb;omega)
 · exact(((((s2.set (a:=⟨w.heap.size,3,none⟩) (by intro b hb;simp only;omega) _).set (a:=⟨w.heap.size+1,0,none⟩) (by intro b hb;simp only;omega) _).set (a:=⟨w.heap.size+1,1,none⟩) (by intro b hb;simp only;omega) _).set (a:=⟨w.heap.size+1,2,none⟩) (by intro b hb;simp only;omega) _).set (a:=⟨w.heap.size+1,3,none⟩) (by intro b hb;simp only;omega) _).mono (by intro b hb;omega)
set_option maxRecDepth 4000 in
theorem oJ {D:Nat→Prop} (x:Value) (s:bP) (w:World) (hx:aT D w x s) (h1:s.args.length≤100000):
 Calls Tryz.prog 92 #[x] w λe w'=>∃v,e=.returned v∧SS (λb=>w.heap.size≤b) w' v (aQ s)∧Below w.heap.size w w':=by
 obtain⟨i0,gw,hz0,hz1,hz2⟩:=bY iM
 obtain⟨av,sv,rfl,hr,ha,hs⟩:=hx
 have hal:=zh ha.le
 have uK:=λW (hW:Below w.heap.size w W)=>qB _ _ _ (ha.below hW zr) h1
 obtain⟨p1,c1,rfl,_⟩:=ha.shape
 obtain⟨p2,c2,rfl,_⟩:=hs.shape
 obtain⟨it,ar,re,sg⟩:=s
 dsimp only at *
 have hA:=((zb w).alloc zr (.cells #[.bool it,.slice p1 ar.length c1,str re,.slice p2 sg.length c2] 36))
 have hg:=heap_alloc_new w (.cells #[.bool it,.slice p1 ar.length c1,str re,.slice p2 sg.length c2] 36)
 by_cases he:re=[]
 · have he':re.isEmpty=true:=by rw[he];rfl
   have HT:=zh (show aQ ⟨it,ar,re,sg⟩=ar by unfold aQ;rw[if_pos he];simp);clear he;go_enter Tryz.func92,Tryz.ntmps92;go_wp2_with (go_at_call 152;refine(uK _ hA).mono ?_;clear uK;rintro e w1 ⟨v1,rfl,jW,au⟩;obtain⟨q1,d1,rfl⟩:=bu jW;have hg:=ah hg au;have bx:=(aN hg).1);go_ret;rw[HT.out];exact⟨_,rfl,SS.bH jW hal.out (λb hb=>by have:=(jW.lt b hb).1;simp at this;omega),hA.trans (af au (by simp))⟩
 · have he':re.isEmpty=false:=by simpa using he
   have HT:=zh (show aQ ⟨it,ar,re,sg⟩=ar++[re] by unfold aQ;rw[if_neg he]);clear he;go_enter Tryz.func92,Tryz.ntmps92;go_wp2_with (first
    | (at_builtin;refine wpList_append_own (w1.alloc (.cells #[str re] 9)) rfl _ _ 34 rfl (w.heap.size+1) 9 i0 _ 1 16 eV gw hz0 hz1 hz2 rfl (by decide) _ _ (aB ar) rfl (jW.alloc _) ⟨w1.heap.size,0,none⟩ 1 1 [str re] rfl rfl (cell_one_new _ _ _) (by intro u hu;rw[List.mem_singleton.1 hu];rfl) (by unfold maxLen;omega) (by omega) (by simp;omega) ?_;intro v' w3 bB hgr _)
    | (go_at_call 152;refine(uK _ hA).mono ?_;clear uK;rintro e w1 ⟨v1,rfl,jW,au⟩;rw[World.size_alloc] at jW;obtain⟨q1,d1,rfl⟩:=bu jW;have hsz:=au.size;rw[World.size_alloc] at hsz;have hg:=ah hg au;have bx:=(aN hg).1))
   go_ret;have hl1:ar.length+1=(ar++[re]).length:=by simp
   rw[hl1,show aB ar++[str re]=aB (ar++[re]) by simp[aB]] at bB;rw[HT.out];refine⟨_,rfl,SS.bH bB ?_ (λb hb=>by have:=(bB.lt b hb).1;omega),?_⟩
   · intro s hs
     rcases List.mem_append.1 hs with hs|hs
     · exact hal.out s hs
     · rw[List.mem_singleton.1 hs];exact hr
   · exact((hA.trans (af au (by simp))).alloc (by omega) _).grown hgr (by simp;omega) (λk hk=>by
      have:=(jW.lt k hk).1;omega)
def gx (D:Nat→Prop) (w:World) (v:Value) (x:aL):Prop:=
 ∃a s,v=.agg #[str x.name,.bool x.sig.iter,a,str x.sig.res,s]∧qm x∧SS D w a x.sig.args∧SS D w s x.sig.sigs
theorem gx.below {D:Nat→Prop} {K:Nat} {w w':World} {v:Value} {x:aL} (h:gx D w v x) (hb:Below K w w') (hK:w.heap.size≤K):gx D w' v x:=by
 obtain⟨a,s,h1,h4,h2,h3⟩:=h
 exact⟨a,s,h1,h4,h2.below hb hK,h3.below hb hK⟩
theorem gx.mono {D D':Nat→Prop} {w:World} {v:Value} {x:aL} (h:gx D w v x) (hB:∀b,D b→D' b):gx D' w v x:=by
 obtain⟨a,s,h1,h4,h2,h3⟩:=h
 exact⟨a,s,h1,h4,h2.mono hB,h3.mono hB⟩
theorem aT.set {D:Nat→Prop} {w:World} {v:Value} {x:bP} (h:aT D w v x) {a:Addr} (ha:∀b,D b→b≠a.block) (u:Value):aT D (w.setCell a u) v x:=by
 obtain⟨p,s,h1,h4,h2,h3⟩:=h
 exact⟨p,s,h1,h4,h2.set ha u,h3.set ha u⟩
def ep (w:World) (b:Nat) (a0 a1 a2 a3:Value):World:=(((w.setCell ⟨b,0,none⟩ a0).setCell ⟨b,1,none⟩ a1).setCell ⟨b,2,none⟩ a2).setCell ⟨b,3,none⟩ a3
theorem Below.ep {B:Nat} {a w:World} (h:Below B a w) {b:Nat} (hb:B≤b) (a0 a1 a2 a3:Value):Below B a (ep w b a0 a1 a2 a3):=
 (((h.setCell (p:=⟨b,0,none⟩) hb _).setCell (p:=⟨b,1,none⟩) hb _).setCell (p:=⟨b,2,none⟩) hb _).setCell (p:=⟨b,3,none⟩) hb _
theorem SS.ep {D:Nat→Prop} {w:World} {v:Value} {ss:List (List UInt8)} (h:SS D w v ss) {b:Nat} (hb:∀b',D b'→b'≠b) (a0 a1 a2 a3:Value):SS D (ep w b a0 a1 a2 a3) v ss:=
 (((h.set (a:=⟨b,0,none⟩) hb _).set (a:=⟨b,1,none⟩) hb _).set (a:=⟨b,2,none⟩) hb _).set (a:=⟨b,3,none⟩) hb _
theorem jh.ep {D:Nat→Prop} {w:World} {v:Value} {ss:List (List UInt8)} (h:jh D w v ss) {b:Nat} (hb:∀b',D b'→b'≠b) (a0 a1 a2 a3:Value):jh D (ep w b a0 a1 a2 a3) v ss:=
 (((h.set (a:=⟨b,0,none⟩) hb _).set (a:=⟨b,1,none⟩) hb _).set (a:=⟨b,2,none⟩) hb _).set (a:=⟨b,3,none⟩) hb _
theorem qh (r:List UInt8) (v:Value) (w:World) (hv:∃p n c,v=.slice p n c):
 Calls Tryz.prog 239 #[str r,v] w λe w'=>e=.returned (.agg #[.bool false,v,str r,.slice none 0 0])∧Below w.heap.size w w':=by
 obtain⟨p,n,c,rfl⟩:=hv
 go_enter Tryz.func239,Tryz.ntmps239
 go_wp2_with fail
 refine bodyPost_ret (v:=.agg #[.bool false,.slice p n c,str r,.slice none 0 0]) (by simp[results,Tryz.results239,go_sem]) rfl ?_
 exact⟨rfl,(zb w).alloc zr _⟩
set_option maxRecDepth 4000 in
theorem pI {D:Nat→Prop} (x:Value) (s:bP) (g:List UInt8) (w:World) (hx:aT D w x s) (hg:g.length≤maxLen):
 Calls Tryz.prog 240 #[x,str g] w λe w'=>∃v,e=.returned v∧(∃a q,x=.agg #[.bool s.iter,a,str s.res,q]∧∃t,v=.agg #[.bool s.iter,a,str s.res,t]∧SS (λb=>w.heap.size≤b) w' t [g])∧Below w.heap.size w w':=by
 obtain⟨av,sv,rfl,hr,ha,hs⟩:=hx
 obtain⟨p1,c1,rfl,_⟩:=ha.shape
 obtain⟨p2,c2,rfl,_⟩:=hs.shape
 obtain⟨it,ar,re,sg⟩:=s
 dsimp only at *
 have hA:=((zb w).alloc zr (.cells #[.bool it,.slice p1 ar.length c1,str re,.slice p2 sg.length c2] 36))
 have hB:=hA.alloc (by simp) (.cells #[.bool false,.slice none 0 0,.string ⟨#[]⟩,.slice none 0 0] 36)
 go_enter Tryz.func240,Tryz.ntmps240
 go_wp2_with fail
 refine bodyPost_ret (v:=.agg #[.bool it,.slice p1 ar.length c1,str re,.slice (some ⟨w.heap.size+2,0,none⟩) 1 1]) (by simp[results,Tryz.results240,go_sem]) rfl ?_
 refine⟨_,rfl,⟨_,_,rfl,_,rfl,?_⟩,(((zb w).alloc zr _).alloc (by simp) _).alloc (by simp;omega) _⟩
 exact SS.newAt (n:=w.heap.size+2) (by simp) (by omega) [g] 9 (0,0) (by unfold maxLen;simp) (by intro s hs;rw[List.mem_singleton.1 hs];exact hg)
def uM (v:Value) (m:Nat) (nv:Value) (p:Bool) (t:List UInt8):Prop:=v=.agg #[.map (some m),nv,.bool p,str t]∧∃q n c,nv=.slice q n c
def cm (t:List UInt8):aL:=⟨[101,113,117,97,108],⟨false,[t,t],[98,111,111,108],[]⟩⟩
theorem AH {t u:List UInt8} (ht:t.length≤maxLen) (hu:u.length≤maxLen):∀s∈[t,u],s.length≤maxLen:=by
 intro s hs
 simp only[List.mem_cons,List.not_mem_nil,or_false] at hs
 rcases hs with rfl|rfl
 · exact ht
 · exact hu
set_option maxRecDepth 4000 in
theorem j5 (v:Value) (m:Nat) (nv:Value) (p:Bool) (t:List UInt8) (w:World) (hv:uM v m nv p t) (ht:t.length≤maxLen):
 Calls Tryz.prog 238 #[v] w λe w'=>∃u,e=.returned u∧gx (λb=>w.heap.size≤b) w' u (cm t)∧Below w.heap.size w w':=by
 obtain⟨rfl,q,n,c,rfl⟩:=hv
 have hA:=((zb w).alloc zr (.cells #[.map (some m),.slice q n c,.bool p,str t] 145))
 have hB:=hA.alloc (by simp) (.cells #[.string ⟨#[]⟩,.bool false,.slice none 0 0,.string ⟨#[]⟩,.slice none 0 0] 50)
 have hC:=hB.alloc (by simp;omega) (.cells #[str t,str t] 9)
 have hg:=aD (.cells #[str t,str t] 9) (cI (w:=w.alloc (.cells #[.map (some m),.slice q n c,.bool p,str t] 145)) (n:=w.heap.size+1) (by simp) #[.string ⟨#[]⟩,.bool false,.slice none 0 0,.string ⟨#[]⟩,.slice none 0 0] 50)
 have hS:=SS.newAt (w:=(w.alloc (.cells #[.map (some m),.slice q n c,.bool p,str t] 145)).alloc (.cells #[.string ⟨#[]⟩,.bool false,.slice none 0 0,.string ⟨#[]⟩,.slice none 0 0] 50)) (D:=λb=>w.heap.size+2≤b) (n:=w.heap.size+2) (by simp) zr [t,t] 9 (0,0) (by unfold maxLen;simp) (AH ht ht)
 have hS:SS (λb=>w.heap.size+2≤b) (((w.alloc (.cells #[.map (some m),.slice q n c,.bool p,str t] 145)).alloc (.cells #[.string ⟨#[]⟩,.bool false,.slice none 0 0,.string ⟨#[]⟩,.slice none 0 0] 50)).alloc (.cells #[str t,str t] 9)) (.slice (some ⟨w.heap.size+2,0,none⟩) 2 2) [t,t]:=hS
 go_enter Tryz.func238,Tryz.ntmps238
 go_wp2_with (go_at_call 239;refine(qh _ _ _ ⟨_,_,_,rfl⟩).mono ?_;rintro e w1 ⟨rfl,au⟩;have hg:=ah hg au;have bx:=(bz hg).1;have O1:=(bz hg).2)
 refine bodyPost_ret (v:=.agg #[str [101,113,117,97,108],.bool false,.slice (some ⟨w.heap.size+2,0,none⟩) 2 2,str [98,111,111,108],.slice none 0 0]) (by simp[results,Tryz.results238,go_sem,bx]) rfl ?_
 have hS1:=hS.below au zr
 refine⟨_,rfl,⟨_,_,rfl,⟨by simp[cm,maxLen],by simp[cm,maxLen]⟩,?_,SS.nil _ _ _ _⟩,?_⟩
 · exact(((((hS1.set (a:=⟨w.heap.size+1,0,none⟩) (by intro b hb;simp only;omega) _).set (a:=⟨w.heap.size+1,1,none⟩) (by intro b hb;simp only;omega) _).set (a:=⟨w.heap.size+1,2,none⟩) (by intro b hb;simp only;omega) _).set (a:=⟨w.heap.size+1,3,none⟩) (by intro b hb;simp only;omega) _).set (a:=⟨w.heap.size+1,4,none⟩) (by intro b hb;simp only;omega) _).mono (by intro b hb;omega)
 · exact((((((hC.trans (af au (by simp;omega))).setCell (p:=⟨w.heap.size+1,0,none⟩) (by simp) _).setCell (p:=⟨w.heap.size+1,1,none⟩) (by simp) _).setCell (p:=⟨w.heap.size+1,2,none⟩) (by simp) _).setCell (p:=⟨w.heap.size+1,3,none⟩) (by simp) _).setCell (p:=⟨w.heap.size+1,4,none⟩) (by simp) _)
end Go.Proofs.YtakgjcfkdemipaaGreatDoor
