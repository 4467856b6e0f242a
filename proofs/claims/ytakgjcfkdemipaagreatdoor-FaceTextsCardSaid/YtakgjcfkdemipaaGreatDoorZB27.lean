/-
  Lemmas for the statement: rows of operations of the call's own, sorted by slices.SortFunc. No condition.
-/
import Derived.Shelf.SlSortCmp.NoneTotal
import Derived.Test.YtakgjcfkdemipaaGreatDoorZBn
import Derived.Test.YtakgjcfkdemipaaGreatDoorZB19
import Derived.Test.YtakgjcfkdemipaaGreatDoorZB26
set_option maxHeartbeats 3200000
namespace Go.Proofs.YtakgjcfkdemipaaGreatDoor
open Go.RowKit Go.Sort Go.Shelf
section
variable {α:Type} [Inhabited α] {enc:α→List Value} {k:Nat}
theorem td (hk:∀x,(enc x).length=k) (h0:0<k):∀(ps:List α) (t:Nat),t<ps.length * k→(ps.flatMap enc)[t]? =some ((enc ps.toArray[t / k]!)[t % k]!)
 | [],t,h=>by simp at h
 | x :: ps, t, h => by
  rw[List.flatMap_cons]
  by_cases ht:t<k
  · rw[List.getElem?_append_left (by rw[hk];exact ht),Nat.div_eq_of_lt ht,Nat.mod_eq_of_lt ht]
    have:(x::ps).toArray[0]! =x:=by simp
    rw[this,List.getElem?_eq_getElem (by rw[hk];exact ht),List.getElem!_eq_getElem?_getD,List.getElem?_eq_getElem (by rw[hk];exact ht)]
    rfl
  · have hl:t - k<ps.length * k:=by rw[List.length_cons,Nat.succ_mul] at h;omega
    rw[List.getElem?_append_right (by rw[hk];omega),hk,td hk h0 ps (t - k) hl];have h1:(t - k) % k=t % k:=(Nat.mod_eq_sub_mod (by omega)).symm;have h2:t / k=(t - k) / k+1:=Nat.div_eq_sub_div h0 (by omega);have h3:(x::ps).toArray[(t - k) / k+1]! =ps.toArray[(t - k) / k]! :=by
     simp only[List.getElem!_toArray,List.getElem!_eq_getElem?_getD,List.getElem?_cons_succ]
    rw[h1,h2,h3]
omit [Inhabited α] in
theorem th (hk:∀x,(enc x).length=k) (ps:List α):(ps.flatMap enc).length=ps.length * k:=by
 induction ps with
 | nil=>simp
 | cons x ps ih=>rw[List.flatMap_cons,List.length_append,ih,hk,List.length_cons,Nat.succ_mul];omega
theorem wR (hk:∀x,(enc x).length=k) (h0:0<k) (ps:List α):flatK enc k ps.toArray=(ps.flatMap enc).toArray:=by
 apply Array.ext_getElem?
 intro t
 by_cases ht:t<ps.length * k
 · have h2:(ps.flatMap enc).toArray[t]? =some ((enc ps.toArray[t / k]!)[t % k]!):=by rw[List.getElem?_toArray];exact td hk h0 ps t ht
   rw[h2];simp[flatK,ht]
 · rw[Array.getElem?_eq_none (by simp;omega),Array.getElem?_eq_none (by rw[List.size_toArray,th hk];omega)]
theorem II (hk:∀x,(enc x).length=k) (h0:0<k) {e:TypeId} {W:World} {base g cap:Nat} {ps:List α} (h:W.ownsRow base e k (.slice (some ⟨g,0,none⟩) ps.length cap) ps.length (ps.flatMap enc)):HoldsK enc k W g 0 ps.toArray:=by
 unfold HoldsK
 rw[wR hk h0]
 intro j hj
 have hj':j<(ps.flatMap enc).length:=by simpa using hj
 have hc:=h.cells (g:=g) rfl j _ (List.getElem?_eq_getElem hj')
 rw[show(⟨g,0,none⟩:Addr).add j=⟨g,0+j,none⟩ from by unfold Addr.add;simp;omega] at hc
 refine⟨?_,?_⟩
 · rw[hc];simp[List.getElem?_eq_getElem hj']
 · rcases h.2 with⟨h',_⟩|⟨g',cap',cur,h',_,hh,_⟩
   · cases h'
   · cases h'
     exact az hh _
theorem Gw (hk:∀x,(enc x).length=k) (h0:0<k) {e:TypeId} {W:World} {base g cap n:Nat} {os:Array Obj} {ps qs:List α} (hl:qs.length=ps.length) (h:W.ownsRow base e k (.slice (some ⟨g,0,none⟩) ps.length cap) ps.length (ps.flatMap enc)):
 (sortWorldK enc k W g 0 n qs.toArray os).ownsRow base e k (.slice (some ⟨g,0,none⟩) ps.length cap) ps.length (qs.flatMap enc)∧W.grownBy (sortWorldK enc k W g 0 n qs.toArray os) (some g):=by
 rcases h.2 with⟨h',_⟩|⟨g',cap',cur,h',hb,hh,h1,h2,h3,h4⟩
 · cases h'
 cases h'
 have cM:g<W.heap.size:=(Array.getElem?_eq_some_iff.1 hh).1
 have hF:flatK enc k qs.toArray=(qs.flatMap enc).toArray:=wR hk h0 qs
 have hheap:(sortWorldK enc k W g 0 n qs.toArray os).heap[g]? =some (.cells (putCells id 0 (qs.flatMap enc).toArray cur) e (0,0)):=by
  unfold sortWorldK putRowK;rw[hF,heap_grow_old _ _ (by simpa using cM)];simp[putRow,mapBlock,Sort.ahead,Array.getElem?_modify,hh,onCells]
 have Sx:(qs.flatMap enc).length=ps.length * k:=by rw[th hk,hl]
 have hmul:ps.length * k≤cap * k:=Nat.mul_le_mul_right k h1
 refine⟨⟨by rw[Sx],.inr ⟨g,cap,_,rfl,hb,hheap,h1,h2,by simp[putCells,h3],?_⟩⟩,?_⟩
 · clear hheap hF
   generalize qs.flatMap enc=Q at *;apply List.ext_getElem?;intro j
   by_cases hj:j<ps.length * k
   · rw[List.getElem?_take_of_lt hj,Array.getElem?_toList]
     have R9:j<cur.size:=by rw[h3];omega
     have hjq:j<Q.length:=by omega
     simp[putCells,R9,hjq]
   · rw[List.getElem?_take_eq_none (by omega),List.getElem?_eq_none (by omega)]
 · unfold sortWorldK putRowK
   refine⟨rfl,rfl,rfl,by simp,λj hj hne=>?_⟩;rw[heap_grow_old _ _ (by simpa using hj)];have:g≠j:=λe=>hne (by rw[e])
   simp[putRow,mapBlock,Sort.ahead,Array.getElem?_modify,this]
end
abbrev OV:=(List UInt8×Bool×List UInt8)×(Option Addr×Nat×Nat)×(Option Addr×Nat×Nat)
def kN (x:OV):List Value:=[str x.1.1,.bool x.1.2.1,.slice x.2.1.1 x.2.1.2.1 x.2.1.2.2,str x.1.2.2,.slice x.2.2.1 x.2.2.2.1 x.2.2.2.2]
theorem bl.vals {D:Nat→Prop} {w:World}:∀{l:List aL} {cs:List Value},bl D w cs l→∃ps:List OV,cs=ps.flatMap kN∧ps.length=l.length
 | [],_,h=>⟨[],h,rfl⟩
 | x::l,_,⟨a,s,r,h1,_,h2,h3,h4⟩=>by
  obtain⟨ps,hps,hl⟩:=bl.vals h4;obtain⟨p,c,rfl,_⟩:=h2.shape;obtain⟨q,d,rfl,_⟩:=h3.shape;exact⟨((x.name,x.sig.iter,x.sig.res),(p,_,c),(q,_,d))::ps,by rw[h1,hps];rfl,by simp[hl]⟩
theorem bl.vS {D:Nat→Prop} {w:World} {p:OV} {r:List Value} {l:List aL} (h:bl D w (kN p++r) l):∃x l',l=x::l'∧(∀{k:List aL} {ds:List Value},bl D w ds k→bl D w (kN p++ds) (x::k))∧bl D w r l'∧x.name=p.1.1:=by
 cases l with
 | nil=>exact absurd h (by simp[bl,kN])
 | cons x l=>
  obtain⟨a,s,r',h1,h0,h2,h3,h4⟩:=h;simp only[kN,List.cons_append,List.nil_append,List.cons.injEq] at h1;obtain⟨e1,e2,e3,e4,e5,rfl⟩:=h1;refine⟨x,l,rfl,λ{k ds} hk=>⟨a,s,ds,?_,h0,h2,h3,hk⟩,h4,(encStr_inj e1).symm⟩;simp only[kN,List.cons_append,List.nil_append];rw[e1,e2,e3,e4,e5]
theorem bl.perm {D:Nat→Prop} {w:World} {qs ps:List OV} (hp:qs.Perm ps):∀{l:List aL},bl D w (ps.flatMap kN) l→∃m,bl D w (qs.flatMap kN) m∧m.Perm l:=by
 induction hp with
 | nil=>exact λh=>⟨_,h,List.Perm.refl _⟩
 | cons p _ ih=>
  intro l h;rw[List.flatMap_cons] at h;obtain⟨x,l',rfl,hx,h',_⟩:=h.vS;obtain⟨m,hm,Sv⟩:=ih h';exact⟨x::m,by rw[List.flatMap_cons];exact hx hm,Sv.cons x⟩
 | swap p q t=>
  intro l h;rw[List.flatMap_cons,List.flatMap_cons] at h;obtain⟨x,l',rfl,hx,h',_⟩:=h.vS;obtain⟨y,l'',rfl,hy,h'',_⟩:=h'.vS;exact⟨y::x::l'',by rw[List.flatMap_cons,List.flatMap_cons];exact hy (hx h''),List.Perm.swap x y l''⟩
 | trans _ _ ih1 ih2=>
  intro l h;obtain⟨m,hm,h1⟩:=ih2 h;obtain⟨m',hm',h2⟩:=ih1 hm;exact⟨m',hm',h2.trans h1⟩
theorem bl.names {D:Nat→Prop} {w:World}:∀{qs:List OV} {m:List aL},bl D w (qs.flatMap kN) m→m.map (·.name)=qs.map (·.1.1)
 | [],[],_=>rfl
 | [],_::_,⟨_,_,_,h,_⟩=>by simp at h
 | p::qs,m,h=>by
  rw[List.flatMap_cons] at h;obtain⟨x,l',rfl,_,h',hn⟩:=h.vS;rw[List.map_cons,List.map_cons,hn,bl.names h']
theorem kV:∀a b:List UInt8,decide (Lib.compareBytes a b<0)=Op.bytesLess a b
 | [],[]=>rfl
 | [],y::b=>by simp[Lib.compareBytes,Op.bytesLess]
 | x::a,[]=>by simp[Lib.compareBytes,Op.bytesLess]
 | x::a,y::b=>by
  have ih:=kV a b;unfold Lib.compareBytes;rw[Op.bytesLess]
  by_cases h1:x<y
  · simp[h1]
  · by_cases h2:y<x
    · have h3:(x==y)=false:=by rw[beq_eq_false_iff_ne];rintro rfl;exact h1 h2
      simp[h1,h2,h3]
    · have h3:x=y:=UInt8.le_antisymm (UInt8.not_lt.1 h2) (UInt8.not_lt.1 h1)
      subst h3;simp[h1,ih]
theorem OC:SWO (ltOf λx y:OV=>Lib.compareBytes x.1.1 y.1.1):=by
 refine⟨λx=>?_,λx y z h1 h2=>?_,λx y z h1 h2=>?_⟩
 · simp only[ltOf,kV];exact lz _
 · simp only[ltOf,kV] at *;exact fT _ _ _ h1 h2
 · simp only[ltOf,kV] at *
   have e1:=gH _ _ h1;have e2:=gH _ _ h2;rcases hz:Op.bytesLess x.1.1 z.1.1 with _|_
   · rfl
   · rw [Bool.or_eq_true] at e1 e2
     rcases e1 with e1|e1
     · rcases e2 with e2|e2
       · have:=fT _ _ _ e2 e1
         rw[iR _ _ hz] at this;exact absurd this (by simp)
       · have e2:z.1.1=y.1.1:=by simpa using e2
         rw[e2,h1] at hz;exact absurd hz (by simp)
     · have e1:y.1.1=x.1.1:=by simpa using e1
       rw[←e1,h2] at hz;exact absurd hz (by simp)
set_option maxRecDepth 4000 in
theorem Ds (x y:OV) (W:World):
 Calls Tryz.prog 66 #[.agg (kN x).toArray,.agg (kN y).toArray] W λe w'=>e=.returned (.int .i64 (Lib.compareBytes x.1.1 y.1.1))∧Gr W w':=by
 obtain⟨⟨xn,xi,xr⟩,⟨xp,xl,xc⟩,⟨xq,xm,xd⟩⟩:=x
 obtain⟨⟨yn,yi,yr⟩,⟨yp,yl,yc⟩,⟨yq,ym,yd⟩⟩:=y
 have hG:Gr W ((W.alloc (.cells #[str xn,.bool xi,.slice xp xl xc,str xr,.slice xq xm xd] 50)).alloc (.cells #[str yn,.bool yi,.slice yp yl yc,str yr,.slice yq ym yd] 50)):=((Gr.refl W).alloc _).alloc _
 have bx:=(bz (aD (.cells #[str yn,.bool yi,.slice yp yl yc,str yr,.slice yq ym yd] 50) (heap_alloc_new W (.cells #[str xn,.bool xi,.slice xp xl xc,str xr,.slice xq xm xd] 50)))).1
 have QO:=(bz (cI (w:=W.alloc (.cells #[str xn,.bool xi,.slice xp xl xc,str xr,.slice xq xm xd] 50)) (n:=W.heap.size+1) (by simp) #[str yn,.bool yi,.slice yp yl yc,str yr,.slice yq ym yd] 50)).1
 unfold kN
 dsimp only at hG bx QO ⊢
 go_enter Tryz.func66,Tryz.ntmps66
 go_wp2_with (go_at_call 67;refine(Tryz.strings_Compare ⟨xn.toArray⟩ ⟨yn.toArray⟩ _).mono ?_;rintro e w2 ⟨rfl,rfl⟩)
 go_ret
 exact⟨by simp,by first|exact hG|exact hG.drew⟩
theorem CP {D:Nat→Prop} (v:Value) (l:List aL) (B:Nat) (w:World) (cs:List Value) (hrow:w.ownsRow B 50 5 v l.length cs) (hC:bl D w cs l) (hD:∀b,D b→v.ownBlock≠some b) (ho:iq l) (hl:l.length≤100000):
 Calls Tryz.prog 65 #[v,.func (.func 66) #[] #[]] w λe w'=>e=.returned (.tuple #[])∧(∃cs,w'.ownsRow B 50 5 v (lH l).length cs∧bl D w' cs (lH l))∧w.grownBy w' v.ownBlock:=by
 have hlen:(lH l).length=l.length:=(nB l).length_eq
 rcases hrow.2 with⟨rfl,h0⟩|⟨g,cap,cur,rfl,_,_,hz1,hz2,_⟩
 · have e0:l=[]:=List.length_eq_zero_iff.1 (by omega)
   subst e0;refine(AnyF.slices_SortFunc_none Tryz.ES none 0 _ w).mono ?_;rintro e w' ⟨rfl,rfl⟩;exact⟨rfl,⟨[],World.ownsRow_nil _ _ _ _,rfl⟩,⟨rfl,rfl,rfl,nl _,λ_ _ _=>rfl⟩⟩
 obtain⟨ps,rfl,hps⟩:=hC.vals
 have G1:w.ownsRow B 50 5 (.slice (some ⟨g,0,none⟩) ps.length cap) ps.length (ps.flatMap kN):=by rw[hps];exact hrow
 have cM:=aK hrow (b:=g) rfl
 have hk:∀x:OV,(kN x).length=5:=λ_=>rfl
 have hcmp:CmpLays Tryz.prog 66 #[] kN 5 (λx y:OV=>Lib.compareBytes x.1.1 y.1.1) g 0 ps.toArray.size w:=by
  intro m os dk _ x y;refine(Ds x y _).mono ?_;rintro e w' ⟨rfl,hg⟩;exact⟨rfl,hg⟩
 have KI:=AnyQ.slices_SortFunc Tryz.ES 5 Tryz.isAgg50 Tryz.sizeOf50 kN hk (λx v hv=>by simp only[kN,List.mem_cons,List.not_mem_nil,or_false] at hv;rcases hv with rfl|rfl|rfl|rfl|rfl<;>rfl) (λx y:OV=>Lib.compareBytes x.1.1 y.1.1) OC 66 #[] g 0 cap ps.toArray w
  (enters_of Tryz.func66 (by kernel_rfl) rfl) hcmp (II hk (by decide) G1) cM (by simp;omega)
 rw[←hps]
 rw[List.size_toArray] at KI
 refine Calls.mono (show Calls Tryz.prog 65 _ w _ from KI) ?_
 rintro e w' ⟨rfl,d,n,os,⟨p1,_,p3⟩,hs,rfl⟩
 have hd:d.size=ps.length:=by simpa using p1
 have KY:d.toList.Perm ps:=by
  have e1:d.extract 0 ps.length=d:=by rw[←hd];simp
  have e2:ps.toArray.extract 0 ps.length=ps.toArray:=by simp
  rw[e1,e2] at p3
  simpa using p3
 obtain⟨nM,hg2⟩:=Gw (n:=n) (os:=os) (qs:=d.toList) hk (by decide) (by simpa using hd) G1
 have hdl:d.toList.toArray=d:=by simp
 rw[hdl] at nM hg2
 have DB:=bl.agree (w':=sortWorldK kN 5 w g 0 n d os) (λb hb hlt=>hg2.block b hlt (Ne.symm (hD b hb))) hC
 obtain⟨m,hm,hmp⟩:=DB.perm KY
 have Sw:m.Pairwise λx y=>Op.bytesLess y.name x.name=false:=by
  have h1:(d.toList.map (·.1.1)).Pairwise λa b=>Op.bytesLess b a=false:=by
   rw[List.pairwise_map,List.pairwise_iff_getElem];intro i j hi hj hij;have:=hs i j (Nat.zero_le _) hij (by simp at hj ⊢;omega);simp only[ltOf,kV] at this;simp only[Array.length_toList] at hi hj
   simpa[hi,hj] using this
  rw[←hm.names,List.pairwise_map] at h1;exact h1
 obtain rfl:m=lH l:=ET ho hmp Sw
 refine⟨rfl,⟨_,by rw[hlen,←hps];exact nM,?_⟩,hg2⟩
 exact hm
end Go.Proofs.YtakgjcfkdemipaaGreatDoor
