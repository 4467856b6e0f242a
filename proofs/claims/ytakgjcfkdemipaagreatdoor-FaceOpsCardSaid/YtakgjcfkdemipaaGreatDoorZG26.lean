/-
  Lemmas for the statement: rows of operations of the call's own, sorted by slices.SortFunc. No condition.
-/
import Derived.Shelf.SlSortCmp.NoneTotal
import Derived.Test.YtakgjcfkdemipaaGreatDoorZGn
import Derived.Test.YtakgjcfkdemipaaGreatDoorZG19
import Derived.Test.YtakgjcfkdemipaaGreatDoorZG25
set_option maxHeartbeats 3200000
namespace Go.Proofs.YtakgjcfkdemipaaGreatDoor
open Go.RowKit Go.Sort Go.Shelf
section
variable {α:Type} [Inhabited α] {enc:α→List Value} {k:Nat}
theorem wT (hk:∀x,(enc x).length=k) (h0:0<k):∀(ps:List α) (t:Nat),t<ps.length * k→(ps.flatMap enc)[t]? =some ((enc ps.toArray[t / k]!)[t % k]!)
 | [],t,h=>by simp at h
 | x :: ps, t, h => by
  rw[List.flatMap_cons]
  by_cases ht:t<k
  · rw[List.getElem?_append_left (by rw[hk];exact ht),Nat.div_eq_of_lt ht,Nat.mod_eq_of_lt ht]
    have:(x::ps).toArray[0]! =x:=by simp
    rw[this,List.getElem?_eq_getElem (by rw[hk];exact ht),List.getElem!_eq_getElem?_getD,List.getElem?_eq_getElem (by rw[hk];exact ht)]
    rfl
  · have hl:t - k<ps.length * k:=by rw[List.length_cons,Nat.succ_mul] at h;omega
    rw[List.getElem?_append_right (by rw[hk];omega),hk,wT hk h0 ps (t - k) hl];have h1:(t - k) % k=t % k:=(Nat.mod_eq_sub_mod (by omega)).symm;have h2:t / k=(t - k) / k+1:=Nat.div_eq_sub_div h0 (by omega);have h3:(x::ps).toArray[(t - k) / k+1]! =ps.toArray[(t - k) / k]! :=by
     simp only[List.getElem!_toArray,List.getElem!_eq_getElem?_getD,List.getElem?_cons_succ]
    rw[h1,h2,h3]
omit [Inhabited α] in
theorem wU (hk:∀x,(enc x).length=k) (ps:List α):(ps.flatMap enc).length=ps.length * k:=by
 induction ps with
 | nil=>simp
 | cons x ps ih=>rw[List.flatMap_cons,List.length_append,ih,hk,List.length_cons,Nat.succ_mul];omega
theorem Af (hk:∀x,(enc x).length=k) (h0:0<k) (ps:List α):flatK enc k ps.toArray=(ps.flatMap enc).toArray:=by
 apply Array.ext_getElem?
 intro t
 by_cases ht:t<ps.length * k
 · have h2:(ps.flatMap enc).toArray[t]? =some ((enc ps.toArray[t / k]!)[t % k]!):=by rw[List.getElem?_toArray];exact wT hk h0 ps t ht
   rw[h2];simp[flatK,ht]
 · rw[Array.getElem?_eq_none (by simp;omega),Array.getElem?_eq_none (by rw[List.size_toArray,wU hk];omega)]
theorem NF (hk:∀x,(enc x).length=k) (h0:0<k) {e:TypeId} {W:World} {base g cap:Nat} {ps:List α} (h:W.ownsRow base e k (.slice (some ⟨g,0,none⟩) ps.length cap) ps.length (ps.flatMap enc)):HoldsK enc k W g 0 ps.toArray:=by
 unfold HoldsK
 rw[Af hk h0]
 intro j hj
 have hj':j<(ps.flatMap enc).length:=by simpa using hj
 have hc:=h.cells (g:=g) rfl j _ (List.getElem?_eq_getElem hj')
 rw[show(⟨g,0,none⟩:Addr).add j=⟨g,0+j,none⟩ from by unfold Addr.add;simp;omega] at hc
 refine⟨?_,?_⟩
 · rw[hc];simp[List.getElem?_eq_getElem hj']
 · rcases h.2 with⟨h',_⟩|⟨g',cap',cur,h',_,hh,_⟩
   · cases h'
   · cases h'
     exact aC hh _
theorem Lm (hk:∀x,(enc x).length=k) (h0:0<k) {e:TypeId} {W:World} {base g cap n:Nat} {os:Array Obj} {ps qs:List α} (hl:qs.length=ps.length) (h:W.ownsRow base e k (.slice (some ⟨g,0,none⟩) ps.length cap) ps.length (ps.flatMap enc)):
 (sortWorldK enc k W g 0 n qs.toArray os).ownsRow base e k (.slice (some ⟨g,0,none⟩) ps.length cap) ps.length (qs.flatMap enc)∧W.grownBy (sortWorldK enc k W g 0 n qs.toArray os) (some g):=by
 rcases h.2 with⟨h',_⟩|⟨g',cap',cur,h',hb,hh,h1,h2,h3,h4⟩
 · cases h'
 cases h'
 have dZ:g<W.heap.size:=(Array.getElem?_eq_some_iff.1 hh).1
 have hF:flatK enc k qs.toArray=(qs.flatMap enc).toArray:=Af hk h0 qs
 have hheap:(sortWorldK enc k W g 0 n qs.toArray os).heap[g]? =some (.cells (putCells id 0 (qs.flatMap enc).toArray cur) e (0,0)):=by
  unfold sortWorldK putRowK;rw[hF,heap_grow_old _ _ (by simpa using dZ)];simp[putRow,mapBlock,Sort.ahead,Array.getElem?_modify,hh,onCells]
 have Zy:(qs.flatMap enc).length=ps.length * k:=by rw[wU hk,hl]
 have hmul:ps.length * k≤cap * k:=Nat.mul_le_mul_right k h1
 refine⟨⟨by rw[Zy],.inr ⟨g,cap,_,rfl,hb,hheap,h1,h2,by simp[putCells,h3],?_⟩⟩,?_⟩
 · clear hheap hF
   generalize qs.flatMap enc=Q at *;apply List.ext_getElem?;intro j
   by_cases hj:j<ps.length * k
   · rw[List.getElem?_take_of_lt hj,Array.getElem?_toList]
     have Zb:j<cur.size:=by rw[h3];omega
     have hjq:j<Q.length:=by omega
     simp[putCells,Zb,hjq]
   · rw[List.getElem?_take_eq_none (by omega),List.getElem?_eq_none (by omega)]
 · unfold sortWorldK putRowK
   refine⟨rfl,rfl,rfl,by simp,λj hj hne=>?_⟩;rw[heap_grow_old _ _ (by simpa using hj)];have:g≠j:=λe=>hne (by rw[e])
   simp[putRow,mapBlock,Sort.ahead,Array.getElem?_modify,this]
end
abbrev OV:=(List UInt8×Bool×List UInt8)×(Option Addr×Nat×Nat)×(Option Addr×Nat×Nat)
def mO (x:OV):List Value:=[str x.1.1,.bool x.1.2.1,.slice x.2.1.1 x.2.1.2.1 x.2.1.2.2,str x.1.2.2,.slice x.2.2.1 x.2.2.2.1 x.2.2.2.2]
theorem bN.vals {D:Nat→Prop} {w:World}:∀{l:List aG} {cs:List Value},bN D w cs l→∃ps:List OV,cs=ps.flatMap mO∧ps.length=l.length
 | [],_,h=>⟨[],h,rfl⟩
 | x::l,_,⟨a,s,r,h1,_,h2,h3,h4⟩=>by
  obtain⟨ps,hps,hl⟩:=bN.vals h4;obtain⟨p,c,rfl,_⟩:=h2.shape;obtain⟨q,d,rfl,_⟩:=h3.shape;exact⟨((x.name,x.sig.iter,x.sig.res),(p,_,c),(q,_,d))::ps,by rw[h1,hps];rfl,by simp[hl]⟩
theorem bN.zx {D:Nat→Prop} {w:World} {p:OV} {r:List Value} {l:List aG} (h:bN D w (mO p++r) l):∃x l',l=x::l'∧(∀{k:List aG} {ds:List Value},bN D w ds k→bN D w (mO p++ds) (x::k))∧bN D w r l'∧x.name=p.1.1:=by
 cases l with
 | nil=>exact absurd h (by simp[bN,mO])
 | cons x l=>
  obtain⟨a,s,r',h1,h0,h2,h3,h4⟩:=h;simp only[mO,List.cons_append,List.nil_append,List.cons.injEq] at h1;obtain⟨e1,e2,e3,e4,e5,rfl⟩:=h1;refine⟨x,l,rfl,λ{k ds} hk=>⟨a,s,ds,?_,h0,h2,h3,hk⟩,h4,(encStr_inj e1).symm⟩;simp only[mO,List.cons_append,List.nil_append];rw[e1,e2,e3,e4,e5]
theorem bN.perm {D:Nat→Prop} {w:World} {qs ps:List OV} (hp:qs.Perm ps):∀{l:List aG},bN D w (ps.flatMap mO) l→∃m,bN D w (qs.flatMap mO) m∧m.Perm l:=by
 induction hp with
 | nil=>exact λh=>⟨_,h,List.Perm.refl _⟩
 | cons p _ ih=>
  intro l h;rw[List.flatMap_cons] at h;obtain⟨x,l',rfl,hx,h',_⟩:=h.zx;obtain⟨m,hm,Zw⟩:=ih h';exact⟨x::m,by rw[List.flatMap_cons];exact hx hm,Zw.cons x⟩
 | swap p q t=>
  intro l h;rw[List.flatMap_cons,List.flatMap_cons] at h;obtain⟨x,l',rfl,hx,h',_⟩:=h.zx;obtain⟨y,l'',rfl,hy,h'',_⟩:=h'.zx;exact⟨y::x::l'',by rw[List.flatMap_cons,List.flatMap_cons];exact hy (hx h''),List.Perm.swap x y l''⟩
 | trans _ _ ih1 ih2=>
  intro l h;obtain⟨m,hm,h1⟩:=ih2 h;obtain⟨m',hm',h2⟩:=ih1 hm;exact⟨m',hm',h2.trans h1⟩
theorem bN.names {D:Nat→Prop} {w:World}:∀{qs:List OV} {m:List aG},bN D w (qs.flatMap mO) m→m.map (·.name)=qs.map (·.1.1)
 | [],[],_=>rfl
 | [],_::_,⟨_,_,_,h,_⟩=>by simp at h
 | p::qs,m,h=>by
  rw[List.flatMap_cons] at h;obtain⟨x,l',rfl,_,h',hn⟩:=h.zx;rw[List.map_cons,List.map_cons,hn,bN.names h']
theorem ng:∀a b:List UInt8,decide (Lib.compareBytes a b<0)=Op.bytesLess a b
 | [],[]=>rfl
 | [],y::b=>by simp[Lib.compareBytes,Op.bytesLess]
 | x::a,[]=>by simp[Lib.compareBytes,Op.bytesLess]
 | x::a,y::b=>by
  have ih:=ng a b;unfold Lib.compareBytes;rw[Op.bytesLess]
  by_cases h1:x<y
  · simp[h1]
  · by_cases h2:y<x
    · have h3:(x==y)=false:=by rw[beq_eq_false_iff_ne];rintro rfl;exact h1 h2
      simp[h1,h2,h3]
    · have h3:x=y:=UInt8.le_antisymm (UInt8.not_lt.1 h2) (UInt8.not_lt.1 h1)
      subst h3;simp[h1,ih]
theorem Vu:SWO (ltOf λx y:OV=>Lib.compareBytes x.1.1 y.1.1):=by
 refine⟨λx=>?_,λx y z h1 h2=>?_,λx y z h1 h2=>?_⟩
 · simp only[ltOf,ng];exact nD _
 · simp only[ltOf,ng] at *;exact iy _ _ _ h1 h2
 · simp only[ltOf,ng] at *
   have e1:=jc _ _ h1;have e2:=jc _ _ h2;rcases hz:Op.bytesLess x.1.1 z.1.1 with _|_
   · rfl
   · rw [Bool.or_eq_true] at e1 e2
     rcases e1 with e1|e1
     · rcases e2 with e2|e2
       · have:=iy _ _ _ e2 e1
         rw[jZ _ _ hz] at this;exact absurd this (by simp)
       · have e2:z.1.1=y.1.1:=by simpa using e2
         rw[e2,h1] at hz;exact absurd hz (by simp)
     · have e1:y.1.1=x.1.1:=by simpa using e1
       rw[←e1,h2] at hz;exact absurd hz (by simp)
set_option maxRecDepth 4000 in
theorem G6 (x y:OV) (W:World):
 Calls Tryz.prog 66 #[.agg (mO x).toArray,.agg (mO y).toArray] W λe w'=>e=.returned (.int .i64 (Lib.compareBytes x.1.1 y.1.1))∧Gr W w':=by
 obtain⟨⟨xn,xi,xr⟩,⟨xp,xl,xc⟩,⟨xq,xm,xd⟩⟩:=x
 obtain⟨⟨yn,yi,yr⟩,⟨yp,yl,yc⟩,⟨yq,ym,yd⟩⟩:=y
 have hG:Gr W ((W.alloc (.cells #[str xn,.bool xi,.slice xp xl xc,str xr,.slice xq xm xd] 50)).alloc (.cells #[str yn,.bool yi,.slice yp yl yc,str yr,.slice yq ym yd] 50)):=((Gr.refl W).alloc _).alloc _
 have bx:=(bL (aH (.cells #[str yn,.bool yi,.slice yp yl yc,str yr,.slice yq ym yd] 50) (heap_alloc_new W (.cells #[str xn,.bool xi,.slice xp xl xc,str xr,.slice xq xm xd] 50)))).1
 have XM:=(bL (dD (w:=W.alloc (.cells #[str xn,.bool xi,.slice xp xl xc,str xr,.slice xq xm xd] 50)) (n:=W.heap.size+1) (by simp) #[str yn,.bool yi,.slice yp yl yc,str yr,.slice yq ym yd] 50)).1
 unfold mO
 dsimp only at hG bx XM ⊢
 go_enter Tryz.func66,Tryz.ntmps66
 go_wp2_with (go_at_call 67;refine(Tryz.strings_Compare ⟨xn.toArray⟩ ⟨yn.toArray⟩ _).mono ?_;rintro e w2 ⟨rfl,rfl⟩)
 go_ret
 exact⟨by simp,by first|exact hG|exact hG.drew⟩
theorem Gi (v:Value) (l:List aG) (B:Nat) (w:World) (h:dU B w v l) (ho:gW l) (hl:l.length≤100000):
 Calls Tryz.prog 65 #[v,.func (.func 66) #[] #[]] w λe w'=>e=.returned (.tuple #[])∧dU B w' v (cN l)∧w.grownBy w' v.ownBlock:=by
 obtain⟨cs,hrow,hC⟩:=h
 have hlen:(cN l).length=l.length:=(jg l).length_eq
 rcases hrow.2 with⟨rfl,h0⟩|⟨g,cap,cur,rfl,_,_,hz1,hz2,_⟩
 · have e0:l=[]:=List.length_eq_zero_iff.1 (by omega)
   subst e0;refine(AnyF.slices_SortFunc_none Tryz.JD none 0 _ w).mono ?_;rintro e w' ⟨rfl,rfl⟩;exact⟨rfl,dU.nil _ _,⟨rfl,rfl,rfl,nl _,λ_ _ _=>rfl⟩⟩
 obtain⟨ps,rfl,hps⟩:=hC.vals
 have Mo:w.ownsRow B 50 5 (.slice (some ⟨g,0,none⟩) ps.length cap) ps.length (ps.flatMap mO):=by rw[hps];exact hrow
 have dZ:=aV hrow (b:=g) rfl
 have hk:∀x:OV,(mO x).length=5:=λ_=>rfl
 have hcmp:CmpLays Tryz.prog 66 #[] mO 5 (λx y:OV=>Lib.compareBytes x.1.1 y.1.1) g 0 ps.toArray.size w:=by
  intro m os dk _ x y;refine(G6 x y _).mono ?_;rintro e w' ⟨rfl,hg⟩;exact⟨rfl,hg⟩
 have QX:=AnyQ.slices_SortFunc Tryz.JD 5 Tryz.isAgg50 Tryz.sizeOf50 mO hk (λx v hv=>by simp only[mO,List.mem_cons,List.not_mem_nil,or_false] at hv;rcases hv with rfl|rfl|rfl|rfl|rfl<;>rfl) (λx y:OV=>Lib.compareBytes x.1.1 y.1.1) Vu 66 #[] g 0 cap ps.toArray w
  (enters_of Tryz.func66 (by kernel_rfl) rfl) hcmp (NF hk (by decide) Mo) dZ (by simp;omega)
 rw[←hps]
 rw[List.size_toArray] at QX
 refine Calls.mono (show Calls Tryz.prog 65 _ w _ from QX) ?_
 rintro e w' ⟨rfl,d,n,os,⟨p1,_,p3⟩,hs,rfl⟩
 have hd:d.size=ps.length:=by simpa using p1
 have Ri:d.toList.Perm ps:=by
  have e1:d.extract 0 ps.length=d:=by rw[←hd];simp
  have e2:ps.toArray.extract 0 ps.length=ps.toArray:=by simp
  rw[e1,e2] at p3
  simpa using p3
 obtain⟨qz,hg2⟩:=Lm (n:=n) (os:=os) (qs:=d.toList) hk (by decide) (by simpa using hd) Mo
 have hdl:d.toList.toArray=d:=by simp
 rw[hdl] at qz hg2
 have Hv:=bN.agree (w':=sortWorldK mO 5 w g 0 n d os) (λb hb hlt=>hg2.block b hlt (Ne.symm hb)) hC
 obtain⟨m,hm,hmp⟩:=Hv.perm Ri
 have Zx:m.Pairwise λx y=>Op.bytesLess y.name x.name=false:=by
  have h1:(d.toList.map (·.1.1)).Pairwise λa b=>Op.bytesLess b a=false:=by
   rw[List.pairwise_map,List.pairwise_iff_getElem];intro i j hi hj hij;have:=hs i j (Nat.zero_le _) hij (by simp at hj ⊢;omega);simp only[ltOf,ng] at this;simp only[Array.length_toList] at hi hj
   simpa[hi,hj] using this
  rw[←hm.names,List.pairwise_map] at h1;exact h1
 obtain rfl:m=cN l:=JE ho hmp Zx
 refine⟨rfl,⟨_,by rw[hlen,←hps];exact qz,?_⟩,hg2⟩
 exact hm
end Go.Proofs.YtakgjcfkdemipaaGreatDoor
