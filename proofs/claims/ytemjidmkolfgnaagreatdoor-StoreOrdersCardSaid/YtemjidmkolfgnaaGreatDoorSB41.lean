/-
  Lemmas for the statement: contract of the package store: Put. Conditions: bounds of lengths; the variable strings.asciiSpace.
-/
import Derived.Test.YtemjidmkolfgnaaGreatDoorSBn
import Derived.Test.YtemjidmkolfgnaaGreatDoorSB40
set_option maxHeartbeats 12800000
namespace Go.Proofs.YtemjidmkolfgnaaGreatDoor
section
open Go Go.RowKit Go.Maps
def iy (us:List (List UInt8×az)) (n:List UInt8):List (List UInt8):=gH (bS us n)
def nA (us:List (List UInt8×az)) (n:List UInt8):List (List UInt8):=(iy us n).filter λo=>decide (n∈bS us o)
def uN (us:List (List UInt8×az)) (done:List (List UInt8)) (n:List UInt8):Bool:=(iy us n).all λo=>decide (n∈bS us o)||decide (o∈done)
def oe (us:List (List UInt8×az)) (done:List (List UInt8)) (n:List UInt8):Bool:= !decide (n∈done)&&uN us done n
def iz (us:List (List UInt8×az)):Nat→List (List UInt8)→List (List (List UInt8))→Option (List (List (List UInt8)))
 | f,done,out=>if us.length≤done.length then some out else match f with
  | 0=>none
  | f+1=>match (bZ us).find? (oe us done) with
   | none=>none
   | some n=>iz us f ((nA us n).foldl fq done) (out++[nA us n])
theorem xh {us:List (List UInt8×az)} {f:Nat} {done:List (List UInt8)} {out:List (List (List UInt8))} (h:us.length≤done.length):iz us f done out=some out:=by
 unfold iz
 cases f<;>rw[if_pos h]
theorem xk {us:List (List UInt8×az)} {f:Nat} {done:List (List UInt8)} {out G:List (List (List UInt8))} (h:¬us.length≤done.length) (ho:iz us f done out=some G):
 ∃g n,f=g+1∧(bZ us).find? (oe us done)=some n∧iz us g ((nA us n).foldl fq done) (out++[nA us n])=some G:=by
 unfold iz at ho
 cases f with
 | zero=>rw[if_neg h] at ho;cases ho
 | succ g=>
  rw[if_neg h] at ho;simp only at ho;split at ho
  · cases ho
  · rename_i n hn
    exact⟨g,n,rfl,hn,ho⟩
theorem oI (us : List (List UInt8 × az)) : ∀ (f : Nat) (out : List (List UInt8)) (n : List UInt8), (∀ x ∈ out, (aq us x).isSome = true) → ∀ x ∈ cD us f out n, (aq us x).isSome = true
 | 0,_,_,h=>h
 | f + 1, out, n, h => by
  unfold cD;split
  · exact h
  · rename_i u hu
    split
    · exact h
    · refine kz (λo=>∀x∈o,(aq us x).isSome=true) (λo n ho=>oI us f o n ho) _ _ λx hx=>?_
      rcases List.mem_append.1 hx with hx|hx
      · exact h x hx
      · rw[List.mem_singleton.1 hx,hu]
        rfl
theorem wM {us:List (List UInt8×az)} {n x:List UInt8} (h:x∈bS us n):(aq us x).isSome=true:=oI us _ [] n (λx h=>by cases h) x h
theorem qs (us:List (List UInt8×az)) (n:List UInt8):(bS us n).length≤us.length:=by
 have:=mh us (us.length+1) [] n (by rw[qH];simp)
 unfold bS
 omega
def IL (w:World) (tm:Nat) (us:List (List UInt8×az)) (ss:List (List UInt8)):Prop:=
 ∃TL:List (List UInt8×Nat),TL.map (·.1)=ss∧aQ w tm (TL.map λx=>(x.1,.map (some x.2)))∧∀x∈TL,aQ w x.2 (fO (bS us x.1))∧tm+1<x.2
theorem IL.below {w w':World} {tm K:Nat} {us:List (List UInt8×az)} {ss:List (List UInt8)} (h:IL w tm us ss) (hb:Below K w w') (hK:w.heap.size≤K):IL w' tm us ss:=by
 obtain⟨TL,h1,h2,h3⟩:=h
 exact⟨TL,h1,h2.below hb hK,λx hx=>⟨(h3 x hx).1.below hb hK,(h3 x hx).2⟩⟩
def fU (w:World) (b:Nat):Prop:=∃cs fl,w.heap[b]? =some (.cells cs 9 fl)
theorem fU.keep {w w':World} {b:Nat} (h:fU w b) (hb:w'.heap[b]? =w.heap[b]?):fU w' b:=by
 obtain⟨cs,fl,e⟩:=h
 exact⟨cs,fl,hb.trans e⟩
theorem SS.QO {w:World} {base:Nat} {v:Value} {ss:List (List UInt8)} (h:w.ownsRow base 9 1 v ss.length (aA ss)) (hl:∀s∈ss,s.length≤maxLen):SS (λb=>base≤b∧fU w b) w v ss:=by
 obtain⟨p,c,e1,e2,e3,e4,e5⟩:=SS.row h rfl hl
 refine⟨p,c,e1,e2,e3,e4,?_⟩
 rcases e5 with e5|⟨b,o,rfl,g1,g2,g3⟩
 · exact .inl e5
 · refine .inr ⟨b,o,rfl,⟨g1,?_⟩,g2,g3⟩
   rcases h.2 with⟨q,_⟩|⟨g,cap,cur,q,_,hh,_⟩
   · rw[q] at e1
     cases e1
   · rw[q] at e1
     injection e1 with e1;injection e1 with e1;injection e1 with e1;subst e1;exact⟨_,_,hh⟩
def Rows (w:World) (B:Nat) (D:Nat→Prop) (v:Value) (G:List (List (List UInt8))):Prop:=
 ∃GL:List (List (List UInt8)×Value),GL.map (·.1)=G∧w.ownsRow B 31 1 v GL.length (GL.map (·.2))∧∀x∈GL,SS (λb=>D b∧fU w b) w x.2 x.1
theorem Rows.shape {w:World} {B:Nat} {D:Nat→Prop} {v:Value} {G:List (List (List UInt8))} (h:Rows w B D v G):∃p c,v=.slice p G.length c:=by
 obtain⟨GL,h1,h2,_⟩:=h
 obtain⟨p,c,e⟩:=aJ h2
 exact⟨p,c,by rw[e,←h1,List.length_map]⟩
theorem Rows.below {w w':World} {B K:Nat} {D:Nat→Prop} {v:Value} {G:List (List (List UInt8))} (h:Rows w B D v G) (hb:Below K w w') (hK:w.heap.size≤K):Rows w' B D v G:=by
 obtain⟨GL,h1,h2,h3⟩:=h
 exact⟨GL,h1,aT h2 hb hK,λx hx=>((h3 x hx).fresh.below hb hK).mono λb hbb=>⟨hbb.1.1,hbb.1.2.keep (hb.block b (Nat.lt_of_lt_of_le hbb.2 hK))⟩⟩
theorem Rows.mono {w:World} {B B':Nat} {D D':Nat→Prop} {v:Value} {G:List (List (List UInt8))} (h:Rows w B D v G) (hB:B'≤B) (hD:∀b,D b→D' b):Rows w B' D' v G:=by
 obtain⟨GL,h1,h2,h3⟩:=h
 exact⟨GL,h1,ef h2 hB,λx hx=>(h3 x hx).mono λb hb=>⟨hD b hb.1,hb.2⟩⟩
theorem z6 {α:Type} {P:α→Bool}:∀{l:List α} {i:Nat} {x n:α},l[i]? =some x→P x=true→(∀j y,j<i→l[j]? =some y→P y=false)→l.find? P=some n→n=x
 | [],_,_,_,h,_,_,_=>by simp at h
 | a::l,0,x,n,h,hx,_,hf=>by
  simp only[List.getElem?_cons_zero,Option.some.injEq] at h;subst h;rw[List.find?_cons_of_pos hx] at hf;exact(Option.some.inj hf).symm
 | a::l,i+1,x,n,h,hx,hn,hf=>by
  rw[List.getElem?_cons_succ] at h;rw[List.find?_cons_of_neg (by rw[hn 0 a (by omega) rfl];decide)] at hf;exact z6 h hx (λj y hj hy=>hn (j+1) y (by omega) (by rw[List.getElem?_cons_succ];exact hy)) hf
theorem FV {α:Type} {P:α→Bool} {l:List α} {n:α} (h:l.find? P=some n):∃i:Nat,l[i]? =some n∧P n=true:=by
 obtain⟨i,hi⟩:=List.mem_iff_getElem?.1 (List.mem_of_find?_eq_some h)
 exact⟨i,hi,List.find?_some h⟩
theorem IL.get {w:World} {tm:Nat} {us:List (List UInt8×az)} {ss:List (List UInt8)} (h:IL w tm us ss) {n:List UInt8} (hn:n∈ss) (hl:n.length≤maxLen):
 ∃m,(∀W,W.heap[tm]? =w.heap[tm]? →(Instr.lookup 35 (.map (some tm)) (str n) false).run Tryz.prog W=.ok (.map (some m)) W)∧aQ w m (fO (bS us n)):=by
 obtain⟨TL,h1,h2,h3⟩:=h
 have hs:(aq TL n).isSome=true:=bJ.2 (by rw[h1];exact hn)
 obtain⟨m,hm⟩:=Option.isSome_iff_exists.1 hs
 refine⟨m,λW hW=>?_,(h3 _ (eS hm)).1⟩
 have h4:=(h2.of_block hW).get hl Tryz.underlying35 (z:=.map none) (by kernel_rfl)
 rw[dD (λx:Nat=>(.map (some x):Value)),hm] at h4
 exact h4
theorem zv {w:World} {m:Nat} {S:List (List UInt8)} (h:aQ w m (fO S)) {k:List UInt8} (hk:k.length≤maxLen):(Instr.lookup 42 (.map (some m)) (str k) false).run Tryz.prog w=.ok (.bool (decide (k∈S))) w:=by
 have h4:=h.get hk Tryz.underlying42 (z:=.bool false) (by kernel_rfl)
 rw[lT] at h4
 by_cases hq:k∈S
 · rw[if_pos hq] at h4
   rw[h4,decide_eq_true hq]
   rfl
 · rw[if_neg hq] at h4
   rw[h4,decide_eq_false hq]
   rfl
theorem Rows.kept {w w':World} {B m:Nat} {D:Nat→Prop} {v:Value} {G:List (List (List UInt8))} (h:Rows w B D v G) (hg:w.grownBy w' (some m)) (hm:∃es c,w.heap[m]? =some (.map es c)):Rows w' B D v G:=by
 obtain⟨GL,h1,h2,h3⟩:=h
 obtain⟨es,c,hm⟩:=hm
 refine⟨GL,h1,aG h2 λb hb=>hg.block b (aW h2 hb) (λe=>?_),λx hx=>?_⟩
 · injection e with e
   subst e;rcases h2.2 with⟨q,_⟩|⟨g,cap,cur,q,_,hh,_⟩
   · rw[q] at hb;cases hb
   · rw[q] at hb
     simp only[Value.ownBlock,Option.some.injEq] at hb;subst hb;rw[hm] at hh;cases hh
 · have key:∀b,fU w b→b<w.heap.size→w'.heap[b]? =w.heap[b]? :=λb hb hl=>hg.block b hl (λe=>by
    injection e with e;subst e;obtain⟨cs,fl,hq⟩:=hb;rw[hm] at hq;cases hq)
   exact((h3 x hx).fresh.agree λb hb hl=>key b hb.1.2 hl).mono λb hb=>⟨hb.1.1,hb.1.2.keep (key b hb.1.2 hb.2)⟩
theorem Rows.push {w w':World} {B:Nat} {D:Nat→Prop} {v v' x:Value} {GL:List (List (List UInt8)×Value)} {g:List (List UInt8)} (g2:w.ownsRow B 31 1 v GL.length (GL.map (·.2))) (g3:∀y∈GL,SS (λb=>D b∧fU w b) w y.2 y.1) (hx:SS (λb=>D b∧fU w b) w x g) (o:Obj) (hg:(w.alloc o).grownBy w' v.ownBlock) (h5:w'.ownsRow B 31 1 v' (GL.length+1) (GL.map (·.2)++[x])):Rows w' B D v' (GL.map (·.1)++[g]):=by
 have key:∀b,fU w b→b<w.heap.size→w'.heap[b]? =w.heap[b]? :=λb hb hl=>(hg.block b (by simp;omega) (λe=>by
  obtain⟨cs,fl,hq⟩:=hb;rcases g2.2 with⟨q,_⟩|⟨g',cap,cur,q,_,hh,_⟩
  · rw[q] at e;cases e
  · rw[q] at e
    simp only[Value.ownBlock,Option.some.injEq] at e;subst e;rw[hq] at hh;exact absurd (fI hh) (by decide))).trans (((zb w).alloc zr o).block b hl)
 have Bu:∀{u:Value} {l:List (List UInt8)},SS (λb=>D b∧fU w b) w u l→SS (λb=>D b∧fU w' b) w' u l:=λh=>(h.fresh.agree λb hb hl=>key b hb.1.2 hl).mono λb hb=>⟨hb.1.1,hb.1.2.keep (key b hb.1.2 hb.2)⟩
 refine⟨GL++[(g,x)],by rw[List.map_append];rfl,?_,λy hy=>?_⟩
 · rw[List.map_append,List.length_append]
   exact h5
 · rcases List.mem_append.1 hy with hy|hy
   · exact Bu (g3 y hy)
   · rw[List.mem_singleton.1 hy]
     exact Bu hx
theorem nw:∀(l S:List (List UInt8)),(l.foldl fq S).length≤S.length+l.length
 | [],S=>nl _
 | a::l,S=>by
  have h1:=nw l (fq S a);have h2:=zzq S a;rw[List.foldl_cons,List.length_cons];omega
theorem El:(Tryz.prog.info? 31).map (λi=>(i.zero,i.size,i.bytes))=some (some (.slice none 0 0),1,24):=by kernel_rfl
set_option maxRecDepth 8000 in
theorem zA {R : Nat → Prop} {sb mu : Nat} {us : List (List UInt8 × az)} {G : List (List (List UInt8))} {f : Nat} (w : World) (h : tJ R w sb mu us) (hnl : ∀ n, (aq us n).isSome = true → n.length ≤ maxLen) (hG : iz us f [] [] = some G) (hf : f ≤ 10000) :
 Calls Tryz.prog 14 #[.pointer (some ⟨sb,0,none⟩)] w λe w'=>∃v,e=.returned v∧Rows w' w.heap.size (λb=>w.heap.size≤b) v G∧Below w.heap.size w w':=by
 have hmm:=@run_makeMap Tryz.prog
 have hc:=h.cell
 have Fv:=h.wX
 obtain⟨UL,h1,h2,_⟩:=h.units
 have hnd:(us.map (·.1)).Nodup:=by
  have:=h2.nd;rw[List.map_map] at this;rw[←h1,List.map_map];exact this
 have hkeys:(UL.map λx=>(x.1,x.2.2)).map (·.1)=us.map (·.1):=by
  rw[←h1,List.map_map,List.map_map]
  rfl
 have hA:=(zb w).alloc zr (.map #[] 0)
 have hM:=aQ.made w
 have PK:=Below.keep hA hc
 have La:=h2.below hA zr
 have hlen:=h.len
 go_enter Tryz.func14,Tryz.ntmps14
 go_wp2_with (at_range;refine fF rfl _ rfl Tryz.underlying106 rfl La ?_;intro w0 qg vU hs0)
 have hb0:Below w.heap.size w w0:=hA.grown vU hA.size (λb e=>by cases e)
 have Ki:=hM.kept vU (λe=>by cases e)
 have yE:(w.alloc (.map #[] 0)).heap.size=w.heap.size+1:=by simp
 rw[yE] at qg hs0
 rw[hkeys] at qg
 simp only[yE]
 clear hA hM PK La vU yE hmm
 generalize Pd:(UL.map λx=>(x.1,x.2.2))=LL at *
 clear Pd
 generalize Fm:w.heap.size=M at *
 replace Fm:=zh Fm
 replace hG:=zh hG
 go_frame
 go_loopw [24] (λ_ wx=>∃S ss,mq wx mu (M+1) LL S∧(ss++S).Perm (us.map (·.1))∧IL wx M us ss∧Below M w wx∧M+1<wx.heap.size) (λ_ wx=>wx.rangeLeft mu (M+1))
 case atStart=>exact⟨_,[],qg,.refl _,⟨[],rfl,Ki,λx hx=>by cases hx⟩,hb0,by omega⟩
 case round =>
  obtain⟨S,ss,xU,hp,hT,cN,Jf⟩:=hrel;have CI:=(hp.nodup_iff).2 hnd;go_wp2_with (at_next;refine gw rfl _ rfl rfl xU ?_ ?_)
  · rintro rfl
    rw[List.append_nil] at hp;have hk2:∀n,(aq us n).isSome=true→n∈ss:=λn hn=>hp.mem_iff.2 (bJ.1 hn)
    have hmm:=@run_makeMap Tryz.prog;have NP:M≤wr.heap.size:=by omega
    have hA:=(zb wr).alloc zr (.map #[] 0);have hD:=aQ.made wr;have Ud:=hT.below hA zr;have z7:=cN.trans (aa hA NP);have MJ:wr.heap.size<(wr.alloc (.map #[] 0)).heap.size:=by simp
    have Fk:Below wr.heap.size wr (wr.alloc (.map #[] 0)):=hA;clear xU hp CI Ud hA;go_wp2_with fail;clear hmm;generalize wr.alloc (.map #[] 0)=W2 at *;generalize hM2:wr.heap.size=M2 at *
    replace hM2:=zh hM2
    have hG:=hG.out
    go_loopg [6] f (λg v wx=>∃(done:List (List UInt8)) (O:List (List (List UInt8))),aQ wx M2 (fO done)∧done.length≤3000∧Rows wx (M2+1) (λb=>M2<b) v O∧iz us g done O=some G∧Below M2 wr wx∧M2<wx.heap.size∧g+O.length≤f)
    case atStart=>exact⟨[],[],hD,by simp,⟨[],rfl,World.ownsRow_nil _ _ _ _,λx hx=>by cases hx⟩,hG,Fk,MJ,nl _⟩
    case round =>
     clear hG hD Fk MJ z7;obtain⟨done,O,OE,hdl,hO,DW,fc,hz1,hfu⟩:=hrel;have RW:=hT.below fc (Nat.le_of_eq hM2.out);have hBw:Below w.heap.size w wr:=by rw[Fm.out];exact cN.trans (aa fc NP)
     have hx:=h.below hBw zr;have DH:=hx.cell;have hdr:=(Below.refl wr.heap.size wr).drew;have hl1:∀W,Below wr.heap.size wr W→∀ty,(Builtin.len_ #[42] ty #[.map (some M2)]).run Tryz.prog W=.ok (.int .i64 done.length) W:=λW hW ty=>by
      rw[(OE.below hW zr).len Tryz.underlying42 ty,fP]
     have hl2:∀W,Below wr.heap.size wr W→∀ty,(Builtin.len_ #[106] ty #[.map (some mu)]).run Tryz.prog W=.ok (.int .i64 us.length) W:=λW hW ty=>M7 Tryz.underlying106 (hx.below hW zr).units ty
     have l1:=hl1 wr (zb _);have l2:=hl1 _ hdr;have l3:=hl2 wr (zb _);have l4:=hl2 _ hdr;clear hl1 hl2
     by_cases hlt:done.length<us.length
     case neg=>
      obtain rfl:O=G:=by
       have:=xh (us:=us) (f:=gk) (done:=done) (out:=O) (by omega);rw[this] at DW;exact Option.some.inj DW
      have hq:¬(done.length:Int)<(us.length:Int):=by omega
      clear DW hlt;obtain⟨pv,cv,rfl⟩:=hO.shape;go_upto_region 10 with fail;apply mM
      · intro hone
        go_region
        all_goals exact hone
      go_wp2_with fail;go_ret;have Pe:=Fm.out;subst Pe;exact⟨_,rfl,(hO.below hdr zr).mono (by omega) (λb hb=>by have hb:M2<b:=hb;show w.heap.size≤b;omega),hBw.trans (aa hdr hBw.size)⟩
     case pos =>
      obtain⟨g,n,rfl,hfind,DX⟩:=xk (by omega) DW;have hq:(done.length:Int)<(us.length:Int):=by omega
      replace hlt:=zh hlt
      replace DX:=zh DX
      clear DW;obtain⟨p6,c6,rfl⟩:=hO.shape;go_upto_region 10 with fail;apply mM
      · intro hone
        go_region
        all_goals exact hone
      have HS:=nQ wr.drew (hx.below hdr zr).units h.len;have hcd:=Below.keep hdr DH;clear l1 l2 l3 l4;have TU:∀x∈bZ us,(aq us x).isSome=true:=λx hx=>by
       unfold bZ at hx;rw[kJ] at hx;exact bJ.2 hx
      have RJ:(bZ us).length≤1000:=by
       unfold bZ;rw[iP,List.length_map];exact h.len
      generalize bZ us=NL at *;go_wp2_with (go_at_call 53;refine HS.mono ?_;clear HS;rintro e w1 ⟨nv,rfl,hrow,aP⟩;obtain⟨pn,cn,rfl⟩:=aJ hrow);have Bh:Below wr.heap.size wr w1:=hdr.trans (aa aP hdr.size);have lQ:=fc.trans (aa Bh (Nat.le_of_lt hz1));have Lf:=OE.below Bh zr;have RL:=hO.below Bh zr;have L1:=RW.below Bh zr;have MZ:M2<w1.heap.size:=Nat.lt_of_lt_of_le hz1 Bh.size;clear OE hO RW aP DH hcd hx hdr fc hBw Bh hz1;go_loopw [6,52] (λv6 y wx=>v6=.slice p6 O.length c6∧∃i:Nat,i≤NL.length∧y=.int .i64 i∧(∀j x,j<i→NL[j]? =some x→oe us done x=false)∧Below w1.heap.size w1 wx) (λ_ y _=>NL.length - (intOf y).toNat)
      case atStart=>exact⟨rfl,0,Nat.zero_le _,by go_num,λj x h=>absurd h (Nat.not_lt_zero _),zb _⟩
      case round =>
       obtain⟨rfl,i,hi,rfl,fW,Kf⟩:=hrel;have hlt2:i<NL.length:=by
        obtain⟨i0,h0,Q3⟩:=FV hfind;have:=(List.getElem?_eq_some_iff.1 h0).1
        by_cases hc0:i<NL.length
        · exact hc0
        · have:=fW i0 n (by omega) h0
          rw[this] at Q3;cases Q3
       obtain⟨x,hx⟩:∃x,NL[i]? =some x:=⟨_,List.getElem?_eq_getElem hlt2⟩
       have hxs:=TU x (List.mem_of_getElem? hx);have hxl:=hnl x hxs;obtain⟨bn,rfl⟩:∃b,pn=some ⟨b,0,none⟩:=by
        rcases hrow.2 with⟨e,_⟩|⟨g,cap,cur,e,_⟩
        · injection e with e1 e2 e3;omega
        · injection e with e1;exact⟨g,e1⟩
       have sD:=aT hrow Kf zr;have NV:=sD.cells (g:=bn) rfl i (str x) (by unfold aA;rw[List.getElem?_map,hx];rfl);rw[eH,Nat.zero_add] at NV;have I6:=Lf.below Kf zr;have Qp:=zv I6 hxl;have h63:(i:Int)+1≤9223372036854775807:=by omega
       have sx:oe us done x=false→∀j y,j<i+1→NL[j]? =some y→oe us done y=false:=λMl j y hj hy=>by
        by_cases hji:j=i
        · subst hji
          rw[hx] at hy;cases hy;exact Ml
        · exact fW j y (by omega) hy
       by_cases Fz:x∈done
       case pos=>
        rw[decide_eq_true Fz] at Qp;have hN:=zh (sx (by unfold oe;rw[decide_eq_true Fz];rfl));clear fW sx hx Fz sD;go_wp2_with fail;exact⟨⟨rfl,i+1,hlt2,by go_num,hN.out,Kf⟩,by simp only[intOf];omega⟩
       case neg =>
        rw[decide_eq_false Fz] at Qp;have Py:=L1.below Kf zr;obtain⟨mx,hmx,hAx⟩:=Py.get (hk2 x hxs) hxl;have hmx:=hmx wr rfl;have HS:=oG wr hAx (by rw[fP];have:=qs us x;omega);rw[s5,fP] at HS;have Kj:(iy us x).length=(bS us x).length:=iP _;have Ph:∀o∈iy us x,(aq us o).isSome=true:=λo ho=>wM ((eO _).mem_iff.1 ho)
        rw[←Kj] at HS;have HS:Calls Tryz.prog 54 #[.map (some mx)] wr λe w'=>∃v,e=.returned v∧w'.ownsRow wr.heap.size 9 1 v (iy us x).length (aA (iy us x))∧Below wr.heap.size wr w':=HS
        have TW:(iy us x).length≤1000:=by rw[Kj];have:=qs us x;omega
        have hgr:nA us x=(iy us x).filter λo=>decide (x∈bS us o):=rfl
        have hrd:uN us done x=(iy us x).all λo=>decide (x∈bS us o)||decide (o∈done):=rfl
        have hgd:oe us done x=uN us done x:=by unfold oe;rw[decide_eq_false Fz];rfl
        generalize iy us x=OL at *;generalize OX:nA us x=GR at *
        replace OX:=zh OX
        generalize uN us done x=RD at *
        replace hgr:=zh hgr
        replace hrd:=zh hrd
        replace hgd:=zh hgd
        replace Kj:=zh Kj
        have Ll:=zh fW
        replace sx:=zh sx
        replace hx:=zh hx
        replace Fz:=zh Fz
        clear fW sD hAx;go_wp2_with (go_at_call 54;refine HS.mono ?_;clear HS;rintro e w2 ⟨ov,rfl,kW,bO⟩;obtain⟨po,co,rfl⟩:=aJ kW);have eV:=Kf.trans (aa bO Kf.size);have Lg:=I6.below bO zr;have F8:=Py.below bO zr;have hz2:M2<w2.heap.size:=Nat.lt_of_lt_of_le MZ eV.size;obtain⟨i0,kN,hz0,MY,M0⟩:=aV fL;clear I6 Qp Py hmx bO NV;go_loopw [9,10,64] (λv9 v10 y wx=>∃j:Nat,j≤OL.length∧y=.int .i64 j∧wx.ownsRow w2.heap.size 9 1 v9 ((OL.take j).filter λo=>decide (x∈bS us o)).length (aA ((OL.take j).filter λo=>decide (x∈bS us o)))∧v10=.bool ((OL.take j).all λo=>decide (x∈bS us o)||decide (o∈done))∧Below w2.heap.size w2 wx) (λ_ _ y _=>OL.length - (intOf y).toNat)
        case atStart=>exact⟨0,Nat.zero_le _,by go_num,World.ownsRow_nil _ _ _ _,rfl,zb _⟩
        case round =>
         obtain⟨j,hj,rfl,hgrow,rfl,Dx⟩:=hrel;have F0:=Lg.below Dx zr
         by_cases hlt3:j<OL.length
         case pos =>
          obtain⟨o,ho⟩:∃o,OL[j]? =some o:=⟨_,List.getElem?_eq_getElem hlt3⟩
          have hos:=Ph o (List.mem_of_getElem? ho);have hol:=hnl o hos;obtain⟨bo,rfl⟩:∃b,po=some ⟨b,0,none⟩:=by
           rcases kW.2 with⟨e,_⟩|⟨g,cap,cur,e,_⟩
           · injection e with e1 e2 e3;omega
           · injection e with e1;exact⟨g,e1⟩
          have Ig:=aT kW Dx zr;have PL:=Ig.cells (g:=bo) rfl j (str o) (by unfold aA;rw[List.getElem?_map,ho];rfl);rw[eH,Nat.zero_add] at PL;have ML:=zv F0 hol;obtain⟨mo,hmo,Ke⟩:=(F8.below Dx zr).get (hk2 o hos) hol;have hmo:=hmo wr rfl;have Wu:=zv Ke hxl;have OC:(j:Int)+1≤9223372036854775807:=by omega
          have hsz:=Dx.size;have hfl:(OL.take (j+1)).filter (λo=>decide (x∈bS us o))=(OL.take j).filter (λo=>decide (x∈bS us o))++if decide (x∈bS us o)=true then [o] else []:=by
           rw[List.take_add_one,ho,List.filter_append];simp only[Option.toList_some,List.filter_cons,List.filter_nil]
          have hal:(OL.take (j+1)).all (λo=>decide (x∈bS us o)||decide (o∈done))=((OL.take j).all (λo=>decide (x∈bS us o)||decide (o∈done))&&(decide (x∈bS us o)||decide (o∈done))):=by
           rw[List.take_add_one,ho,List.all_append];simp
          have Sa:((OL.take j).filter λo=>decide (x∈bS us o)).length≤1000:=Nat.le_trans (List.length_filter_le _ _) (by rw[List.length_take];omega);generalize (OL.take j).filter (λo=>decide (x∈bS us o))=FL at *;generalize (OL.take j).all (λo=>decide (x∈bS us o)||decide (o∈done))=AL at *;generalize decide (x∈bS us o)=pb at *;generalize decide (o∈done)=qb at *
          replace hfl:=zh hfl
          replace hal:=zh hal
          obtain⟨p9,c9,rfl⟩:=aJ hgrow;clear ho hos Ig Ke;rcases pb with _|_
          · have hfl:=hfl.out
            rw[if_neg (by decide),List.append_nil] at hfl
            replace hfl:=zh hfl
            rcases AL with _|_
            · go_wp2_with fail
              exact⟨⟨j+1,hlt3,by go_num,by rw[hfl.out];exact hgrow,by rw[hal.out];rfl,Dx⟩,by simp only[intOf];omega⟩
            · go_wp2_with fail
              exact⟨⟨j+1,hlt3,by go_num,by rw[hfl.out];exact hgrow,by rw[hal.out];simp,Dx⟩,by simp only[intOf];omega⟩
          · have hfl:=hfl.out
            rw[if_pos rfl] at hfl
            replace hfl:=zh hfl
            go_wp2_with (at_builtin;refine wpList_append_own _ rfl _ _ 31 rfl w2.heap.size 9 i0 _ 1 16 dg kN hz0 MY M0 rfl (by decide) _ _ _ rfl (hgrow.alloc _) ⟨wr.heap.size,0,none⟩ 1 1 [str o] rfl rfl (cell_one_new _ _ _) (by intro u hu;rw[List.mem_singleton.1 hu];rfl) (by unfold maxLen;omega) (by omega) (by simp;omega) ?_;intro v' w5 wh qa _);have lR:=(Dx.alloc hsz (.cells #[str o] 9)).grown qa (by simp;omega) (λb e=>(hgrow.lt b e).1);exact⟨⟨j+1,hlt3,by go_num,by rw[hfl.out];simpa[aA] using wh,by rw[hal.out];simp,lR⟩,by simp only[intOf];omega⟩
         case neg =>
          obtain rfl:j=OL.length:=by omega
          rw[List.take_length,←hgr.out] at hgrow;rw[List.take_length,←hrd.out];have Wm:GR.length≤1000:=by rw[hgr.out];exact Nat.le_trans (List.length_filter_le _ _) TW
          obtain⟨p9,c9,rfl⟩:=aJ hgrow;clear Lg kW;rcases RD with _|_
          · have hN:=zh (sx.out hgd.out)
            go_wp2_with fail;exact⟨⟨rfl,i+1,hlt2,by go_num,hN.out,eV.trans (aa Dx eV.size)⟩,by simp only[intOf];omega⟩
          · have hnx:n=x:=z6 hx.out hgd.out Ll.out hfind
            subst hnx;go_wp2_with fail;have Rs:∀o∈GR,o.length≤maxLen:=λo ho=>by
             rw[hgr.out] at ho;exact hnl o (Ph o (List.mem_filter.1 ho).1)
            have RP:=RL.below (eV.trans (aa Dx eV.size)) zr;have Mv:=aQ.map F0;have iw:=Dx.size;clear hgr hrd hgd Kj Ll sx hx Fz Ph F8 RL Lf L1;go_loopw [88] (λy wx=>∃j:Nat,j≤GR.length∧y=.int .i64 j∧aQ wx M2 (fO ((GR.take j).foldl fq done))∧wr.grownBy wx (some M2)) (λy _=>GR.length - (intOf y).toNat)
            case atStart=>exact⟨0,Nat.zero_le _,by go_num,F0,rfl,rfl,rfl,nl _,λ_ _ _=>rfl⟩
            case round=>
             obtain⟨j,hj,rfl,FZ,Kw⟩:=hrel;have Jw:=aG hgrow (λb e=>Kw.block b (aW hgrow e) (λe2=>by injection e2 with e2;have:=(hgrow.lt b e).1;omega))
             by_cases hlt5:j<GR.length
             case pos=>
              obtain⟨o,ho⟩:∃o,GR[j]? =some o:=⟨_,List.getElem?_eq_getElem hlt5⟩
              have hol:=Rs o (List.mem_of_getElem? ho);obtain⟨bg,rfl⟩:∃b,p9=some ⟨b,0,none⟩:=by
               rcases hgrow.2 with⟨e,_⟩|⟨g,cap,cur,e,_⟩
               · injection e with e1 e2 e3;omega
               · injection e with e1;exact⟨g,e1⟩
              have PL:=Jw.cells (g:=bg) rfl j (str o) (by unfold aA;rw[List.getElem?_map,ho];rfl);rw[eH,Nat.zero_add] at PL;have hfo:(GR.take (j+1)).foldl fq done=fq ((GR.take j).foldl fq done) o:=by
               rw[List.take_add_one,ho,List.foldl_append]
               rfl
              have hml:(fO ((GR.take j).foldl fq done)).length<maxLen:=by
               have:=nw (GR.take j) done;rw[List.length_take] at this;rw[fP];unfold maxLen;omega
              have OC:(j:Int)+1≤9223372036854775807:=by omega
              generalize (GR.take j).foldl fq done=DJ at *
              replace hfo:=zh hfo
              clear ho Jw;go_wp2_with (at_mapUpdate;refine iq rfl _ _ _ rfl Tryz.underlying42 FZ hml (f:=.bool true) rfl rfl rfl hol ?_;intro w6 CA MO);rw[nP] at CA;exact⟨⟨j+1,hlt5,by go_num,by rw[hfo.out];exact CA,Kw.trans MO.grown⟩,by simp only[intOf];omega⟩
             case neg=>
              obtain rfl:j=GR.length:=by omega
              rw[List.take_length] at FZ;have TX:=RP.kept Kw Mv;obtain⟨GL,g1,g2,g3⟩:=TX;subst g1;obtain⟨i1,hi1,hy0,hy1,hy2⟩:=aV El;have Wy:=Kw.size;have TN:GL.length≤100000:=by rw[List.length_map] at hfu;omega
              have hss:=(SS.QO Jw Rs).mono (D':=λb=>M2<b∧fU wr b) λb hb=>⟨by have:=hb.1;omega,hb.2⟩
              have PN:(GR.foldl fq done).length≤3000:=by
               have:=nw GR done;have:=hlt.out;omega
              have TD:=eV.trans (aa Dx eV.size);have hBg:=(lQ.trans (aa TD (Nat.le_of_lt MZ))).grown Kw (by omega) (λb e=>by injection e with e;omega);clear RP F0 hgrow Kw;go_wp2_with (at_builtin;refine wpList_append_own _ rfl _ _ 29 rfl (M2+1) 31 i1 _ 1 24 Tryz.underlying29 hi1 hy0 hy1 hy2 rfl (by decide) _ _ _ rfl (g2.alloc _) ⟨wr.heap.size,0,none⟩ 1 1 [.slice p9 GR.length c9] rfl rfl (cell_one_new _ _ _) (by intro u hu;rw[List.mem_singleton.1 hu];rfl) (by unfold maxLen;omega) (by omega) (by simp;omega) ?_;intro v' w5 wh qa _);have Pn:=Rows.push g2 g3 hss (.cells #[.slice p9 GR.length c9] 31) qa wh;have lR:Below M2 _ w5:=(hBg.alloc (by omega) (.cells #[.slice p9 GR.length c9] 31)).grown qa (by simp;omega) (λb e=>by have:=(g2.lt b e).1;omega);have QC:=qa.size;have OG:aQ w5 M2 (fO (GR.foldl fq done)):=(FZ.below ((zb wr).alloc zr (.cells #[.slice p9 GR.length c9] 31)) zr).of_block (qa.block M2 (by have:=FZ.lt;simp;omega) (λe=>by have:=(g2.lt M2 e.symm).1;omega))
              go_roundg g
              case measure=>exact Nat.lt_succ_self g
              case rel=>exact⟨GR.foldl fq done,_,OG,PN,Pn,by have q:=DX.out;rw[OX.out] at q;exact q,lR,by simp at QC;omega,by rw[List.length_append,List.length_map];rw[List.length_map] at hfu;simp only[List.length_cons,List.length_nil];omega⟩
  · intro k v0 w3 hk hlk sA yC hg3 sF hlt Bj
    have JE:=jf hp hk;have cK:Below M w w3:=cN.grown hg3 (by omega) (λb e=>by cases e;omega);have PI:Below w.heap.size w w3:=by rw[Fm.out];exact cK
    have h3:=h.below PI zr;have Kr:=h3.cell;have HL:=BA k sA w3 h3;have NS:M+1<w3.heap.size:=by omega
    obtain⟨TL,t1,t2,t3⟩:=hT;have t2:=t2.of_block (w':=w3) (hg3.block M t2.lt (λe=>by injection e with e;omega));have hkn:k∉ss:=λhks=>by
     have:=List.nodup_append.1 CI;exact this.2.2 k hks k hk rfl
    have hnone:aq (TL.map λx=>(x.1,(.map (some x.2):Value))) k=none:=by
     rcases hq:aq (TL.map λx=>(x.1,(.map (some x.2):Value))) k with _|v
     · trivial
     · exfalso
       have h5:(aq (TL.map λx=>(x.1,(.map (some x.2):Value))) k).isSome=true:=by rw[hq];rfl
       rw[bJ,List.map_map] at h5;exact hkn (t1▸h5)
    have hss:ss.length≤us.length:=by
     have:=hp.length_eq;rw[List.length_append,List.length_map] at this;omega
    have F9:(TL.map λx=>(x.1,(.map (some x.2):Value))).length<maxLen:=by
     rw[List.length_map,←List.length_map (λx:List UInt8×Nat=>x.1),t1];unfold maxLen;omega
    have VC:∀x∈TL,aQ w3 x.2 (fO (bS us x.1))∧M+1<x.2:=λx hx=>by
     refine⟨(t3 x hx).1.of_block ?_,(t3 x hx).2⟩;refine hg3.block _ (t3 x hx).1.lt (λe=>?_);injection e with e;have:=(t3 x hx).2;omega
    clear sF hg3 xU cN t3 hlk hp CI;go_wp2_with (first
     | (go_at_call 52;refine HL.mono ?_;clear HL;rintro e w5 ⟨m5,rfl,FY,Wq,oo⟩;have t5:=t2.below oo zr)
     | (at_mapUpdate;refine iq rfl _ _ _ rfl Tryz.underlying35 t5 F9 (f:=.map (some m5)) rfl rfl rfl sA ?_;intro w6 CA MO))
    go_frame
    have HH:=MO.grown;have hne:∀b,b≠M→b<w5.heap.size→w6.heap[b]? =w5.heap[b]? :=λb hb hl=>HH.block b hl (λe=>by injection e with e;exact hb e)
    have hs5:=oo.size;have D8:=HH.size;have e1:w6.heap[mu]? =w3.heap[mu]? :=(hne mu (by omega) (by omega)).trans (oo.block mu (by omega));have e2:w6.heap[M+1]? =w3.heap[M+1]? :=(hne (M+1) (by omega) (by omega)).trans (oo.block (M+1) (by omega));have hput:eN (TL.map λx=>(x.1,(.map (some x.2):Value))) k (.map (some m5))=(TL++[(k,m5)]).map λx=>(x.1,(.map (some x.2):Value)):=by
     unfold eN;rw[hnone,if_neg (by decide),List.map_append]
     rfl
    rw [hput] at CA;have Uc : IL w6 M us (ss ++ [k]) := ⟨TL ++ [(k, m5)], by rw [List.map_append, t1]; rfl, CA, fun x hx => by
     rcases List.mem_append.1 hx with hx|hx
     · obtain⟨g1,g2⟩:=VC x hx
       exact⟨(g1.below oo zr).of_block (hne _ (by omega) (by have:=g1.lt;omega)),g2⟩
     · rw[List.mem_singleton.1 hx]
       exact⟨FY.of_block (hne _ (by omega) FY.lt),by show M+1<m5;omega⟩⟩
    have I7:=(cK.trans (aa oo (by omega))).grown HH (by omega) (λb e=>by injection e with e;omega);refine⟨⟨_,_,_,_,_,_,_,_,_,_,_,_,⟨_,ss++[k],yC.of_block e1 e2,JE,Uc,I7,by omega⟩,rfl⟩,?_⟩
    show World.rangeLeft _ mu (M+1)<World.rangeLeft _ mu (M+1)
    rw[gu e1 e2];exact hlt
end
section
open Go Go.RowKit
set_option maxRecDepth 8000 in
theorem uP {D E : Nat → Prop} (a b : List (List UInt8)) (v u : Value) (w : World) (hv : SS D w v a) (hu : SS E w u b) :
 Calls Tryz.prog 92 #[v,u] w λe w'=>e=.returned (.bool (decide (a=b)))∧Below w.heap.size w w':=by
 obtain⟨r,hr⟩:∃r,decide (a=b)=r:=⟨_,rfl⟩
 rw[hr]
 replace hr:=zh hr
 obtain⟨pv,cv,rfl,_,ha,_⟩:=hv.shape
 obtain⟨pu,cu,rfl,_,hb,_⟩:=hu.shape
 unfold maxLen at ha hb
 by_cases hl:a.length=b.length
 case neg=>
  obtain rfl:r=false:=by
   rw[←hr.out,decide_eq_false_iff_not];exact λe=>hl (by rw[e])
  have hq:((a.length:Int)==(b.length:Int))=false:=by rw[beq_eq_false_iff_ne];omega
  clear hr hl;go_enter Tryz.func92,Tryz.ntmps92;go_wp2_with fail;go_ret;exact⟨rfl,zb _⟩
 case pos =>
  have hq:((a.length:Int)==(b.length:Int))=true:=by simp[hl]
  have KC:((a.length:Int) != (b.length:Int))=false:=by simp[bne,hq]
  replace hl:=zh hl
  go_enter Tryz.func92,Tryz.ntmps92;go_wp2_with fail;go_loopw [5] (λy wx=>∃i:Nat,i≤a.length∧y=.int .i64 i∧Below w.heap.size w wx∧a.take i=b.take i) (λy _=>a.length - (intOf y).toNat)
  case atStart=>exact⟨0,Nat.zero_le _,by go_num,zb _,rfl⟩
  case round=>
   obtain⟨i,hi,rfl,cN,hk⟩:=hrel
   by_cases hlt:i<a.length
   case neg=>
    obtain rfl:i=a.length:=by omega
    obtain rfl:r=true:=by
     rw[←hr.out,decide_eq_true_eq];rw[List.take_length,hl.out,List.take_length] at hk;exact hk
    clear hr hk;go_wp2_with fail;go_ret;exact⟨rfl,cN⟩
   case pos =>
    obtain⟨g,hg⟩:∃g,a[i]? =some g:=⟨_,List.getElem?_eq_getElem hlt⟩
    obtain⟨h,hh⟩:∃h,b[i]? =some h:=⟨_,List.getElem?_eq_getElem (by have:=hl.out;omega)⟩
    obtain⟨b1,o1,rfl,_,d0⟩:=(hv.below cN zr).at hg;obtain⟨b2,o2,rfl,_,e0⟩:=(hu.below cN zr).at hh;have hil:(i:Int)<(a.length:Int):=by omega
    have DO:(i:Int)<(b.length:Int):=by have:=hl.out;omega
    have h63:(i:Int)+1≤9223372036854775807:=by omega
    have hkk:a.take (i+1)=a.take i++[g]∧b.take (i+1)=b.take i++[h]:=by
     rw[List.take_add_one,List.take_add_one,hg,hh];exact⟨rfl,rfl⟩
    have hno:g≠h→r=false:=λhn=>by
     rw[←hr.out,decide_eq_false_iff_not];rintro rfl;rw[hg] at hh;exact hn (Option.some.inj hh)
    clear hg hh;have hdr:=(Below.refl wr.heap.size wr).drew;have d1:=Below.keep hdr d0;have e1:=Below.keep hdr e0;have Ri:=cN.trans (aa hdr cN.size)
    by_cases hgh:g=h
    · have hk2:=zh (show a.take (i+1)=b.take (i+1) by rw[hkk.1,hkk.2,hk,hgh])
      have UT:(g==h)=true:=by simp[hgh]
      have US:(g != h)=false:=by simp[hgh]
      clear hno hgh hkk hk;go_upto_region 6 with fail;apply mM
      · intro hone
        go_region
        all_goals exact hone
      go_wp2_with fail;exact⟨⟨i+1,hlt,by go_num,Ri,hk2.out⟩,by simp only[intOf];omega⟩
    · obtain rfl:=hno hgh
      have UT:(g==h)=false:=by simp[hgh]
      have US:(g != h)=true:=by simp[hgh]
      clear hno hgh hkk hk;go_upto_region 6 with fail;apply mM
      · intro hone
        go_region
        all_goals exact hone
      go_wp2_with fail;go_ret;exact⟨rfl,Ri⟩
theorem gZ {D E:Nat→Prop} (a b:List (List UInt8)) (v u:Value) (w:World) (hv:SS D w v a) (hu:SS E w u b):
 Calls Tryz.prog 51 #[v,u] w λe w'=>e=.returned (.bool (decide (a=b)))∧Below w.heap.size w w':=by
 have HQ:=uP a b v u w hv hu
 obtain⟨p,c,rfl,_⟩:=hv.shape
 obtain⟨q,d,rfl,_⟩:=hu.shape
 generalize decide (a=b)=r at *
 go_enter Tryz.func51,Tryz.ntmps51
 go_wp2_with (go_at_call 92;refine HQ.mono ?_;clear HQ;rintro e w1 ⟨rfl,hb⟩)
 go_ret
 exact⟨rfl,hb⟩
def oK (w:World) (v:Value) (G:List (List (List UInt8))):Prop:=
 ∃GL:List (List (List UInt8)×Value),GL.map (·.1)=G∧CV (λ_=>True) w v (GL.map (·.2))∧∀x∈GL,SS (λ_=>True) w x.2 x.1
theorem Rows.read {w:World} {B:Nat} {D:Nat→Prop} {v:Value} {G:List (List (List UInt8))} (h:Rows w B D v G):oK w v G:=by
 obtain⟨GL,h1,h2,h3⟩:=h
 exact⟨GL,h1,CV.eZ (by rw[List.length_map];exact h2) (λ_ _=>trivial),λx hx=>(h3 x hx).mono λ_ _=>trivial⟩
theorem oK.below {w w':World} {v:Value} {K:Nat} {G:List (List (List UInt8))} (h:oK w v G) (hb:Below K w w') (hK:w.heap.size≤K):oK w' v G:=by
 obtain⟨GL,h1,h2,h3⟩:=h
 exact⟨GL,h1,h2.below hb hK,λx hx=>(h3 x hx).below hb hK⟩
theorem oK.shape {w:World} {v:Value} {G:List (List (List UInt8))} (h:oK w v G):∃p c,v=.slice p G.length c:=by
 obtain⟨GL,h1,h2,_⟩:=h
 obtain⟨p,c,e,_⟩:=h2.shape
 exact⟨p,c,by rw[e,←h1,List.length_map,List.length_map]⟩
theorem oK.at {w:World} {p:Option Addr} {n c:Nat} {G:List (List (List UInt8))} (h:oK w (.slice p n c) G) {j:Nat} {g:List (List UInt8)} (hj:G[j]? =some g):∃b o x,p=some ⟨b,o,none⟩∧w.cell? ⟨b,o+j,none⟩=some x∧SS (λ_=>True) w x g:=by
 obtain⟨GL,h1,h2,h3⟩:=h
 subst h1
 rw[List.getElem?_map,Option.map_eq_some_iff] at hj
 obtain⟨y,hy,rfl⟩:=hj
 obtain⟨b,o,e,_,hc⟩:=h2.at (k:=j) (x:=y.2) (by rw[List.getElem?_map,hy];rfl)
 exact⟨b,o,y.2,e,hc,h3 y (List.mem_of_getElem? hy)⟩
set_option maxRecDepth 8000 in
theorem rO (a b:List (List (List UInt8))) (v u:Value) (w:World) (hv:oK w v a) (hu:oK w u b) (ha:a.length≤100000) (hb:b.length≤100000):
 Calls Tryz.prog 49 #[v,u] w λe w'=>e=.returned (.bool (decide (a=b)))∧Below w.heap.size w w':=by
 obtain⟨r,hr⟩:∃r,decide (a=b)=r:=⟨_,rfl⟩
 rw[hr]
 replace hr:=zh hr
 obtain⟨pv,cv,rfl⟩:=hv.shape
 obtain⟨pu,cu,rfl⟩:=hu.shape
 have HY:=enters_of Tryz.func51 (by kernel_rfl) rfl
 by_cases hl:a.length=b.length
 case neg=>
  obtain rfl:r=false:=by
   rw[←hr.out,decide_eq_false_iff_not];exact λe=>hl (by rw[e])
  have hq:((a.length:Int)==(b.length:Int))=false:=by rw[beq_eq_false_iff_ne];omega
  clear hr hl;go_enter Tryz.func49,Tryz.ntmps49;go_wp2_with fail;go_ret;exact⟨rfl,zb _⟩
 case pos =>
  have hq:((a.length:Int)==(b.length:Int))=true:=by simp[hl]
  have KC:((a.length:Int) != (b.length:Int))=false:=by simp[bne,hq]
  replace hl:=zh hl
  go_enter Tryz.func49,Tryz.ntmps49;go_wp2_with fail;go_loopw [5] (λy wx=>∃i:Nat,i≤a.length∧y=.int .i64 i∧Below w.heap.size w wx∧a.take i=b.take i) (λy _=>a.length - (intOf y).toNat)
  case atStart=>exact⟨0,Nat.zero_le _,by go_num,zb _,rfl⟩
  case round =>
   obtain⟨i,hi,rfl,cN,hk⟩:=hrel
   by_cases hlt:i<a.length
   case neg=>
    obtain rfl:i=a.length:=by omega
    obtain rfl:r=true:=by
     rw[←hr.out,decide_eq_true_eq];rw[List.take_length,hl.out,List.take_length] at hk;exact hk
    clear hr hk;go_wp2_with fail;go_ret;exact⟨rfl,cN⟩
   case pos=>
    obtain⟨g,hg⟩:∃g,a[i]? =some g:=⟨_,List.getElem?_eq_getElem hlt⟩
    obtain⟨h,hh⟩:∃h,b[i]? =some h:=⟨_,List.getElem?_eq_getElem (by have:=hl.out;omega)⟩
    obtain⟨b1,o1,x,rfl,d0,hx⟩:=(hv.below cN zr).at hg;obtain⟨b2,o2,y,rfl,e0,hy⟩:=(hu.below cN zr).at hh;obtain⟨px,cx,rfl,right⟩:=hx.shape;obtain⟨py,cy,rfl,right_1⟩:=hy.shape;have hil:(i:Int)<(a.length:Int):=by omega
    have DO:(i:Int)<(b.length:Int):=by have:=hl.out;omega
    have h63:(i:Int)+1≤9223372036854775807:=by omega
    have hkk:a.take (i+1)=a.take i++[g]∧b.take (i+1)=b.take i++[h]:=by
     rw[List.take_add_one,List.take_add_one,hg,hh];exact⟨rfl,rfl⟩
    have hno:g≠h→r=false:=λhn=>by
     rw[←hr.out,decide_eq_false_iff_not];rintro rfl;rw[hg] at hh;exact hn (Option.some.inj hh)
    clear hg hh
    replace hkk:=zh hkk
    replace hk:=zh hk
    go_upto_region 6 with fail;refine dW (S:=λ_ w'=>Below wr.heap.size wr w') (A:=λj v=>match j with
     | 0=>v=.slice (some ⟨b1,o1,none⟩) a.length cv
     | 1=>v=.int .i64 (i:Int)
     | 2=>v=.pointer (some ⟨b1,o1+i,none⟩)
     | 3=>v=.slice px g.length cx
     | 4=>v=.slice (some ⟨b2,o2,none⟩) b.length cu
     | 5=>v=.int .i64 (i:Int)
     | 6=>v=.pointer (some ⟨b2,o2+i,none⟩)
     | 7=>v=.slice py h.length cy
     | 8=>v=.bool (decide (g=h))
     | 9=>v=.bool (!decide (g=h))
     | _=>True) (by kernel_rfl) (by kernel_rfl) (by kernel_rfl) (zb wr).drew ⟨?_,?_,?_,?_,?_,?_,?_,?_,?_,?_,trivial⟩ ?_
    · exact fh (λ_ _ h=>h) rfl λlisted a' wx hS aC hout=>by
       have e1:a'.eval (.tmp 0)=.slice (some ⟨b1,o1,none⟩) a.length cv:=(hout 0 (bG (by kernel_rfl))).trans rfl;unfold execOp;simp only[e1];simp[go_sem]
    · exact fh (λ_ _ h=>h) rfl λlisted a' wx hS aC hout=>by
       have e1:a'.eval (.tmp 5)=.int .i64 (i:Int):=(hout 5 (bG (by kernel_rfl))).trans rfl;unfold execOp;simp only[e1];simp[go_sem]
    · exact fh (λ_ _ h=>h) rfl λlisted a' wx hS aC hout=>by
       have e1:a'.eval (.tmp 17)=.slice (some ⟨b1,o1,none⟩) a.length cv:=aC 0 17 (by kernel_rfl) rfl;have e2:a'.eval (.tmp 18)=.int .i64 (i:Int):=aC 1 18 (by kernel_rfl) rfl;unfold execOp;simp only[e1,e2];simp[go_sem,hil]
    · exact fh (λ_ _ h=>h) rfl λlisted a' wx hS aC hout=>by
       have e1:a'.eval (.tmp 19)=.pointer (some ⟨b1,o1+i,none⟩):=aC 2 19 (by kernel_rfl) rfl;have c:=Below.keep hS d0;unfold execOp;simp only[e1];simp[go_sem,c]
    · exact fh (λ_ _ h=>h) rfl λlisted a' wx hS aC hout=>by
       have e1:a'.eval (.tmp 1)=.slice (some ⟨b2,o2,none⟩) b.length cu:=(hout 1 (bG (by kernel_rfl))).trans rfl;unfold execOp;simp only[e1];simp[go_sem]
    · exact fh (λ_ _ h=>h) rfl λlisted a' wx hS aC hout=>by
       have e1:a'.eval (.tmp 5)=.int .i64 (i:Int):=(hout 5 (bG (by kernel_rfl))).trans rfl;unfold execOp;simp only[e1];simp[go_sem]
    · exact fh (λ_ _ h=>h) rfl λlisted a' wx hS aC hout=>by
       have e1:a'.eval (.tmp 21)=.slice (some ⟨b2,o2,none⟩) b.length cu:=aC 4 21 (by kernel_rfl) rfl;have e2:a'.eval (.tmp 22)=.int .i64 (i:Int):=aC 5 22 (by kernel_rfl) rfl;unfold execOp;simp only[e1,e2];simp[go_sem,DO]
    · exact fh (λ_ _ h=>h) rfl λlisted a' wx hS aC hout=>by
       have e1:a'.eval (.tmp 23)=.pointer (some ⟨b2,o2+i,none⟩):=aC 6 23 (by kernel_rfl) rfl;have c:=Below.keep hS e0;unfold execOp;simp only[e1];simp[go_sem,c]
    · exact iB λlisted a' wx hsz hl hS aC hout next hnx=>by
       have e1:a'.eval (.tmp 20)=.slice px g.length cx:=aC 3 20 (by kernel_rfl) rfl;have e2:a'.eval (.tmp 24)=.slice py h.length cy:=aC 7 24 (by kernel_rfl) rfl;refine ki (R:=λuu w'=>uu=.bool (decide (g=h))∧Below wx.heap.size wx w') rfl HY e1 e2 ((gZ g h _ _ wx (hx.below hS zr) (hy.below hS zr)).mono λe w' hh=>⟨_,hh.1,rfl,hh.2⟩) λu w' hu=>hnx u w' hu.1 (hS.trans (aa hu.2 hS.size))
    · exact fh (λ_ _ h=>h) rfl λlisted a' wx hS aC hout=>by
       have e1:a'.eval (.tmp 25)=.bool (decide (g=h)):=aC 8 25 (by kernel_rfl) rfl;unfold execOp;simp only[e1];simp[go_sem]
    intro a4 w4 hdf iw Ia ⟨listed,hall,hS⟩ jv;have SC:=jv 9 _ 26 rfl rfl;rw[dO hdf iw Ia];simp only[JW,pz,pw];rw[SC];clear hdf iw Ia jv hall SC;generalize a4.tmps.getD 17 undef=z17 at *;generalize a4.tmps.getD 18 undef=z18 at *;generalize a4.tmps.getD 19 undef=z19 at *;generalize a4.tmps.getD 20 undef=z20 at *;generalize a4.tmps.getD 21 undef=z21 at *;generalize a4.tmps.getD 22 undef=z22 at *;generalize a4.tmps.getD 23 undef=z23 at *;generalize a4.tmps.getD 24 undef=z24 at *;generalize a4.tmps.getD 25 undef=z25 at *;have jN:=cN.trans (aa hS cN.size)
    by_cases hgh:g=h
    · have hk2:=zh (show a.take (i+1)=b.take (i+1) by rw[hkk.out.1,hkk.out.2,hk.out,hgh])
      rw[decide_eq_true hgh];clear hno hgh hx hy d0 e0 DO hkk hk hv hu right right_1;simp only[Bool.not_true];go_wp2_with fail;exact⟨⟨i+1,hlt,by go_num,jN,hk2.out⟩,by simp only[intOf];omega⟩
    · obtain rfl:=hno hgh
      rw[decide_eq_false hgh];clear hno hgh hx hy d0 e0 DO hkk hk hv hu right right_1;simp only[Bool.not_false];go_wp2_with fail;go_ret;exact⟨rfl,jN⟩
def dP (name:List UInt8) (arg:Bool):List UInt8:=[112,114,111,99,32]++name++[10,111,112,32]++name++(if arg then [32,112,114,111,99,40,105,110,116,41,10] else [32,112,114,111,99,40,41,10])
set_option maxRecDepth 8000 in
theorem gy (name:List UInt8) (arg:Bool) (w:World) (hn:name.length≤1000):
 Calls Tryz.prog 50 #[str name,.bool arg] w λe w'=>e=.returned (str (dP name arg))∧Below w.heap.size w w':=by
 cases arg
 · go_enter Tryz.func50,Tryz.ntmps50
   go_wp2_with fail;go_ret;exact⟨by simp[dP],zb _⟩
 · go_enter Tryz.func50,Tryz.ntmps50
   go_wp2_with fail;go_ret;exact⟨by simp[dP],zb _⟩
end
open Go Go.RowKit Go.Maps
theorem Fr.lt {R:Nat→Prop} {w:World} {b:Nat} (h:Fr R w b):b<w.heap.size:=by
 obtain⟨⟨x,h1,_⟩,_⟩:=h
 exact aj h1
theorem gA.lt {R:Nat→Prop} {w:World} {mu ml:Nat} {L:bh} (h:gA R w mu ml L):gA (λb=>R b∧b<w.heap.size) w mu ml L:=by
 obtain⟨⟨U,h1,h2,h3⟩,h4,h5,h6⟩:=h
 exact⟨⟨U,h1,h2,λx hx=>(h3 x hx).mono λb hb=>⟨hb.1,hb.2,hb.lt⟩⟩,h4,h5,h6⟩
theorem bq.lt {R:Nat→Prop} {B:Nat} {w:World} {l:Loc} {L:bh} {at_:Nat} (h:bq R B w l L at_):bq (λb=>R b∧b<w.heap.size) B w l L at_:=⟨h.head,h.lib.lt,h.log,h.pP,h.hB,h.room⟩
theorem M9 {w:World} {a b:Nat} {cs ds:Array Value} {t u:TypeId} {f g:Nat×Nat} (h1:w.heap[a]? =some (.cells cs t f)) (h2:w.heap[b]? =some (.cells ds u g)) (h:t≠u):a≠b:=λe=>by
 subst e
 rw[h1] at h2
 cases h2
 exact h rfl
theorem bq.grown {R:Nat→Prop} {B r:Nat} {w w':World} {l:Loc} {L:bh} {at_:Nat} {cs:Array Value} {t:TypeId} {fl:Nat×Nat} (h:bq R B w l L at_) (hg:w.grownBy w' (some r)) (hr:¬R r) (hrow:w.heap[r]? =some (.cells cs t fl)) (ht:t≠111∧t≠133∧t≠145∧t≠147∧t≠198):bq R B w' l L at_:=by
 have key:∀{b:Nat},b<w.heap.size→b≠r→w'.heap[b]? =w.heap[b]? :=λhb hne=>hg.block _ hb (λe=>hne (by injection e))
 have qp:∀{b:Nat} {ds:Array Value} {u:TypeId} {g:Nat×Nat},w.heap[b]? =some (.cells ds u g)→u≠t→w'.heap[b]? =w.heap[b]? :=λe hu=>key (aj e) (M9 e hrow hu)
 have M6:∀{b:Nat} {es:Array MapEntry} {c:Nat},w.heap[b]? =some (.map es c)→w'.heap[b]? =w.heap[b]? :=λe=>key (aj e) (λe2=>by subst e2;rw[hrow] at e;cases e)
 obtain⟨ds,hl⟩:=h.log
 obtain⟨⟨U,h1,h2,h3⟩,h4,h5,h6⟩:=h.lib
 obtain⟨pv,S,hM,k⟩:=h.pP
 obtain⟨_,_,Fv⟩:=h2.map
 obtain⟨_,_,hml⟩:=aQ.map h4
 refine⟨(qp h.head (λe=>ht.1 e.symm)).trans h.head,⟨⟨U,h1,h2.of_block (M6 Fv),λx hx=>?_⟩,h4.of_block (M6 hml),h5,h6⟩,⟨ds,hl.of_block (qp hl.head (λe=>ht.2.2.2.2 e.symm))⟩,⟨pv,S,hM.agree λb hb=>?_,k⟩,h.hB,h.room⟩
 · have hne:∀b,Fr R w b→w'.heap[b]? =w.heap[b]? :=λb hb=>key hb.lt (λe=>hr (e▸hb.2))
   exact((h3 x hx).agree λb hb _=>hne b hb).mono λb hb=>hb.keep (hne b hb)
 · rcases hb with rfl|rfl|rfl|hb
   · exact qp hM.head (λe=>ht.2.1 e.symm)
   · exact qp hM.iY (λe=>ht.2.2.1 e.symm)
   · exact qp hM.now (λe=>ht.2.2.1 e.symm)
   · rcases hM.pend.2 with⟨e,_⟩|⟨g',cap,cur,e,_,tZ,_⟩
     · rw[e] at hb;cases hb
     · rw[e] at hb
       simp only[Value.ownBlock,Option.some.injEq] at hb;subst hb;exact qp tZ (λe=>ht.2.2.2.1 e.symm)
theorem KW.grown {B mu ml r:Nat} {w w1 w2:World} (h:KW B mu ml w w1) (hg:w1.grownBy w2 (some r)) (hr:w.heap.size≤r) (hB:B≤w.heap.size):KW B mu ml w w2:=
 ⟨h.cV.grown hg (Nat.le_trans hB h.cV.size) (λk e=>by injection e with e;omega),λb x e ho=>(hg.block b (Nat.lt_of_lt_of_le (aj e) h.cV.size) (λe2=>by injection e2 with e2;have:=aj e;omega)).trans (h.keep b x e ho)⟩
def II (R:Nat→Prop) (B:Nat) (w:World) (l:Loc) (L:bh) (at_:Nat) (name src text:List UInt8) (uses:List (List UInt8)) (e:Ending) (w':World):Prop:=
 (if jg L name src text uses=0 then e=.returned (.tuple #[.int .i64 (((aq L.last name).getD 0+1:Nat):Int),.int .i64 0])∧bq (RO R w.heap.size) B w' l (ep L name src text (aU 44 uses)) (at_+bV (kH name src text uses).length)
 else e=.returned (.tuple #[.int .i64 0,.int .i64 (jg L name src text uses:Int)])∧bq R B w' l L at_)∧KW B l.mu l.ml w w'
theorem mC (w:World) (o1 o2 o3 o4 o5:Obj):∃W,((((w.alloc o1).alloc o2).alloc o3).alloc o4).alloc o5=W∧Below w.heap.size w W∧W.heap.size=w.heap.size+5∧W.heap[w.heap.size]? =some o1∧W.heap[w.heap.size+1]? =some o2∧W.heap[w.heap.size+1+1]? =some o3∧W.heap[w.heap.size+1+1+1]? =some o4∧W.heap[w.heap.size+1+1+1+1]? =some o5:=by
 have e1:=heap_alloc_new w o1
 have e2:=heap_alloc_new (w.alloc o1) o2
 have e3:=heap_alloc_new ((w.alloc o1).alloc o2) o3
 have e4:=heap_alloc_new (((w.alloc o1).alloc o2).alloc o3) o4
 have e5:=heap_alloc_new ((((w.alloc o1).alloc o2).alloc o3).alloc o4) o5
 simp only[World.size_alloc] at e2 e3 e4 e5
 refine⟨_,rfl,((((((zb w).alloc zr _).alloc (by simp) _).alloc (by simp;omega) _).alloc (by simp;omega) _).alloc (by simp;omega) _),by simp,?_,?_,?_,?_,e5⟩
 · exact aK o5 (aK o4 (aK o3 (aK o2 e1)))
 · exact aK o5 (aK o4 (aK o3 e2))
 · exact aK o5 (aK o4 e3)
 · exact aK o5 e4
set_option maxRecDepth 8000 in
theorem xB {R D:Nat→Prop} {B:Nat} {l:Loc} {L:bh} {at_:Nat} (name src text:List UInt8) (uses:List (List UInt8)) (v:Value) (w:World) (hv:SS D w v uses) (hS:bq R B w l L at_) (ht:gx w) (hm:fe w) (lN:0<B) (hP:Hf L at_ l.dn name src text uses):
 Calls Tryz.prog 21 #[.pointer (some ⟨l.sb,0,none⟩),str name,str src,str text,v] w (II R B w l L at_ name src text uses):=by
 have Kz:∀(fn:Fn) (first cap:Array Value) (w:World),(Instr.makeFunc fn first cap).run Tryz.prog w=.ok (.func fn first cap) w:=λ_ _ _ _=>rfl
 obtain⟨pu,cu,rfl,_⟩:=hv.shape
 obtain⟨W5,rC,oo,QC,g0,g1,g2,g3,g4⟩:=mC w (.cells #[.pointer (some ⟨l.sb,0,none⟩)] 26) (.cells #[str name] 9) (.cells #[str src] 9) (.cells #[str text] 9) (.cells #[.slice pu uses.length cu] 31)
 have c0:=(af g0 0).trans rfl
 have c1:=(af g1 0).trans rfl
 have mm:B≤w.heap.size:=Nat.le_trans hS.hB.1 (Nat.le_of_lt (aj hS.head))
 have rE:=oo.alloc (by omega) (.cells #[.int .i64 0] 49)
 have Ja:lC W5 (w.heap.size+1) (w.heap.size+1+1) (w.heap.size+1+1+1+1) (w.heap.size+1+1+1) w.heap.size l.sb name src text (.slice pu uses.length cu):=⟨g1,g2,g4,g3,g0⟩
 have CA:=(zb W5).alloc zr (.cells #[.int .i64 0] 49)
 have ME:=heap_alloc_new W5 (.cells #[.int .i64 0] 49)
 have HP:=ES name src text uses (W5.alloc (.cells #[.int .i64 0] 49)) (Ja.below CA zr) (hv.below rE zr) (hS.lt.below rE zr mm) (ht.below rE zr) (hm.below rE) lN hP
 have HT:=tr (enters_of Tryz.func57 (by kernel_rfl) rfl) (λE w1=>tI (λb=>R b∧b<w.heap.size) B (W5.alloc (.cells #[.int .i64 0] 49)) l L at_ name src text uses E w1) W5 (HP.mono λe w1 ⟨E,h1,h2⟩=>⟨⟨E,h1,h2⟩,h2.2.2.row ME (by decide)⟩)
 clear HP
 go_enter Tryz.func21,Tryz.ntmps21
 go_upto_region 4 with(first
  | (go_at_call 56;refine HT.mono ?_;clear HT;rintro e w2 ⟨E,w1,rfl,hQ,hg⟩))
 obtain⟨hE,Fp,hK⟩:=hQ
 have hr1:w1.heap[W5.heap.size]? =some (.cells #[.int .i64 0] 49 (0,0)):=hK.row ME (by decide)
 have Jb:KW B l.mu l.ml w w2:=((KW.ai rE zr mm).trans hK).grown hg (by omega) mm
 replace hE:=zh hE
 clear rC c0 c1 Kz
 by_cases h0:E=0
 case neg=>
  rw[if_neg h0] at Fp;have jO:=(Fp.grown hg (λh=>by have:=h.2;omega) hr1 (by decide)).mono (R':=R) λb hb=>hb.1
  have hq:((E:Int)==0)=false:=by rw[beq_eq_false_iff_ne];omega
  have h0:=zh h0;clear Fp hK hg;go_wp2_with fail;go_ret2;unfold II;rw[←hE.out,if_neg h0.out];exact⟨⟨rfl,jO⟩,Jb⟩
 case pos=>
  subst h0;rw[if_pos rfl] at Fp;have jO:=(Fp.grown hg (λh=>h.elim (λh=>by have:=h.2;omega) (λh=>by simp at h;omega)) hr1 (by decide)).mono (R':=RO R w.heap.size) λb hb=>by
   rcases hb with hb|hb
   · exact .inl hb.1
   · refine .inr ?_
     simp at hb;omega
  have kk:∀{b:Nat} {cs:Array Value} {t:TypeId},W5.heap[b]? =some (.cells cs t (0,0))→(t≠133∧t≠145∧t≠147∧t≠198)→w2.heap[b]? =some (.cells cs t (0,0)):=λ{b cs t} e ht2=>by
   have e6:=hK.row (aK (.cells #[.int .i64 0] 49) e) ht2;exact(hg.block b (aj e6) (λe2=>by injection e2 with e2;have:=aj e;omega)).trans e6
  have k0:=(af (kk g0 (by decide)) 0).trans rfl;have k1:=(af (kk g1 (by decide)) 0).trans rfl;have hd:=(af jO.head 0).trans rfl;have v8:aq (ep L name src text (aU 44 uses)).units name=some ⟨name,(aq L.last name).getD 0+1,src,text,qV (aU 44 uses),false,[],[]⟩:=by
   unfold ep;rw[kG,if_pos rfl]
  obtain⟨vu,hlk,oP⟩:=jO.lib.units.iL (k:=name) (by have:=hP.ln;unfold maxLen;omega);rw[v8] at oP;obtain⟨ua,uc,ud,rfl,_,kO,nH,nI⟩:=oP;obtain⟨q1,q2,rfl,_⟩:=kO.shape;obtain⟨q3,q4,rfl,_⟩:=nH.shape;obtain⟨q5,q6,rfl,_⟩:=nI.shape;have j1:=hlk w2 false rfl;have j2:=hlk w2.drew false rfl;have Wk:∀(x0 x1 x2 x3 x4 x5 x6 x7:Value) (W:World),(Instr.field 41 (.agg #[x0,x1,x2,x3,x4,x5,x6,x7]) 1).run Tryz.prog W=.ok x1 W:=λ_ _ _ _ _ _ _ _ _=>rfl
  clear Fp kk hlk kO nH nI hK hg v8;generalize hn:(aq L.last name).getD 0+1=n at *
  replace hn:=zh hn
  go_upto_region 6 with fail;apply mM
  · intro hone
    go_region
    all_goals exact hone
  go_wp2_with fail;go_ret2;unfold II;have hdr:=(Below.refl w2.heap.size w2).drew;have Lr:=Nat.le_trans mm Jb.cV.size;rw[←hE.out,if_pos rfl,hn.out];exact⟨⟨rfl,jO.below hdr zr Lr⟩,Jb.trans (KW.ai hdr zr Lr)⟩
end Go.Proofs.YtemjidmkolfgnaaGreatDoor
