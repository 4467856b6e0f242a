/-
  Lemmas: contract of the reference argusref04: Write. No condition.
-/
import Derived.Test.YtakgjcfkdemipaaGreatDoorZB30
import Derived.Test.YtakgjcfkdemipaaGreatDoorZBn
import Derived.Test.YtakgjcfkdemipaaGreatDoorZT4
import Derived.Test.YtakgjcfkdemipaaGreatDoorZT7
import Derived.Test.YtakgjcfkdemipaaGreatDoorZT9
set_option maxHeartbeats 51200000
set_option maxRecDepth 8000
namespace Go.Proofs.YtakgjcfkdemipaaGreatDoor
open Go Go.RowKit
theorem vel {l:List (List UInt8)} {i:Nat} {x:List UInt8} (h:l[i]? =some x):cH (l.take (i+1))=(if i=0 then [] else cH (l.take i)++[44])++x:=by
 induction l generalizing i with
 | nil=>simp at h
 | cons a l ih=>
  cases i with
  | zero=>
   simp only[List.getElem?_cons_zero,Option.some.injEq] at h;subst h;simp[cH]
  | succ i=>
   rw[List.getElem?_cons_succ] at h;have hl:l.take (i+1)≠[]:=by
    intro e;have:=congrArg List.length e;have hi:=(List.getElem?_eq_some_iff.1 h).1;simp at this;rw[this] at hi;simp at hi
   rw[List.take_succ_cons,vat a hl,ih h,if_neg (Nat.succ_ne_zero i)];cases i with
   | zero=>simp[cH]
   | succ i=>
    have hl2:l.take (i+1)≠[]:=by
     intro e;have:=congrArg List.length e;have hi:=(List.getElem?_eq_some_iff.1 h).1;simp at this;rw[this] at hi;simp at hi
    rw[if_neg (by omega),List.take_succ_cons,vat a hl2];simp
theorem vem (l:List (List UInt8)) (i:Nat):(cH (l.take i)).length≤(cH l).length:=by
 induction l generalizing i with
 | nil=>simp
 | cons a l ih=>
  cases i with
  | zero=>simp[cH]
  | succ i=>
   rw[List.take_succ_cons]
   by_cases h1:l=[]
   · subst h1;simp
   · by_cases h2:l.take i=[]
     · rw[h2,vat a h1]
       simp[cH]
     · rw[vat a h1,vat a h2]
       have:=ih i;simp;omega
theorem vce {D:Nat→Prop} (v:Value) (l:List (List UInt8)) (w:World) (hv:SS D w v l) (hl:(cH l).length≤100000):
 Calls Tryz.prog 166 #[v] w λe w'=>e=.returned (str (cH l))∧Below w.heap.size w w':=by
 obtain⟨p,c,rfl,_⟩:=hv.shape
 have hn:=lX l
 go_enter Tryz.func166,Tryz.ntmps166
 go_wp2_with fail
 go_loopw [3,4] (λa y wx=>∃i:Nat,i≤l.length∧y=.int .i64 i∧a=str (cH (l.take i))∧Below w.heap.size w wx) (λ_ y _=>l.length - (intOf y).toNat)
 case atStart=>exact⟨0,Nat.zero_le _,by go_num,rfl,zb _⟩
 case round=>
  obtain⟨i,hi,rfl,rfl,hb⟩:=hrel
  by_cases hlt:i<l.length
  case neg=>
   obtain rfl:i=l.length:=by omega
   rw[show cH (l.take l.length)=cH l from by rw[List.take_length]];generalize hz:cH l=J at *
   replace hz:=zh hz
   clear hn hi;go_wp2_with fail;go_ret;exact⟨by rw[hz.out];rfl,hb⟩
  case pos=>
   obtain⟨x,hkx⟩:∃x,l[i]? =some x:=⟨_,List.getElem?_eq_getElem hlt⟩
   obtain⟨b,o,rfl,_,hc⟩:=(hv.below hb zr).at hkx;have hs:=zh (vel hkx);have ht:=vem l i;have hx:=iF l i x hkx;have hil:(i:Int)<(l.length:Int):=by omega
   clear hkx;generalize hJ0:cH (l.take i)=J at *
   by_cases h0:i=0
   · subst h0
     have hs2:=zh (hs.out.trans (by rw[if_pos rfl]));have hJ:J=[]:=by simpa[cH] using hJ0.symm
     subst hJ;have g2:¬9223372036854775807<x.length:=by omega
     rw[Nat.add_zero] at hc;rw[show((0:Nat):Int)=0 from rfl];clear hs hJ0;go_wp2_with fail;exact⟨⟨1,hlt,by go_num,by rw[hs2.out];rfl,hb⟩,by simp only[intOf];omega⟩
   · have g0:(0:Int)<(i:Int):=by omega
     have hs2:=zh (hs.out.trans (by rw[if_neg h0]));have g1:¬9223372036854775807<J.length+1:=by omega
     have g2:¬9223372036854775807<J.length+1+x.length:=by omega
     clear hs h0 hJ0;go_wp2_with fail;exact⟨⟨i+1,hlt,by go_num,by rw[hs2.out];simp,hb⟩,by simp only[intOf];omega⟩
theorem vc1 {D:Nat→Prop} (v:Value) (s:bP) (w:World) (hv:aT D w v s) (ha:(cH s.args).length≤10000) (hg:(cH s.sigs).length≤10000) (hr:s.res.length≤10000):
 Calls Tryz.prog 108 #[v] w λe w'=>e=.returned (str (Ji s))∧Below w.heap.size w w':=by
 obtain⟨av,sv,rfl,_,hA,hS⟩:=hv
 obtain⟨pa,ca,rfl,_⟩:=hA.shape
 obtain⟨ps,cs,rfl,_⟩:=hS.shape
 have hB:=(zb w).alloc zr (.cells #[.bool s.iter,.slice pa s.args.length ca,str s.res,.slice ps s.sigs.length cs] 36)
 have iu:=heap_alloc_new w (.cells #[.bool s.iter,.slice pa s.args.length ca,str s.res,.slice ps s.sigs.length cs] 36)
 have vkg:=λW (hW:Below w.heap.size w W)=>vce _ _ W (hA.below hW zr) (by omega)
 have vkh:=λW (hW:Below w.heap.size w W)=>vce _ _ W (hS.below hW zr) (by omega)
 have hT:=zh (show Ji s=(if s.iter then [105,116,101,114,40] else [112,114,111,99,40])++cH s.args++[41]++(if s.res=[] then [] else(if s.iter then [32,121,105,101,108,100,115,32] else [32,114,101,116,117,114,110,115,32])++s.res)++(if s.sigs=[] then [] else [32,115,105,103,110,97,108,115,40]++cH s.sigs++[41]) from rfl)
 generalize Ji s=ST at *
 obtain⟨it,ar,re,sg⟩:=s
 dsimp only at *
 generalize cH ar=vla at *
 generalize cH sg=vlb at *
 have b0:=aN iu
 clear hA hS
 have fin:∀(T:List UInt8) W,Hid (ST=T)→Below w.heap.size w W→(λe w'=>e=Ending.returned (str ST)∧Below w.heap.size w w') (.returned (str T)) W:=λT W h hb=>⟨by rw[h.out],hb⟩
 have l1:¬9223372036854775807<5+vla.length:=by omega
 cases it<;>rcases Decidable.em (re=[]) with rfl|h1<;>rcases Decidable.em (sg=[]) with rfl|h2
 case false.inl.inl=>
  replace hT:=hT.out
  simp only[if_true,if_false,Bool.false_eq_true,List.append_nil] at hT
  replace hT:=zh hT
  go_enter Tryz.func108,Tryz.ntmps108;go_wp2_with (go_at_call 166;refine(vkg _ hB).mono ?_;clear vkg;rintro e w1 ⟨rfl,au⟩;have B1:=hB.trans (af au hB.size);have b1:=aN (ah iu au));go_ret;exact⟨by rw[hT.out];simp,B1⟩
 case false.inl.inr=>
  replace hT:=hT.out
  simp only[if_true,if_false,Bool.false_eq_true,List.append_nil,if_neg h2] at hT
  replace hT:=zh hT
  have g2:(0:Int)<(sg.length:Int):=by have:=List.length_pos_iff.2 h2;omega
  go_enter Tryz.func108,Tryz.ntmps108;go_wp2_with (first
   | (go_at_call 166;refine(vkh w1 B1).mono ?_;clear vkh;rintro e w2 ⟨rfl,aC⟩;have B2:=B1.trans (af aC B1.size))
   | (go_at_call 166;refine(vkg _ hB).mono ?_;clear vkg;rintro e w1 ⟨rfl,au⟩;have B1:=hB.trans (af au hB.size);have b1:=aN (ah iu au)))
  go_ret;exact⟨by rw[hT.out];simp,B2⟩
 case false.inr.inl=>
  replace hT:=hT.out
  simp only[if_true,if_false,Bool.false_eq_true,List.append_nil,if_neg h1] at hT
  replace hT:=zh hT
  have g1:re.isEmpty=false:=by simpa using h1
  go_enter Tryz.func108,Tryz.ntmps108;go_wp2_with (go_at_call 166;refine(vkg _ hB).mono ?_;clear vkg;rintro e w1 ⟨rfl,au⟩;have B1:=hB.trans (af au hB.size);have b1:=aN (ah iu au));go_ret;exact⟨by rw[hT.out];simp,B1⟩
 case false.inr.inr=>
  replace hT:=hT.out
  simp only[if_false,Bool.false_eq_true,if_neg h1,if_neg h2] at hT
  replace hT:=zh hT
  have g1:re.isEmpty=false:=by simpa using h1
  have g2:(0:Int)<(sg.length:Int):=by have:=List.length_pos_iff.2 h2;omega
  go_enter Tryz.func108,Tryz.ntmps108;go_wp2_with (first
   | (go_at_call 166;refine(vkh w1 B1).mono ?_;clear vkh;rintro e w2 ⟨rfl,aC⟩;have B2:=B1.trans (af aC B1.size))
   | (go_at_call 166;refine(vkg _ hB).mono ?_;clear vkg;rintro e w1 ⟨rfl,au⟩;have B1:=hB.trans (af au hB.size);have b1:=aN (ah iu au)))
  go_ret;exact⟨by rw[hT.out];simp,B2⟩
 case true.inl.inl=>
  replace hT:=hT.out
  simp only[if_true,List.append_nil] at hT
  replace hT:=zh hT
  go_enter Tryz.func108,Tryz.ntmps108;go_wp2_with (go_at_call 166;refine(vkg _ hB).mono ?_;clear vkg;rintro e w1 ⟨rfl,au⟩;have B1:=hB.trans (af au hB.size);have b1:=aN (ah iu au));go_ret;exact⟨by rw[hT.out];simp,B1⟩
 case true.inl.inr=>
  replace hT:=hT.out
  simp only[if_true,List.append_nil,if_neg h2] at hT
  replace hT:=zh hT
  have g2:(0:Int)<(sg.length:Int):=by have:=List.length_pos_iff.2 h2;omega
  go_enter Tryz.func108,Tryz.ntmps108;go_wp2_with (first
   | (go_at_call 166;refine(vkh w1 B1).mono ?_;clear vkh;rintro e w2 ⟨rfl,aC⟩;have B2:=B1.trans (af aC B1.size))
   | (go_at_call 166;refine(vkg _ hB).mono ?_;clear vkg;rintro e w1 ⟨rfl,au⟩;have B1:=hB.trans (af au hB.size);have b1:=aN (ah iu au)))
  go_ret;exact⟨by rw[hT.out];simp,B2⟩
 case true.inr.inl=>
  replace hT:=hT.out
  simp only[if_true,List.append_nil,if_neg h1] at hT
  replace hT:=zh hT
  have g1:re.isEmpty=false:=by simpa using h1
  go_enter Tryz.func108,Tryz.ntmps108;go_wp2_with (go_at_call 166;refine(vkg _ hB).mono ?_;clear vkg;rintro e w1 ⟨rfl,au⟩;have B1:=hB.trans (af au hB.size);have b1:=aN (ah iu au));go_ret;exact⟨by rw[hT.out];simp,B1⟩
 case true.inr.inr=>
  replace hT:=hT.out
  simp only[if_true,if_neg h1,if_neg h2] at hT
  replace hT:=zh hT
  have g1:re.isEmpty=false:=by simpa using h1
  have g2:(0:Int)<(sg.length:Int):=by have:=List.length_pos_iff.2 h2;omega
  go_enter Tryz.func108,Tryz.ntmps108;go_wp2_with (first
   | (go_at_call 166;refine(vkh w1 B1).mono ?_;clear vkh;rintro e w2 ⟨rfl,aC⟩;have B2:=B1.trans (af aC B1.size))
   | (go_at_call 166;refine(vkg _ hB).mono ?_;clear vkg;rintro e w1 ⟨rfl,au⟩;have B1:=hB.trans (af au hB.size);have b1:=aN (ah iu au)))
  go_ret;exact⟨by rw[hT.out];simp,B2⟩
theorem vd7 {l:List aL} {i:Nat} {x:aL} (wd:List UInt8) (h:l[i]? =some x):(l.take (i+1)).flatMap (dR wd)=(l.take i).flatMap (dR wd)++dR wd x:=by
 rw[List.take_add_one,h,Option.toList_some,List.flatMap_append]
 simp
theorem vby (l:List aL) (i:Nat) (wd:List UInt8):((l.take i).flatMap (dR wd)).length≤(l.flatMap (dR wd)).length:=by
 conv=>rhs;rw[←List.take_append_drop i l,List.flatMap_append]
 simp
theorem vdk {s:bP} (h:qp s):(Ji s).length≤1997:=by
 have:=vp (wd:=[]) (o:=⟨[],s⟩) (by simp) (by simp) h
 unfold dR at this
 simp at this
 omega
theorem qp.vf0 {s:bP} (h:qp s):(cH s.args).length≤10000∧(cH s.sigs).length≤10000:=by
 have:=vdk h
 rw[vc2] at this
 unfold vac vax at this
 by_cases hs:s.sigs=[]
 · rw[hs] at this ⊢
   simp at this;exact⟨by omega,by simp[cH]⟩
 · rw[if_neg hs] at this
   simp at this;omega
theorem vgt {D:Nat→Prop} {ops:Array Oper} {h:Nat} {V:List VS} {E:List (Nat×VS)} {S:World→Prop} {k:Nat} {o:Oper} {t:TypeId} {x y:Operand} {a b:List UInt8} (ho:o.op=.binOp .add t x y t) (ht:t=9) (hw:cO ops h V o=some true) (hk:V[k]? =some (vT (a++b))) (hx:aJ ops h V E o x=some (vT a)) (hy:aJ ops h V E o y=some (vT b)) (hl:a.length+b.length≤1000000):bM D Tryz.prog S ops h V E k o:=by
 subst ht
 have hn:¬9223372036854775807<a.length+b.length:=by omega
 exact eW ho hw hk hx hy (λw=>by simp[go_sem,hn])
theorem vbv {D : Nat → Prop} (v : Value) (f : aA) (w : World) (hv : dO D w v f) :
 Calls Tryz.prog 52 #[v] w λe w'=>e=.returned (.tuple #[str (su f).1,.int .i64 (su f).2])∧Below w.heap.size w w':=by
 have HC:=λW (hW:Below w.heap.size w W)=>Hw v f W (hv.below hW zr)
 obtain⟨nv,ov,rfl,hfl,hN,hO⟩:=hv
 obtain⟨pn,cn,rfl,_⟩:=hN.shape
 obtain⟨po,co,rfl,_⟩:=hO.shape
 have HW:su f=if dF f=true then(AX f,0) else([],42):=rfl
 generalize su f=WR at *
 rcases hf:dF f with _|_
 · rw[hf] at HW
   rw[kW hf] at HC;have HX:=zh HW;obtain⟨fn,fk,fp,vma,vmb⟩:=f;dsimp only at *;have hA:=(zb w).alloc zr (.cells #[str fn,.int .u8 fk,.bool fp,.slice pn vma.length cn,.slice po vmb.length co] 58);have b0:=bz (heap_alloc_new w (.cells #[str fn,.int .u8 fk,.bool fp,.slice pn vma.length cn,.slice po vmb.length co] 58));clear HW hN hO hf;go_enter Tryz.func52,Tryz.ntmps52;go_wp2_with (go_at_call 39;refine(HC _ hA).mono ?_;clear HC;rintro e w2 ⟨rfl,aC⟩);go_ret2;rw[HX.out];exact⟨rfl,hA.trans (af aC hA.size)⟩
 rw[hf] at HW
 rw[sZ hf] at HC
 have hp:=dQ hf
 obtain⟨hnm,yX,hos⟩:=zv hf
 have hk1:=hp.2.1
 have yW:=hp.2.2.1
 have PI:=(ec hp.2.2.2.1).1
 have hlo:=hp.2.2.2.2.2.2.1
 have Pg:=lB (wd:=[104,97,115]) (by simp) f.ag yX
 have Uc:=lB (wd:=[111,112]) (by simp) f.ops hos
 have viq:AX f=(if f.kind=1 then [112,114,111,99] else if f.kind=2 then [105,116,101,114] else [99,108,117,115,116,101,114])++[32]++f.name++(if f.par then [91,116,93] else [])++[10]++f.ag.flatMap (dR [104,97,115])++f.ops.flatMap (dR [111,112]):=rfl
 clear hf hp
 obtain⟨fn,fk,fp,vma,vmb⟩:=f
 dsimp only at *
 rw[if_pos rfl,viq] at HW
 have hA:=(zb w).alloc zr (.cells #[str fn,.int .u8 fk,.bool fp,.slice pn vma.length cn,.slice po vmb.length co] 58)
 have iu:=heap_alloc_new w (.cells #[str fn,.int .u8 fk,.bool fp,.slice pn vma.length cn,.slice po vmb.length co] 58)
 have b0:=bz iu
 have GV:=λW (hW:Below w.heap.size w W)=>hN.below hW zr
 have L9:=λW (hW:Below w.heap.size w W)=>hO.below hW zr
 clear hN hO viq
 have hk:fk=1∨fk=2∨fk=3:=by omega
 rcases hk with rfl|rfl|rfl<;>rcases fp with _|_
 all_goals
  simp only[if_true,if_false,Bool.false_eq_true,List.append_nil,Nat.reduceEqDiff] at HW;have vj7:=zh HW;obtain⟨X,hX,Ud⟩:∃X,X++vma.flatMap (dR [104,97,115])++vmb.flatMap (dR [111,112])=WR.1∧X.length≤40:=⟨_,by rw[HW],by simp<;>omega⟩
  have vjg:=zh (show ∀Y,Y++vma.flatMap (dR [104,97,115])++vmb.flatMap (dR [111,112])=WR.1→Y=X from λY h=>List.append_cancel_right (List.append_cancel_right (h.trans hX.symm)));have HX:=zh (show WR=(X++vma.flatMap (dR [104,97,115])++vmb.flatMap (dR [111,112]),0) from Prod.ext hX.symm (by rw[HW]));clear HW hX;go_enter Tryz.func52,Tryz.ntmps52;go_wp2_with (go_at_call 39;refine(HC _ hA).mono ?_;clear HC;rintro e w1 ⟨rfl,au⟩;have bL:=hA.trans (af au hA.size);have b1:=bz (ah iu au));have hx0:=λW (hW:Below w1.heap.size w1 W)=>ah (ah iu au) hW
  have hN1:=λW (hW:Below w1.heap.size w1 W)=>GV W (bL.trans (af hW bL.size))
  have Ko:=λW (hW:Below w1.heap.size w1 W)=>L9 W (bL.trans (af hW bL.size))
  clear GV L9 iu b0 b1 au hA hk1 yW;go_loopw [4,5] (λa y wx=>∃i:Nat,i≤vma.length∧y=.int .i64 i∧a=str (X++(vma.take i).flatMap (dR [104,97,115]))∧Below w1.heap.size w1 wx) (λ_ y _=>vma.length - (intOf y).toNat)
  case atStart=>exact⟨0,Nat.zero_le _,by go_num,by refine congrArg (λl:List UInt8=>Value.string ⟨l.toArray⟩) ?_;rw[List.take_zero,List.flatMap_nil,List.append_nil];exact vjg.out _ (by rw[vj7.out];simp),zb _⟩
  case round =>
   obtain⟨i,hi,rfl,rfl,hb⟩:=hrel;have bx:=bz (hx0 wr hb)
   by_cases hlt:i<vma.length
   case neg =>
    obtain rfl:i=vma.length:=by omega
    rw[List.take_length];go_wp2_with fail;go_loopw [4,6] (λa y wx=>∃i:Nat,i≤vmb.length∧y=.int .i64 i∧a=str (X++vma.flatMap (dR [104,97,115])++(vmb.take i).flatMap (dR [111,112]))∧Below w1.heap.size w1 wx) (λ_ y _=>vmb.length - (intOf y).toNat)
    case atStart=>exact⟨0,Nat.zero_le _,by go_num,by simp,hb⟩
    case round =>
     obtain⟨i,hi,rfl,rfl,hb⟩:=hrel;have bx:=bz (hx0 wr hb)
     by_cases hlt:i<vmb.length
     case neg=>
      obtain rfl:i=vmb.length:=by omega
      rw[List.take_length];go_wp2_with fail;go_ret2;rw[HX.out];exact⟨rfl,bL.trans (af hb bL.size)⟩
     case pos=>
      obtain⟨x,hkx⟩:∃x,vmb[i]? =some x:=⟨_,List.getElem?_eq_getElem hlt⟩
      obtain⟨b1,o1,av,sv,rfl,_,⟨F8,mI⟩,fe,eE,d0,d1,d2,d3,d4⟩:=(Ko wr hb).at hkx;obtain⟨pa,ca,rfl,_⟩:=fe.shape;obtain⟨ps,cs,rfl,_⟩:=eE.shape;have vge:=hos x (List.mem_of_getElem? hkx);have FV:=zh (vd7 [111,112] hkx);have T8:=vby vmb i [111,112];have hil:(i:Int)<(vmb.length:Int):=by omega
      have vjl:=vdk vge.2;have vhd:=λW (hW:Below wr.heap.size wr W)=>vc1 (.agg #[.bool x.sig.iter,.slice pa x.sig.args.length ca,str x.sig.res,.slice ps x.sig.sigs.length cs]) x.sig W ⟨_,_,rfl,mI,fe.below hW zr,eE.below hW zr⟩ vge.2.vf0.1 vge.2.vf0.2 (by have:=vge.2.r;omega)
      clear hkx;generalize (vmb.take i).flatMap (dR [111,112])=J at *;go_upto_region 20 with fail;have hD:=(Below.refl wr.heap.size wr).drew;have q3:=Below.keep hD bx.1.2.2.2.2;have q4:=Below.keep hD d0;have q5:=Below.keep hD d1;have q6:=Below.keep hD d2;have q7:=Below.keep hD d3;have vmj:=Below.keep hD d4;have z1:¬9223372036854775807<(X++vma.flatMap (dR [104,97,115])++J).length+14:=by simp only[List.length_append];omega
      refine qj (D:=Any) (w:=wr) (d:=some 4) 19 [(4,vT (X++vma.flatMap (dR [104,97,115])++J)),(1,vP w.heap.size 0),(6,vI i)] [vT (X++vma.flatMap (dR [104,97,115])++J),vT (X++vma.flatMap (dR [104,97,115])++J++[111,112,32]),vP w.heap.size 4,vL b1 o1 vmb.length co,vI i,vP b1 (o1+i * 5),vP b1 (o1+i * 5),vT x.name,vT (X++vma.flatMap (dR [104,97,115])++J++[111,112,32]++x.name),vT (X++vma.flatMap (dR [104,97,115])++J++[111,112,32]++x.name++[32]),vP w.heap.size 4,vL b1 o1 vmb.length co,vI i,vP b1 (o1+i * 5),vP b1 (o1+i * 5+1),.eq (.agg #[.bool x.sig.iter,.slice pa x.sig.args.length ca,str x.sig.res,.slice ps x.sig.sigs.length cs]),vT (Ji x.sig),vT (X++vma.flatMap (dR [104,97,115])++J++[111,112,32]++x.name++[32]++Ji x.sig),vT (X++vma.flatMap (dR [104,97,115])++J++[111,112,32]++x.name++[32]++Ji x.sig++[10]),vT (X++vma.flatMap (dR [104,97,115])++J++[111,112,32]++x.name++[32]++Ji x.sig++[10])] (λw'=>aZ [cA w.heap.size 4 (.slice (some ⟨b1,o1,none⟩) vmb.length co),cA b1 (o1+i * 5) (str x.name),cA b1 (o1+i * 5+1) (.bool x.sig.iter),cA b1 (o1+i * 5+2) (.slice pa x.sig.args.length ca),cA b1 (o1+i * 5+3) (str x.sig.res),cA b1 (o1+i * 5+4) (.slice ps x.sig.sigs.length cs)] w'∧Below wr.heap.size wr w') (by kernel_rfl) rfl rfl (λ_ _ h hb=>⟨h.1.below hb,h.2.trans (af hb h.2.size)⟩) ⟨by(iterate 6 (refine b9 (by assumption) ?_));exact gy,hD⟩ ⟨rfl,rfl,rfl,trivial⟩ ?_ ?_
      · iterate 20
         refine And.intro ?_ ?_
         · first
           | exact oe rfl rfl (by kernel_rfl)
           | exact gN rfl (by kernel_rfl) rfl rfl (λw=>by simp[go_sem])
           | exact iC rfl (by kernel_rfl) rfl rfl rfl (λw=>by simp[go_sem,hil])
           | exact gv rfl (by kernel_rfl) rfl rfl (λw hS=>by simp[go_sem,hS.1.get 0 rfl,hS.1.get 1 rfl,hS.1.get 2 rfl,hS.1.get 3 rfl,hS.1.get 4 rfl,hS.1.get 5 rfl])
           | exact er (s1:=.eq (.agg #[.bool x.sig.iter,.slice pa x.sig.args.length ca,str x.sig.res,.slice ps x.sig.sigs.length cs])) rfl (enters_of Tryz.func108 (by kernel_rfl) rfl) (by kernel_rfl) rfl rfl (λv wx hS h1=>by rw[show v=_ from h1];exact(vhd wx hS.2).mono (by rintro e w' ⟨rfl,hb⟩;exact⟨_,rfl,rfl,hb⟩))
           | exact vgt rfl rfl (by kernel_rfl) rfl rfl rfl (by simp only[List.length_append,List.length_cons,List.length_nil] at *;omega)
        exact trivial
      · intro aE wE mo fM _
        simp only[pq,pz,pw];have vid:=hb.trans (af fM hb.size);clear mo vhd bx;go_wp2_with fail;exact⟨⟨i+1,hlt,by go_num,by rw[FV.out];simp[dR],vid⟩,by simp only[intOf];omega⟩
   case pos=>
    obtain⟨x,hkx⟩:∃x,vma[i]? =some x:=⟨_,List.getElem?_eq_getElem hlt⟩
    obtain⟨b1,o1,av,sv,rfl,_,⟨F8,mI⟩,fe,eE,d0,d1,d2,d3,d4⟩:=(hN1 wr hb).at hkx;obtain⟨pa,ca,rfl,_⟩:=fe.shape;obtain⟨ps,cs,rfl,_⟩:=eE.shape;have vge:=yX x (List.mem_of_getElem? hkx);have FV:=zh (vd7 [104,97,115] hkx);have T8:=vby vma i [104,97,115];have hil:(i:Int)<(vma.length:Int):=by omega
    have vjl:=vdk vge.2;have vhd:=λW (hW:Below wr.heap.size wr W)=>vc1 (.agg #[.bool x.sig.iter,.slice pa x.sig.args.length ca,str x.sig.res,.slice ps x.sig.sigs.length cs]) x.sig W ⟨_,_,rfl,mI,fe.below hW zr,eE.below hW zr⟩ vge.2.vf0.1 vge.2.vf0.2 (by have:=vge.2.r;omega)
    clear hkx;generalize (vma.take i).flatMap (dR [104,97,115])=J at *;go_upto_region 16 with fail;have hD:=(Below.refl wr.heap.size wr).drew;have q3:=Below.keep hD bx.1.2.2.2.1;have q4:=Below.keep hD d0;have q5:=Below.keep hD d1;have q6:=Below.keep hD d2;have q7:=Below.keep hD d3;have vmj:=Below.keep hD d4;have z1:¬9223372036854775807<(X++J).length+18:=by simp only[List.length_append];omega
    refine qj (D:=Any) (w:=wr) (d:=some 4) 19 [(4,vT (X++J)),(1,vP w.heap.size 0),(5,vI i)] [vT (X++J),vT (X++J++[104,97,115,32]),vP w.heap.size 3,vL b1 o1 vma.length cn,vI i,vP b1 (o1+i * 5),vP b1 (o1+i * 5),vT x.name,vT (X++J++[104,97,115,32]++x.name),vT (X++J++[104,97,115,32]++x.name++[32]),vP w.heap.size 3,vL b1 o1 vma.length cn,vI i,vP b1 (o1+i * 5),vP b1 (o1+i * 5+1),.eq (.agg #[.bool x.sig.iter,.slice pa x.sig.args.length ca,str x.sig.res,.slice ps x.sig.sigs.length cs]),vT (Ji x.sig),vT (X++J++[104,97,115,32]++x.name++[32]++Ji x.sig),vT (X++J++[104,97,115,32]++x.name++[32]++Ji x.sig++[10]),vT (X++J++[104,97,115,32]++x.name++[32]++Ji x.sig++[10])] (λw'=>aZ [cA w.heap.size 3 (.slice (some ⟨b1,o1,none⟩) vma.length cn),cA b1 (o1+i * 5) (str x.name),cA b1 (o1+i * 5+1) (.bool x.sig.iter),cA b1 (o1+i * 5+2) (.slice pa x.sig.args.length ca),cA b1 (o1+i * 5+3) (str x.sig.res),cA b1 (o1+i * 5+4) (.slice ps x.sig.sigs.length cs)] w'∧Below wr.heap.size wr w') (by kernel_rfl) rfl rfl (λ_ _ h hb=>⟨h.1.below hb,h.2.trans (af hb h.2.size)⟩) ⟨by(iterate 6 (refine b9 (by assumption) ?_));exact gy,hD⟩ ⟨rfl,rfl,rfl,trivial⟩ ?_ ?_
    · iterate 20
       refine And.intro ?_ ?_
       · first
         | exact oe rfl rfl (by kernel_rfl)
         | exact gN rfl (by kernel_rfl) rfl rfl (λw=>by simp[go_sem])
         | exact iC rfl (by kernel_rfl) rfl rfl rfl (λw=>by simp[go_sem,hil])
         | exact gv rfl (by kernel_rfl) rfl rfl (λw hS=>by simp[go_sem,hS.1.get 0 rfl,hS.1.get 1 rfl,hS.1.get 2 rfl,hS.1.get 3 rfl,hS.1.get 4 rfl,hS.1.get 5 rfl])
         | exact er (s1:=.eq (.agg #[.bool x.sig.iter,.slice pa x.sig.args.length ca,str x.sig.res,.slice ps x.sig.sigs.length cs])) rfl (enters_of Tryz.func108 (by kernel_rfl) rfl) (by kernel_rfl) rfl rfl (λv wx hS h1=>by rw[show v=_ from h1];exact(vhd wx hS.2).mono (by rintro e w' ⟨rfl,hb⟩;exact⟨_,rfl,rfl,hb⟩))
         | exact vgt rfl rfl (by kernel_rfl) rfl rfl rfl (by simp only[List.length_append,List.length_cons,List.length_nil] at *;omega)
      exact trivial
    · intro aE wE mo fM _
      simp only[pq,pz,pw];have vid:=hb.trans (af fM hb.size);clear mo vhd bx;go_wp2_with fail;exact⟨⟨i+1,hlt,by go_num,by rw[FV.out];simp[dR],vid⟩,by simp only[intOf];omega⟩
