/-
  Lemmas for the statement: contract: of the package face: Write. Conditions: bounds of lengths; the variable strings.asciiSpace.
-/
import Derived.Test.YtakgjcfkdemipaaGreatDoorZBn
import Derived.Test.YtakgjcfkdemipaaGreatDoorZB24
import Derived.Test.YtakgjcfkdemipaaGreatDoorZB29
set_option maxHeartbeats 12800000
namespace Go.Proofs.YtakgjcfkdemipaaGreatDoor
open Go Go.RowKit
section
variable {D:Nat→Prop} {ops:Array Oper} {h:Nat} {V:List VS} {E:List (Nat×VS)} {S:World→Prop} {k:Nat} {o:Oper}
theorem LB {t:TypeId} {x y z:Operand} {s u q:List UInt8} (ho:o.op=.buildSlice t 3 #[(0,x),(1,y),(2,z)]) (ht:t=34) (hw:cO ops h V o=some true) (hk:V[k]? =some (.ss [s,u,q])) (hx:aJ ops h V E o x=some (.eq (str s))) (hy:aJ ops h V E o y=some (.eq (str u))) (hz:aJ ops h V E o z=some (.eq (str q)))
 (hl:s.length≤maxLen) (hl2:u.length≤maxLen) (PC:q.length≤maxLen) (hD:∀w,S w→D w.heap.size):bM D Tryz.prog S ops h V E k o:=
 oI [(x,.eq (str s)),(y,.eq (str u)),(z,.eq (str q))] hw hk (by simp[hx,hy,hz]) λa w Q hS hi next hn=>by
  have h1:a.eval x=str s:=hi (x,.eq (str s)) (by simp);have h2:a.eval y=str u:=hi (y,.eq (str u)) (by simp);have h3:a.eval z=str q:=hi (z,.eq (str q)) (by simp);subst ht;unfold Oper.wp;have hrun:∀ev:Operand→Value,ev x=str s→ev y=str u→ev z=str q→(execOp ev o).run Tryz.prog w=.ok (.value (.slice (some ⟨w.heap.size,0,none⟩) 3 3)) (w.alloc (.cells #[str s,str u,str q] 9)):=λev h1 h2 h3=>by
   unfold execOp;simp[ho,h1,h2,h3,go_sem]
  rw[hrun _ h1 h2 h3];exact hn _ _ (SS.new D w (hD w hS) [s,u,q] 9 (0,0) (by unfold maxLen;simp) (by
   intro g hg;simp only[List.mem_cons,List.not_mem_nil,or_false] at hg;rcases hg with rfl|rfl|rfl<;>assumption)) ((zb w).alloc zr _)
end
def FA (k:Nat):List UInt8:=if k=1 then [112,114,111,99] else if k=2 then [105,116,101,114] else [99,108,117,115,116,101,114]
theorem Bc (k:Nat):(FA k).length≤7:=by unfold FA;split;simp;split<;>simp
theorem Ei (w:World):(Instr.index 127 (.agg #[str [],str [112,114,111,99],str [105,116,101,114],str [99,108,117,115,116,101,114]]) (.int .u8 1)).run Tryz.prog w=.ok (str [112,114,111,99]) w∧(Instr.index 127 (.agg #[str [],str [112,114,111,99],str [105,116,101,114],str [99,108,117,115,116,101,114]]) (.int .u8 2)).run Tryz.prog w=.ok (str [105,116,101,114]) w∧(Instr.index 127 (.agg #[str [],str [112,114,111,99],str [105,116,101,114],str [99,108,117,115,116,101,114]]) (.int .u8 3)).run Tryz.prog w=.ok (str [99,108,117,115,116,101,114]) w:=⟨by kernel_rfl,by kernel_rfl,by kernel_rfl⟩
theorem Ga {o:Oper} {t:TypeId} {x y:Operand} {k:Nat} (h1:1≤k) (h3:k≤3) (ho:o.op=.index t x y:=by rfl) (ht:t=127:=by rfl) (ev:Operand→Value) (w:World) (e1:ev x=.agg #[str [],str [112,114,111,99],str [105,116,101,114],str [99,108,117,115,116,101,114]]) (e2:ev y=.int .u8 k):(execOp ev o).run Tryz.prog w=.ok (.value (str (FA k))) w:=by
 subst ht
 have:k=1∨k=2∨k=3:=by omega
 obtain⟨q1,q2,q3⟩:=Ei w
 rcases this with rfl|rfl|rfl<;>simp[execOp,ho,e1,e2,go_sem,FA,q1,q2,q3]
theorem zv {f:aA} (hf:dF f=true):f.name.length≤12∧(∀o∈f.ag,o.name.length≤12∧qp o.sig)∧∀o∈f.ops,o.name.length≤12∧qp o.sig:=by
 have hp:=dQ hf
 have hn:=hp.2.2.2.1
 refine⟨kf hp.1,λo ho=>?_,λo ho=>?_⟩
 · unfold aU at hn
   simp only[Bool.and_eq_true,List.all_eq_true,decide_eq_true_eq] at hn;exact⟨kf (oo hn.2 _ (List.mem_map_of_mem ho)),Br (hn.1.1 o ho)⟩
 · have:=hp.2.2.2.2.2.2.2.1 o ho
   exact⟨kf this.1,Br this.2⟩
set_option maxRecDepth 8000 in
theorem C1 {D : Nat → Prop} (v : Value) (f : aA) (w : World) (ht : dW w) (hv : dO D w v f) (hn : f.ag.length ≤ 100000) :
 Calls Tryz.prog 51 #[v] w λe w'=>e=.returned (.tuple #[str (su f).1,.int .i64 (su f).2])∧Below w.heap.size w w':=by
 obtain⟨nv,ov,rfl,hnl,hN,hO⟩:=hv
 have hA:=(zb w).alloc zr (.cells #[str f.name,.int .u8 f.kind,.bool f.par,nv,ov] 58)
 have bT:=heap_alloc_new w (.cells #[str f.name,.int .u8 f.kind,.bool f.par,nv,ov] 58)
 have L8:=hN.below hA zr
 have Ma:=hO.below hA zr
 have HC:=mR _ f (w.alloc (.cells #[str f.name,.int .u8 f.kind,.bool f.par,nv,ov] 58)) (ht.below hA zr) ⟨nv,ov,rfl,hnl,L8,Ma⟩ hn
 have HW:su f=if dF f=true then(AX f,0) else([],42):=rfl
 have HE:iL f=if dF f=true then 0 else 42:=rfl
 obtain⟨p1,c1,rfl,_⟩:=hN.shape
 obtain⟨p2,c2,rfl,_⟩:=hO.shape
 generalize su f=WR at *
 rcases hf:dF f with _|_
 · rw[HE,hf] at HC
   rw[hf] at HW;have HX:=zh HW;clear HW HE hN hO L8 Ma hf;go_enter Tryz.func51,Tryz.ntmps51;go_wp2_with (go_at_call 38;refine HC.mono ?_;clear HC;rintro e w2 ⟨rfl,aC⟩);go_ret2;rw[HX.out];exact⟨rfl,hA.trans (af aC (by simp))⟩
 · rw [HE, hf] at HC
   rw[hf] at HW;have hp:=dQ hf;obtain⟨hnm,yX,hos⟩:=zv hf;have hk1:=hp.2.1;have yW:=hp.2.2.1;have PI:=(ec hp.2.2.2.1).1;have hlo:=hp.2.2.2.2.2.2.1;have NU:(FA f.kind).length≤maxLen:=by have:=Bc f.kind;unfold maxLen;omega
   have Sc:=Bc f.kind;obtain⟨J,hJ⟩:∃J,[FA f.kind,[32],f.name].flatten=J:=⟨_,rfl⟩
   have T8:J.length≤30:=by rw[←hJ];simp;omega
   obtain⟨X,hX⟩:∃X,(J++(if f.par=true then [91,116,93] else []))++[10]=X:=⟨_,rfl⟩
   have Ud:X.length≤40:=by rw[←hX];cases f.par<;>simp<;>omega
   have hft:AX f=X++f.ag.flatMap (dR [104,97,115])++f.ops.flatMap (dR [111,112]):=by
    unfold AX;rw[←hX,←hJ];unfold FA;cases f.par<;>simp
   have HX:=zh (show WR=(X++f.ag.flatMap (dR [104,97,115])++f.ops.flatMap (dR [111,112]),0) by rw[HW,hft];rfl);have Pg:=lB (wd:=[104,97,115]) (by simp) f.ag yX;have Uc:=lB (wd:=[111,112]) (by simp) f.ops hos;clear HW HE hft hN hO hf hp;obtain⟨W0,Md⟩:∃W0,w.alloc (.cells #[str f.name,.int .u8 f.kind,.bool f.par,.slice p1 f.ag.length c1,.slice p2 f.ops.length c2] 58)=W0:=⟨_,rfl⟩
   have HC:Calls Tryz.prog 38 #[.agg #[str f.name,.int .u8 f.kind,.bool f.par,.slice p1 f.ag.length c1,.slice p2 f.ops.length c2]] (w.alloc (.cells #[str f.name,.int .u8 f.kind,.bool f.par,.slice p1 f.ag.length c1,.slice p2 f.ops.length c2] 58)) λe w'=>e=.returned (.int .i64 0)∧Below W0.heap.size W0 w':=by rw[←Md];exact HC
   have IV:w.heap.size≤W0.heap.size:=by rw[←Md];simp
   rw[Md] at hA bT L8 Ma;clear Md;have bx:=bz bT;rcases hpar:f.par with _|_
   all_goals
    rw[hpar] at hX HC;simp only[Bool.false_eq_true,if_false,if_true,List.append_nil] at hX;go_enter Tryz.func51,Tryz.ntmps51;go_upto_region 4 with(go_at_call 38;refine HC.mono ?_;clear HC;rintro e w2 ⟨rfl,aC⟩);have fS:=ah bT aC;have GP:=bz fS;have k0:=Below.keep (zb w2).drew GP.1.1;have k1:=Below.keep (zb w2).drew GP.1.2.1;clear GP bx fS;refine jc (D:=Any) 8 [(1,.eq (.pointer (some ⟨w.heap.size,0,none⟩)))] [(.eq (.agg #[str [],str [112,114,111,99],str [105,116,101,114],str [99,108,117,115,116,101,114]])),(.eq (.pointer (some ⟨w.heap.size,1,none⟩))),(.eq (.int .u8 f.kind)),(.eq (str (FA f.kind))),(.eq (.pointer (some ⟨w.heap.size,0,none⟩))),(.eq (str f.name)),(.ss [FA f.kind,[32],f.name]),(.eq (str J)),(.eq (str J))] (aZ [(⟨w.heap.size,1,none⟩,.int .u8 f.kind),(⟨w.heap.size,0,none⟩,str f.name)]) (by kernel_rfl) (by kernel_rfl) (by kernel_rfl) (by kernel_rfl) (by kernel_rfl) (λ_ _ h hb=>h.below hb) (λp hp=>by simp only[List.mem_cons,List.not_mem_nil,or_false] at hp;rcases hp with rfl|rfl<;>assumption) ?_ ?_ ?_
    · intro p hp
      simp only[List.mem_cons,List.not_mem_nil,or_false] at hp;rcases hp with rfl
      · exact rfl
    · iterate 9
       refine And.intro ?_ ?_
       · first
         | exact dr (by kernel_rfl) rfl
         | exact Mn (.inl rfl) (by kernel_rfl) rfl (by kernel_rfl)
         | exact Mn (.inr rfl) (by kernel_rfl) rfl (by kernel_rfl)
         | exact EY rfl (by kernel_rfl) rfl rfl (by kernel_rfl)
         | exact Hy rfl (by kernel_rfl) rfl rfl rfl
         | exact eX rfl (by kernel_rfl) (by kernel_rfl) rfl rfl
         | exact gN rfl (by kernel_rfl) rfl rfl (λw=>by simp[go_sem])
         | exact iC rfl (by kernel_rfl) rfl rfl rfl (λw=>by simp[go_sem])
         | exact gv rfl (by kernel_rfl) rfl rfl (λw hS=>by simp[go_sem,(hS.get 0 rfl),(hS.get 1 rfl)])
         | exact vM rfl (enters_of Tryz.func106 (by kernel_rfl) rfl) (by kernel_rfl) rfl (λwx _=>(Cj wx).mono (by rintro e w' ⟨rfl,hb⟩;exact⟨_,rfl,rfl,hb⟩))
         | exact AE (u:=.agg #[str [],str [112,114,111,99],str [105,116,101,114],str [99,108,117,115,116,101,114]]) (v:=.int .u8 f.kind) (.tmp 15) (.tmp 17) (by kernel_rfl) rfl rfl (by kernel_rfl) (λev wx _ h1 h2=>Ga hk1 yW rfl rfl ev wx h1 h2)
         | exact LB rfl rfl (by kernel_rfl) rfl rfl rfl (by kernel_rfl) NU (by simp[maxLen]) hnl (λ_ _=>trivial)
         | exact er (s1:=.ss [FA f.kind,[32],f.name]) rfl (enters_of Tryz.func105 (by kernel_rfl) rfl) (by kernel_rfl) rfl rfl (λv wx _ h1=>(iQ (D:=Any) hJ v wx h1 (by omega) (by simp)).mono (by rintro e w' ⟨rfl,hb⟩;exact⟨_,rfl,rfl,hb⟩))
         | exact eW rfl (by kernel_rfl) rfl rfl rfl (λw=>by simp[go_sem])
      exact trivial
    · intro aE vE wE mo fM Pv _ SI
      obtain rfl:vE=str J:=SI _ rfl;rw[Pv];clear Pv;simp only[List.take_succ_cons,List.take_zero,dA,pz,pw];have O4:Below W0.heap.size W0 wE:=aC.trans (af fM aC.size);have TI:=bz (ah bT O4);have TX:¬9223372036854775807<J.length+3:=by omega
      have TY:¬9223372036854775807<J.length+1:=by omega
      have TZ:¬9223372036854775807<J.length+3+1:=by omega
      skip;go_wp2_with fail;have hs:True:=trivial;go_loopw [5,32] (λa y wx=>∃i:Nat,i≤f.ag.length∧y=.int .i64 i∧a=str (X++(f.ag.take i).flatMap (dR [104,97,115]))∧Below W0.heap.size W0 wx) (λ_ y _=>f.ag.length - (intOf y).toNat)
      case atStart=>exact⟨0,Nat.zero_le _,by go_num,by simp[←hX],O4⟩
      case round =>
       clear hs;obtain⟨i,hi,rfl,rfl,hB⟩:=hrel;have DD:=L8.below hB zr
       by_cases hlt:i<f.ag.length
       case neg=>
        have hie:i=f.ag.length:=by omega
        subst hie;rw[List.take_length];obtain⟨Y,HY⟩:∃Y,Hid (X++f.ag.flatMap (dR [104,97,115])=Y):=⟨_,zh rfl⟩
        have Ue:Y.length≤10000:=by rw[←HY.out,List.length_append];have:=Nat.mul_le_mul_right 2000 PI;omega
        rw[HY.out];have MG:=bz (ah bT hB);have O6:=hB;go_wp2_with fail;clear hB;have hs:True:=trivial;go_loopw [5,47] (λa y wx=>∃i:Nat,i≤f.ops.length∧y=.int .i64 i∧a=str (Y++(f.ops.take i).flatMap (dR [111,112]))∧Below W0.heap.size W0 wx) (λ_ y _=>f.ops.length - (intOf y).toNat)
        case atStart=>exact⟨0,Nat.zero_le _,by go_num,by simp,O6⟩
        case round=>
         clear O6 MG hi;clear hs;obtain⟨i,hi,rfl,rfl,hB⟩:=hrel;have DD:=Ma.below hB zr
         by_cases hlt:i<f.ops.length
         case neg=>
          have hie:i=f.ops.length:=by omega
          subst hie;rw[List.take_length];have AQ:=zh (HY.out▸HX.out);go_wp2_with fail;go_ret2;rw[AQ.out];exact⟨rfl,hA.trans (af hB IV)⟩
         case pos=>
          obtain⟨x,hx⟩:∃x,f.ops[i]? =some x:=⟨_,List.getElem?_eq_getElem hlt⟩
          have tO:=List.mem_of_getElem? hx;obtain⟨b1,o1,av,sv,mq,Il,⟨F8,mI⟩,fe,eE,uq,pG,od,pZ,rK⟩:=DD.at hx;subst mq;obtain⟨pa,ca,rfl,_⟩:=fe.shape;obtain⟨ps,cs,rfl,_⟩:=eE.shape;have ig:=(zb wr).alloc zr (.cells #[str x.name,.bool x.sig.iter,.slice pa x.sig.args.length ca,str x.sig.res,.slice ps x.sig.sigs.length cs] 50);have bL:=hB.alloc hB.size (.cells #[str x.name,.bool x.sig.iter,.slice pa x.sig.args.length ca,str x.sig.res,.slice ps x.sig.sigs.length cs] 50);have oN:=bz (heap_alloc_new wr (.cells #[str x.name,.bool x.sig.iter,.slice pa x.sig.args.length ca,str x.sig.res,.slice ps x.sig.sigs.length cs] 50));have HL:=xM [111,112] x.name _ x.sig _ ⟨_,_,rfl,mI,fe.below ig zr,eE.below ig zr⟩ (by simp) (hos x tO).1 (hos x tO).2;have FP:=vp (wd:=[111,112]) (by simp) (hos x tO).1 (hos x tO).2;have H7:=zh (show(Y++(f.ops.take i).flatMap (dR [111,112]))++dR [111,112] ⟨x.name,x.sig⟩=Y++(f.ops.take (i+1)).flatMap (dR [111,112]) by rw[List.take_add_one,hx,Option.toList_some,List.flatMap_append,List.append_assoc];simp);have Mc:(Y++(f.ops.take i).flatMap (dR [111,112])).length≤100000:=by
           have h2:=lB (wd:=[111,112]) (by simp) (f.ops.take i) (λo ho=>hos o (List.mem_of_mem_take ho));rw[List.length_take] at h2;rw[List.length_append];have h3:=Nat.mul_le_mul_right 2000 (show min i f.ops.length≤20 by omega);omega
          generalize (Y++(f.ops.take i).flatMap (dR [111,112]))=A at *;have FP:(dR [111,112] ⟨x.name,x.sig⟩).length≤2000:=FP;generalize dR [111,112] ⟨x.name,x.sig⟩=B at *;have Ri:¬9223372036854775807<A.length+B.length:=by omega
          clear hx DD ig;go_wp2_with (go_at_call 107;refine HL.mono ?_;clear HL;rintro e w3 ⟨rfl,aH⟩);exact⟨⟨i+1,hlt,by go_num,by rw[←H7.out],bL.trans (af aH bL.size)⟩,by simp only[intOf];omega⟩
       case pos=>
        obtain⟨x,hx⟩:∃x,f.ag[i]? =some x:=⟨_,List.getElem?_eq_getElem hlt⟩
        have tO:=List.mem_of_getElem? hx;obtain⟨b1,o1,av,sv,mq,Il,⟨F8,mI⟩,fe,eE,uq,pG,od,pZ,rK⟩:=DD.at hx;subst mq;obtain⟨pa,ca,rfl,_⟩:=fe.shape;obtain⟨ps,cs,rfl,_⟩:=eE.shape;have ig:=(zb wr).alloc zr (.cells #[str x.name,.bool x.sig.iter,.slice pa x.sig.args.length ca,str x.sig.res,.slice ps x.sig.sigs.length cs] 79);have bL:=hB.alloc hB.size (.cells #[str x.name,.bool x.sig.iter,.slice pa x.sig.args.length ca,str x.sig.res,.slice ps x.sig.sigs.length cs] 79);have oN:=bz (heap_alloc_new wr (.cells #[str x.name,.bool x.sig.iter,.slice pa x.sig.args.length ca,str x.sig.res,.slice ps x.sig.sigs.length cs] 79));have HL:=xM [104,97,115] x.name _ x.sig _ ⟨_,_,rfl,mI,fe.below ig zr,eE.below ig zr⟩ (by simp) (yX x tO).1 (yX x tO).2;have FP:=vp (wd:=[104,97,115]) (by simp) (yX x tO).1 (yX x tO).2;have H7:=zh (show(X++(f.ag.take i).flatMap (dR [104,97,115]))++dR [104,97,115] ⟨x.name,x.sig⟩=X++(f.ag.take (i+1)).flatMap (dR [104,97,115]) by rw[List.take_add_one,hx,Option.toList_some,List.flatMap_append,List.append_assoc];simp);have Mc:(X++(f.ag.take i).flatMap (dR [104,97,115])).length≤100000:=by
         have h2:=lB (wd:=[104,97,115]) (by simp) (f.ag.take i) (λo ho=>yX o (List.mem_of_mem_take ho));rw[List.length_take] at h2;rw[List.length_append];have h3:=Nat.mul_le_mul_right 2000 (show min i f.ag.length≤20 by omega);omega
        generalize (X++(f.ag.take i).flatMap (dR [104,97,115]))=A at *;have FP:(dR [104,97,115] ⟨x.name,x.sig⟩).length≤2000:=FP;generalize dR [104,97,115] ⟨x.name,x.sig⟩=B at *;have Ri:¬9223372036854775807<A.length+B.length:=by omega
        clear hx DD ig;go_wp2_with (go_at_call 107;refine HL.mono ?_;clear HL;rintro e w3 ⟨rfl,aH⟩);exact⟨⟨i+1,hlt,by go_num,by rw[←H7.out],bL.trans (af aH bL.size)⟩,by simp only[intOf];omega⟩
end Go.Proofs.YtakgjcfkdemipaaGreatDoor
