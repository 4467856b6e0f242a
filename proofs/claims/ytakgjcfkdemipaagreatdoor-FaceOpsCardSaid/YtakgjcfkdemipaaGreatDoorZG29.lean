/-
  Lemmas for the statement: contract: of the package face: Write. What the reference's fits answers (plain), and that it is what lacks answers. Append of a slice's texts, or operations, behind a row of the call's own. Conditions: bounds of lengths; the variable strings.asciiSpace.
-/
import Derived.Test.YtakgjcfkdemipaaGreatDoorZGn
import Derived.Test.YtakgjcfkdemipaaGreatDoorZG23
import Derived.Test.YtakgjcfkdemipaaGreatDoorZG28
set_option maxHeartbeats 25600000
namespace Go.Proofs.YtakgjcfkdemipaaGreatDoor
open Go Go.RowKit
section
variable {D:Nat→Prop} {ops:Array Oper} {h:Nat} {V:List VS} {E:List (Nat×VS)} {S:World→Prop} {k:Nat} {o:Oper}
theorem RT {t:TypeId} {x y z:Operand} {s u q:List UInt8} (ho:o.op=.buildSlice t 3 #[(0,x),(1,y),(2,z)]) (ht:t=34) (hw:dN ops h V o=some true) (hk:V[k]? =some (.ss [s,u,q])) (hx:aM ops h V E o x=some (.eq (str s))) (hy:aM ops h V E o y=some (.eq (str u))) (hz:aM ops h V E o z=some (.eq (str q)))
 (hl:s.length≤maxLen) (hl2:u.length≤maxLen) (UF:q.length≤maxLen) (hD:∀w,S w→D w.heap.size):bX D Tryz.prog S ops h V E k o:=
 qN [(x,.eq (str s)),(y,.eq (str u)),(z,.eq (str q))] hw hk (by simp[hx,hy,hz]) λa w Q hS hi next hn=>by
  have h1:a.eval x=str s:=hi (x,.eq (str s)) (by simp);have h2:a.eval y=str u:=hi (y,.eq (str u)) (by simp);have h3:a.eval z=str q:=hi (z,.eq (str q)) (by simp);subst ht;unfold Oper.wp;have hrun:∀ev:Operand→Value,ev x=str s→ev y=str u→ev z=str q→(execOp ev o).run Tryz.prog w=.ok (.value (.slice (some ⟨w.heap.size,0,none⟩) 3 3)) (w.alloc (.cells #[str s,str u,str q] 9)):=λev h1 h2 h3=>by
   unfold execOp;simp[ho,h1,h2,h3,go_sem]
  rw[hrun _ h1 h2 h3];exact hn _ _ (SS.new D w (hD w hS) [s,u,q] 9 (0,0) (by unfold maxLen;simp) (by
   intro g hg;simp only[List.mem_cons,List.not_mem_nil,or_false] at hg;rcases hg with rfl|rfl|rfl<;>assumption)) ((Below.refl _ w).alloc (nl _) _)
end
def Kh (k:Nat):List UInt8:=if k=1 then [112,114,111,99] else if k=2 then [105,116,101,114] else [99,108,117,115,116,101,114]
theorem Ej (k:Nat):(Kh k).length≤7:=by unfold Kh;split;simp;split<;>simp
theorem IY (w:World):(Instr.index 127 (.agg #[str [],str [112,114,111,99],str [105,116,101,114],str [99,108,117,115,116,101,114]]) (.int .u8 1)).run Tryz.prog w=.ok (str [112,114,111,99]) w∧(Instr.index 127 (.agg #[str [],str [112,114,111,99],str [105,116,101,114],str [99,108,117,115,116,101,114]]) (.int .u8 2)).run Tryz.prog w=.ok (str [105,116,101,114]) w∧(Instr.index 127 (.agg #[str [],str [112,114,111,99],str [105,116,101,114],str [99,108,117,115,116,101,114]]) (.int .u8 3)).run Tryz.prog w=.ok (str [99,108,117,115,116,101,114]) w:=⟨by kernel_rfl,by kernel_rfl,by kernel_rfl⟩
theorem K0 {o:Oper} {t:TypeId} {x y:Operand} {k:Nat} (h1:1≤k) (h3:k≤3) (ho:o.op=.index t x y:=by rfl) (ht:t=127:=by rfl) (ev:Operand→Value) (w:World) (e1:ev x=.agg #[str [],str [112,114,111,99],str [105,116,101,114],str [99,108,117,115,116,101,114]]) (e2:ev y=.int .u8 k):(execOp ev o).run Tryz.prog w=.ok (.value (str (Kh k))) w:=by
 subst ht
 have:k=1∨k=2∨k=3:=by omega
 obtain⟨q1,q2,q3⟩:=IY w
 rcases this with rfl|rfl|rfl<;>simp[execOp,ho,e1,e2,go_sem,Kh,q1,q2,q3]
theorem Cx {f:aB} (hf:eU f=true):f.name.length≤12∧(∀o∈f.ag,o.name.length≤12∧tr o.sig)∧∀o∈f.ops,o.name.length≤12∧tr o.sig:=by
 have hp:=ec hf
 have hn:=hp.2.2.2.1
 refine⟨lS hp.1,λo ho=>?_,λo ho=>?_⟩
 · unfold bh at hn
   simp only[Bool.and_eq_true,List.all_eq_true,decide_eq_true_eq] at hn;exact⟨lS (qZ hn.2 _ (List.mem_map_of_mem ho)),EA (hn.1.1 o ho)⟩
 · have:=hp.2.2.2.2.2.2.2.1 o ho
   exact⟨lS this.1,EA this.2⟩
set_option maxRecDepth 8000 in
theorem Gu {D : Nat → Prop} (v : Value) (f : aB) (w : World) (ht : fN w) (hv : fE D w v f) (hn : f.ag.length ≤ 100000) :
 Calls Tryz.prog 51 #[v] w λe w'=>e=.returned (.tuple #[str (vR f).1,.int .i64 (vR f).2])∧Below w.heap.size w w':=by
 obtain⟨nv,ov,rfl,hnl,hN,hO⟩:=hv
 have hA:=(Below.refl _ w).alloc (nl _) (.cells #[str f.name,.int .u8 f.kind,.bool f.par,nv,ov] 58)
 have cI:=heap_alloc_new w (.cells #[str f.name,.int .u8 f.kind,.bool f.par,nv,ov] 58)
 have Si:=hN.below hA (nl _)
 have Sk:=hO.below hA (nl _)
 have HC:=o8 _ f (w.alloc (.cells #[str f.name,.int .u8 f.kind,.bool f.par,nv,ov] 58)) (ht.below hA (nl _)) ⟨nv,ov,rfl,hnl,Si,Sk⟩ hn
 have HW:vR f=if eU f=true then(DX f,0) else([],42):=rfl
 have HE:jS f=if eU f=true then 0 else 42:=rfl
 obtain⟨p1,c1,rfl,_⟩:=hN.shape
 obtain⟨p2,c2,rfl,_⟩:=hO.shape
 generalize vR f=WR at *
 rcases hf:eU f with _|_
 · rw[HE,hf] at HC
   rw[hf] at HW;have HX:=Lib.hid HW;clear HW HE hN hO Si Sk hf;go_enter Tryz.func51,Tryz.ntmps51;go_wp2_with (go_at_call 38;refine HC.mono ?_;clear HC;rintro e w2 ⟨rfl,aA⟩);go_ret2;rw[HX.out];exact⟨rfl,hA.trans (af aA (by simp))⟩
 · rw [HE, hf] at HC
   rw[hf] at HW;have hp:=ec hf;obtain⟨hnm,Cf,hos⟩:=Cx hf;have hk1:=hp.2.1;have Ce:=hp.2.2.1;have GD:=(dr hp.2.2.2.1).1;have hlo:=hp.2.2.2.2.2.2.1;have Q5:(Kh f.kind).length≤maxLen:=by have:=Ej f.kind;unfold maxLen;omega
   have Ze:=Ej f.kind;obtain⟨J,hJ⟩:∃J,[Kh f.kind,[32],f.name].flatten=J:=⟨_,rfl⟩
   have hJl:J.length≤30:=by rw[←hJ];simp;omega
   obtain⟨X,hX⟩:∃X,(J++(if f.par=true then [91,116,93] else []))++[10]=X:=⟨_,rfl⟩
   have hXl:X.length≤40:=by rw[←hX];cases f.par<;>simp<;>omega
   have hft:DX f=X++f.ag.flatMap (fG [104,97,115])++f.ops.flatMap (fG [111,112]):=by
    unfold DX;rw[←hX,←hJ];unfold Kh;cases f.par<;>simp
   have HX:=Lib.hid (show WR=(X++f.ag.flatMap (fG [104,97,115])++f.ops.flatMap (fG [111,112]),0) by rw[HW,hft];rfl);have V8:=nE (wd:=[104,97,115]) (by simp) f.ag Cf;have hOl:=nE (wd:=[111,112]) (by simp) f.ops hos;clear HW HE hft hN hO hf hp;obtain⟨W0,Ss⟩:∃W0,w.alloc (.cells #[str f.name,.int .u8 f.kind,.bool f.par,.slice p1 f.ag.length c1,.slice p2 f.ops.length c2] 58)=W0:=⟨_,rfl⟩
   have HC:Calls Tryz.prog 38 #[.agg #[str f.name,.int .u8 f.kind,.bool f.par,.slice p1 f.ag.length c1,.slice p2 f.ops.length c2]] (w.alloc (.cells #[str f.name,.int .u8 f.kind,.bool f.par,.slice p1 f.ag.length c1,.slice p2 f.ops.length c2] 58)) λe w'=>e=.returned (.int .i64 0)∧Below W0.heap.size W0 w':=by rw[←Ss];exact HC
   have NP:w.heap.size≤W0.heap.size:=by rw[←Ss];simp
   rw[Ss] at hA cI Si Sk;clear Ss;have bx:=bL cI;rcases hpar:f.par with _|_
   all_goals
    rw[hpar] at hX HC;simp only[Bool.false_eq_true,if_false,if_true,List.append_nil] at hX;go_enter Tryz.func51,Tryz.ntmps51;go_upto_region 4 with(go_at_call 38;refine HC.mono ?_;clear HC;rintro e w2 ⟨rfl,aA⟩);have iw:=ah cI aA;have LP:=bL iw;have k0:=Below.keep (Below.refl _ w2).drew LP.1.1;have k1:=Below.keep (Below.refl _ w2).drew LP.1.2.1;clear LP bx iw;refine dB (D:=Any) 8 [(1,.eq (.pointer (some ⟨w.heap.size,0,none⟩)))] [(.eq (.agg #[str [],str [112,114,111,99],str [105,116,101,114],str [99,108,117,115,116,101,114]])),(.eq (.pointer (some ⟨w.heap.size,1,none⟩))),(.eq (.int .u8 f.kind)),(.eq (str (Kh f.kind))),(.eq (.pointer (some ⟨w.heap.size,0,none⟩))),(.eq (str f.name)),(.ss [Kh f.kind,[32],f.name]),(.eq (str J)),(.eq (str J))] (aW [(⟨w.heap.size,1,none⟩,.int .u8 f.kind),(⟨w.heap.size,0,none⟩,str f.name)]) (by kernel_rfl) (by kernel_rfl) (by kernel_rfl) (by kernel_rfl) (by kernel_rfl) (λ_ _ h hb=>h.below hb) (λp hp=>by simp only[List.mem_cons,List.not_mem_nil,or_false] at hp;rcases hp with rfl|rfl<;>assumption) ?_ ?_ ?_
    · intro p hp
      simp only[List.mem_cons,List.not_mem_nil,or_false] at hp;rcases hp with rfl
      · exact rfl
    · iterate 9
       refine And.intro ?_ ?_
       · first
         | exact bV (by kernel_rfl) rfl
         | exact zG (.inl rfl) (by kernel_rfl) rfl (by kernel_rfl)
         | exact zG (.inr rfl) (by kernel_rfl) rfl (by kernel_rfl)
         | exact mo rfl (by kernel_rfl) rfl rfl (by kernel_rfl)
         | exact qM rfl (by kernel_rfl) rfl rfl rfl
         | exact dS rfl (by kernel_rfl) (by kernel_rfl) rfl rfl
         | exact fK rfl (by kernel_rfl) rfl rfl (λw=>by simp[go_sem])
         | exact fZ rfl (by kernel_rfl) rfl rfl rfl (λw=>by simp[go_sem])
         | exact fq rfl (by kernel_rfl) rfl rfl (λw hS=>by simp[go_sem,(hS.get 0 rfl),(hS.get 1 rfl)])
         | exact zo rfl (enters_of Tryz.func106 (by kernel_rfl) rfl) (by kernel_rfl) rfl (λwx _=>(Fs wx).mono (by rintro e w' ⟨rfl,hb⟩;exact⟨_,rfl,rfl,hb⟩))
         | exact BK (u:=.agg #[str [],str [112,114,111,99],str [105,116,101,114],str [99,108,117,115,116,101,114]]) (v:=.int .u8 f.kind) (.tmp 15) (.tmp 17) (by kernel_rfl) rfl rfl (by kernel_rfl) (λev wx _ h1 h2=>K0 hk1 Ce rfl rfl ev wx h1 h2)
         | exact RT rfl rfl (by kernel_rfl) rfl rfl rfl (by kernel_rfl) Q5 (by simp[maxLen]) hnl (λ_ _=>trivial)
         | exact eP (s1:=.ss [Kh f.kind,[32],f.name]) rfl (enters_of Tryz.func105 (by kernel_rfl) rfl) (by kernel_rfl) rfl rfl (λv wx _ h1=>(jX (D:=Any) hJ v wx h1 (by omega) (by simp)).mono (by rintro e w' ⟨rfl,hb⟩;exact⟨_,rfl,rfl,hb⟩))
         | exact dA rfl (by kernel_rfl) rfl rfl rfl (λw=>by simp[go_sem])
      exact trivial
    · intro aE vE wE jv eu xe _ vU
      obtain rfl:vE=str J:=vU _ rfl;rw[xe];clear xe;simp only[List.take_succ_cons,List.take_zero,dQ,pz,pw];have Kz:Below W0.heap.size W0 wE:=aA.trans (af eu aA.size);have bxE:=bL (ah cI Kz);have gJ1:¬9223372036854775807<J.length+3:=by omega
      have gJ2:¬9223372036854775807<J.length+1:=by omega
      have gJ3:¬9223372036854775807<J.length+3+1:=by omega
      skip;go_wp2_with fail;have hs:True:=trivial;go_loopw [5,32] (λa y wx=>∃i:Nat,i≤f.ag.length∧y=.int .i64 i∧a=str (X++(f.ag.take i).flatMap (fG [104,97,115]))∧Below W0.heap.size W0 wx) (λ_ y _=>f.ag.length - (intOf y).toNat)
      case atStart=>exact⟨0,Nat.zero_le _,by go_num,by simp[←hX],Kz⟩
      case round =>
       clear hs;obtain⟨i,hi,rfl,rfl,hB⟩:=hrel;have Hx:=Si.below hB (nl _)
       by_cases hlt:i<f.ag.length
       case neg=>
        have hie:i=f.ag.length:=by omega
        subst hie;rw[List.take_length];obtain⟨Y,HY⟩:∃Y,Hid (X++f.ag.flatMap (fG [104,97,115])=Y):=⟨_,Lib.hid rfl⟩
        have hYl:Y.length≤10000:=by rw[←HY.out,List.length_append];have:=Nat.mul_le_mul_right 2000 GD;omega
        rw[HY.out];have Tc:=bL (ah cI hB);have OG:=hB;go_wp2_with fail;clear hB;have hs:True:=trivial;go_loopw [5,47] (λa y wx=>∃i:Nat,i≤f.ops.length∧y=.int .i64 i∧a=str (Y++(f.ops.take i).flatMap (fG [111,112]))∧Below W0.heap.size W0 wx) (λ_ y _=>f.ops.length - (intOf y).toNat)
        case atStart=>exact⟨0,Nat.zero_le _,by go_num,by simp,OG⟩
        case round=>
         clear OG Tc hi;clear hs;obtain⟨i,hi,rfl,rfl,hB⟩:=hrel;have Hx:=Sk.below hB (nl _)
         by_cases hlt:i<f.ops.length
         case neg=>
          have hie:i=f.ops.length:=by omega
          subst hie;rw[List.take_length];have DQ:=Lib.hid (HY.out▸HX.out);go_wp2_with fail;go_ret2;rw[DQ.out];exact⟨rfl,hA.trans (af hB NP)⟩
         case pos=>
          obtain⟨x,hx⟩:∃x,f.ops[i]? =some x:=⟨_,List.getElem?_eq_getElem hlt⟩
          have xA:=List.mem_of_getElem? hx;obtain⟨b1,o1,av,sv,kj,KD,⟨Az,kC⟩,dy,cQ,uR,kK,mR,qG,sN⟩:=Hx.at hx;subst kj;obtain⟨pa,ca,rfl,_⟩:=dy.shape;obtain⟨ps,cs,rfl,_⟩:=cQ.shape;have jE:=(Below.refl _ wr).alloc (nl _) (.cells #[str x.name,.bool x.sig.iter,.slice pa x.sig.args.length ca,str x.sig.res,.slice ps x.sig.sigs.length cs] 50);have bJ:=hB.alloc hB.size (.cells #[str x.name,.bool x.sig.iter,.slice pa x.sig.args.length ca,str x.sig.res,.slice ps x.sig.sigs.length cs] 50);have rV:=bL (heap_alloc_new wr (.cells #[str x.name,.bool x.sig.iter,.slice pa x.sig.args.length ca,str x.sig.res,.slice ps x.sig.sigs.length cs] 50));have HL:=AZ [111,112] x.name _ x.sig _ ⟨_,_,rfl,kC,dy.below jE (nl _),cQ.below jE (nl _)⟩ (by simp) (hos x xA).1 (hos x xA).2;have Ak:=yW (wd:=[111,112]) (by simp) (hos x xA).1 (hos x xA).2;have MK:=Lib.hid (show(Y++(f.ops.take i).flatMap (fG [111,112]))++fG [111,112] ⟨x.name,x.sig⟩=Y++(f.ops.take (i+1)).flatMap (fG [111,112]) by rw[List.take_add_one,hx,Option.toList_some,List.flatMap_append,List.append_assoc];simp);have Sr:(Y++(f.ops.take i).flatMap (fG [111,112])).length≤100000:=by
           have h2:=nE (wd:=[111,112]) (by simp) (f.ops.take i) (λo ho=>hos o (List.mem_of_mem_take ho));rw[List.length_take] at h2;rw[List.length_append];have h3:=Nat.mul_le_mul_right 2000 (show min i f.ops.length≤20 by omega);omega
          generalize (Y++(f.ops.take i).flatMap (fG [111,112]))=A at *;have Ak:(fG [111,112] ⟨x.name,x.sig⟩).length≤2000:=Ak;generalize fG [111,112] ⟨x.name,x.sig⟩=B at *;have Yk:¬9223372036854775807<A.length+B.length:=by omega
          clear hx Hx jE;go_wp2_with (go_at_call 107;refine HL.mono ?_;clear HL;rintro e w3 ⟨rfl,aK⟩);exact⟨⟨i+1,hlt,by go_num,by rw[←MK.out],bJ.trans (af aK bJ.size)⟩,by simp only[intOf];omega⟩
       case pos=>
        obtain⟨x,hx⟩:∃x,f.ag[i]? =some x:=⟨_,List.getElem?_eq_getElem hlt⟩
        have xA:=List.mem_of_getElem? hx;obtain⟨b1,o1,av,sv,kj,KD,⟨Az,kC⟩,dy,cQ,uR,kK,mR,qG,sN⟩:=Hx.at hx;subst kj;obtain⟨pa,ca,rfl,_⟩:=dy.shape;obtain⟨ps,cs,rfl,_⟩:=cQ.shape;have jE:=(Below.refl _ wr).alloc (nl _) (.cells #[str x.name,.bool x.sig.iter,.slice pa x.sig.args.length ca,str x.sig.res,.slice ps x.sig.sigs.length cs] 79);have bJ:=hB.alloc hB.size (.cells #[str x.name,.bool x.sig.iter,.slice pa x.sig.args.length ca,str x.sig.res,.slice ps x.sig.sigs.length cs] 79);have rV:=bL (heap_alloc_new wr (.cells #[str x.name,.bool x.sig.iter,.slice pa x.sig.args.length ca,str x.sig.res,.slice ps x.sig.sigs.length cs] 79));have HL:=AZ [104,97,115] x.name _ x.sig _ ⟨_,_,rfl,kC,dy.below jE (nl _),cQ.below jE (nl _)⟩ (by simp) (Cf x xA).1 (Cf x xA).2;have Ak:=yW (wd:=[104,97,115]) (by simp) (Cf x xA).1 (Cf x xA).2;have MK:=Lib.hid (show(X++(f.ag.take i).flatMap (fG [104,97,115]))++fG [104,97,115] ⟨x.name,x.sig⟩=X++(f.ag.take (i+1)).flatMap (fG [104,97,115]) by rw[List.take_add_one,hx,Option.toList_some,List.flatMap_append,List.append_assoc];simp);have Sr:(X++(f.ag.take i).flatMap (fG [104,97,115])).length≤100000:=by
         have h2:=nE (wd:=[104,97,115]) (by simp) (f.ag.take i) (λo ho=>Cf o (List.mem_of_mem_take ho));rw[List.length_take] at h2;rw[List.length_append];have h3:=Nat.mul_le_mul_right 2000 (show min i f.ag.length≤20 by omega);omega
        generalize (X++(f.ag.take i).flatMap (fG [104,97,115]))=A at *;have Ak:(fG [104,97,115] ⟨x.name,x.sig⟩).length≤2000:=Ak;generalize fG [104,97,115] ⟨x.name,x.sig⟩=B at *;have Yk:¬9223372036854775807<A.length+B.length:=by omega
        clear hx Hx jE;go_wp2_with (go_at_call 107;refine HL.mono ?_;clear HL;rintro e w3 ⟨rfl,aK⟩);exact⟨⟨i+1,hlt,by go_num,by rw[←MK.out],bJ.trans (af aK bJ.size)⟩,by simp only[intOf];omega⟩
end Go.Proofs.YtakgjcfkdemipaaGreatDoor
namespace Go.Proofs.YtakgjcfkdemipaaGreatDoor
open Go.RowKit
def GX (c:aR) (n:Nat) (want:List aG) (t:List UInt8):List aG×List UInt8:=if want≠[]∧cV c n t=0 then(cN (nI c t),(cG c t).2) else([],[])
def jY (R:List aG×List UInt8) (want:List aG) (t:List UInt8):Option (List UInt8):=(want.find? λx=> !A5 R.1 R.2 t x).map (·.name)
def sJ (c:aR) (n:Nat) (want:List aG) (t:List UInt8):Option (List UInt8):=jY (GX c n want t) want t
theorem rj {c:aR} {n:Nat} {want:List aG} {t:List UInt8} (h0:(aq t).1=0) (ho:gW (cG c t).1) (hg:want=[]∨cV c n t=0):sJ c n want t=dP c want t:=by
 unfold sJ jY dP GX
 rcases hg with rfl|hg
 · rfl
 · by_cases hw:want=[]
   · subst hw;rfl
   · rw[if_pos ⟨hw,hg⟩]
     congr 2
     funext x;rw[I6 c t x ho ((jg _).trans (x8 c h0))];simp
theorem Hh {c:aR} {n:Nat} {want:List aG} {t:List UInt8} (hw:want≠[]) (hg:cV c n t≠0):(sJ c n want t).isSome=true:=by
 unfold sJ jY GX
 rw[if_neg (λh=>hg h.2)]
 cases want with
 | nil=>exact absurd rfl hw
 | cons x l=>
  rw[List.find?_cons_of_pos (by simp[A5])]
  rfl
theorem Hj {c:aR} {n:Nat} {want:List aG} {t:List UInt8} (h0:(aq t).1=0) (ho:gW (cG c t).1):vW c n want t=(sJ c n want t).isNone:=by
 unfold vW
 by_cases hw:want=[]
 · rw[rj h0 ho (.inl hw)]
   subst hw;simp[dP]
 · by_cases hg:cV c n t=0
   · rw[rj h0 ho (.inr hg)]
     simp[hg]
   · have:=Hh (c:=c) (n:=n) (want:=want) (t:=t) hw hg
     rw[Option.isNone_eq_false_iff.2 this];simp[hw,hg]
theorem CA {c : aR} {n : Nat} {t : List UInt8} (h : cV c (n + 1) t = 0) (hk : (aq t).2.k = 7) : ∃ f, ez c.bK (dI t).1 = some f := by
 unfold cV at h
 split at h
 · exact absurd h ‹_›
 · rename_i h0
   split at h
   · omega
   · rcases hf:ez c.bK (dI t).1 with _|f
     · exfalso
       have h0':(aq t).1=0:=by omega
       have hm:t∈(dO t).1:=by
        rcases hq:aq t with⟨e,T⟩;rw[hq] at h0';simp only at h0';subst h0';obtain⟨r,h1,_⟩:=qB hq;rw[h1];exact List.mem_cons_self ..
       have hz:∀(l:List Nat),dV l=0→∀e∈l,e=0:=by
        intro l
        induction l with
        | nil=>intro _ e he;cases he
        | cons a l ih=>
         intro hl e he;rw[dV] at hl;split at hl
         · rename_i ha
           rcases List.mem_cons.1 he with rfl|he
           · exact ha
           · exact ih hl e he
         · omega
       have:=hz _ h _ (List.mem_map_of_mem hm);rw[j7 hk hf] at this;omega
     · exact⟨f,rfl⟩
end Go.Proofs.YtakgjcfkdemipaaGreatDoor
namespace Go.Proofs.YtakgjcfkdemipaaGreatDoor
open Go Go.RowKit
theorem mI {P:Program} {w:World} (base:Nat) (t ty e:TypeId) (i:TypeInfo) (size:Nat) (ht:P.underlying t=some (.slice e)) (hi:P.info? e=some i)
 (v:Value) (n:Nat) (xs:List Value) (hown:w.ownsRow base e size v n xs) (p:Option Addr) (c:Nat):
 (Builtin.append_ #[t,t] ty #[v,.slice p 0 c]).run P w=.ok v w:=by
 rcases hown.2 with⟨rfl,rfl⟩|⟨g,cap,cur,rfl,_,_,hnc,_⟩
 · cases p<;>simp[Builtin.append_,run_underlying ht,sizeOf,typeInfo,hi,Builtin.lenOf,Builtin.firstCells,loadCells,loadCellsFrom]
 · cases p<;>simp[Builtin.append_,run_underlying ht,sizeOf,typeInfo,hi,Builtin.lenOf,Builtin.firstCells,hnc,storeCells,loadCells,loadCellsFrom]
theorem wJ {D:Nat→Prop} (w:World) (base:Nat) (ty:TypeId) (v:Value) (A:List (List UInt8)) (hown:w.ownsRow base 9 1 v A.length (aD A)) (y:Value) (L:List (List UInt8)) (hy:SS D w y L) (hm:A.length+L.length≤1000000) (hb:base≤w.heap.size):
 ∃v' w',(Builtin.append_ #[34,34] ty #[v,y]).run Tryz.prog w=.ok v' w'∧w'.ownsRow base 9 1 v' (A++L).length (aD (A++L))∧w.grownBy w' v.ownBlock∧(v'.ownBlock=v.ownBlock∨v'.ownBlock=some w.heap.size):=by
 obtain⟨i0,fV,hz0,hz1,hz2⟩:=bu iP
 obtain⟨p,c,rfl,_,_,_,h4⟩:=hy
 by_cases h0:L=[]
 · subst h0
   refine⟨v,w,mI base _ ty 9 i0 1 fD fV v _ _ hown p c,by simpa using hown,?_,.inl rfl⟩;exact World.grownBy.refl _ _
 · rcases h4 with h4|⟨b,o,rfl,_,_,h6⟩
   · exact absurd h4 h0
   · have hp:0<L.length:=List.length_pos_iff.2 h0
     obtain⟨v',w',h1,h2,h3,h5⟩:=gu (P:=Tryz.prog) w base 34 ty 9 i0 _ 1 16 fD fV hz0 hz1 hz2 rfl (by decide) v A.length (aD A) hown ⟨b,o,none⟩ L.length c (aD L) (by simp[aD]) (λj u hu=>by
      have hj:j<L.length:=by
       have:=(List.getElem?_eq_some_iff.1 hu).1
       simpa[aD] using this
      rw[jO L j hj] at hu;cases hu;rw[Go.WideShapes.add_plain];exact h6 j hj) (yh L) hp (by unfold maxLen;omega) (by omega) hb
     exact⟨v',w',h1,by rw[List.length_append,show aD (A++L)=aD A++aD L by simp[aD]];exact h2,h3,h5⟩
theorem gQ {D:Nat→Prop} {ops:Array Oper} {rest:List Oper} {o:Oper} {a:Act} {Q:Exit→Act→World→Prop} (w:World) (hgd:o.guard=none) (s x:Operand)
 (ho:o.op=.call {callee:=.builtin .append,args:= #[s,x],argTypes:= #[34,34] }) (base:Nat) (v:Value) (A:List (List UInt8)) (hs:a.eval s=v) (hown:w.ownsRow base 9 1 v A.length (aD A))
 (y:Value) (L:List (List UInt8)) (hx:a.eval x=y) (hy:SS D w y L) (hm:A.length+L.length≤1000000) (hb:base≤w.heap.size)
 (h:∀v' w',w'.ownsRow base 9 1 v' (A++L).length (aD (A++L))→w.grownBy w' v.ownBlock→(v'.ownBlock=v.ownBlock∨v'.ownBlock=some w.heap.size)→wpList Tryz.prog ops Q rest (a.put o.dst v') w'):
 wpList Tryz.prog ops Q (o::rest) a w:=by
 refine wpList_plain hgd λK hK=>?_
 obtain⟨v',w',hr,h2,h3,h4⟩:=wJ w base o.type v A hown y L hy hm hb
 unfold Oper.wp execOp
 simp only[ho,resolve,invoke,builtin,Sem.run_bind,Sem.run_pure,Result.andThen_ok,List.map_toArray,List.map_cons,List.map_nil,hs,hx,hr]
 exact hK _ _ (h v' w' h2 h3 h4)
theorem Es {D:Nat→Prop} {w:World} {b:Nat}:∀(l:List aG) (o:Nat),(∀x∈l,mL x)→(∀j (_:j<l.length),∃a s,SS D w a l[j].sig.args∧SS D w s l[j].sig.sigs∧
 w.cell? ⟨b,o+j * 5,none⟩=some (str l[j].name)∧w.cell? ⟨b,o+j * 5+1,none⟩=some (.bool l[j].sig.iter)∧w.cell? ⟨b,o+j * 5+2,none⟩=some a∧w.cell? ⟨b,o+j * 5+3,none⟩=some (str l[j].sig.res)∧w.cell? ⟨b,o+j * 5+4,none⟩=some s)→
 ∃ds,bN D w ds l∧∀j u,ds[j]? =some u→w.cell? ⟨b,o+j,none⟩=some u
 | [],o,_,_=>⟨[],rfl,by simp⟩
 | x::l,o,hle,h=>by
  obtain⟨a,s,h1,h2,c0,c1,c2,c3,c4⟩:=h 0 (by simp);obtain⟨ds,k1,k2⟩:=Es l (o+5) (λy hy=>hle y (List.mem_cons_of_mem _ hy)) λj hj=>by
   have:=h (j+1) (by simpa using hj);rw[show o+(j+1) * 5=o+5+j * 5 by omega] at this
   simpa using this
  refine⟨str x.name::.bool x.sig.iter::a::str x.sig.res::s::ds,⟨a,s,ds,rfl,hle x (List.mem_cons_self ..),h1,h2,k1⟩,λj u hu=>?_⟩
  match j with
  | 0=>simp at hu;subst hu;simpa using c0
  | 1=>simp at hu;subst hu;simpa using c1
  | 2=>simp at hu;subst hu;simpa using c2
  | 3=>simp at hu;subst hu;simpa using c3
  | 4=>simp at hu;subst hu;simpa using c4
  | j+5=>
   have:=k2 j u (by simpa using hu)
   rwa [show o+5+j=o+(j+5) by omega] at this
theorem aJ.cells {D:Nat→Prop} {w:World} {p:Option Addr} {n c:Nat} {l:List aG} (h:aJ D w (.slice p n c) l) (hne:l≠[]):∃b o ds,p=some ⟨b,o,none⟩∧D b∧bN D w ds l∧∀j u,ds[j]? =some u→w.cell? ⟨b,o+j,none⟩=some u:=by
 obtain⟨p',c',e,_,_,h3,h4⟩:=h
 simp only[Value.slice.injEq] at e
 obtain⟨rfl,_,_⟩:=e
 rcases h4 with h4|⟨b,o,e,h5,_,h6⟩
 · exact absurd h4 hne
 · obtain⟨ds,k1,k2⟩:=Es l o h3 h6
   exact⟨b,o,ds,e,h5,k1,k2⟩
theorem iu.nil (X:Nat→Prop) (B:Nat) (w:World):iu X B w (.slice none 0 0) []:=⟨[],World.ownsRow_nil _ _ _ _,rfl⟩
theorem iu.uN {X:Nat→Prop} {B:Nat} {w:World} {v:Value} {l:List aG} (h:iu X B w v l) {D:Nat→Prop} (h1:∀b,B≤b→D b) (h2:∀b,¬X b→D b):aJ D w v l:=by
 obtain⟨cs,k1,k2⟩:=h
 exact aJ.bG k1 (λb hb=>h1 b (k1.lt b hb).1) (k2.mono λb hb=>h2 b hb.2)
theorem sO {X D:Nat→Prop} (w:World) (base:Nat) (ty:TypeId) (v:Value) (A:List aG) (hown:iu X base w v A) (y:Value) (L:List aG) (hy:aJ D w y L) (hD:∀b,D b→v.ownBlock≠some b∧¬X b) (hm:A.length+L.length≤100000) (hb:base≤w.heap.size):
 ∃v' w',(Builtin.append_ #[31,31] ty #[v,y]).run Tryz.prog w=.ok v' w'∧iu X base w' v' (A++L)∧w.grownBy w' v.ownBlock∧(v'.ownBlock=v.ownBlock∨v'.ownBlock=some w.heap.size):=by
 obtain⟨i0,fV,hz0,hz1,hz2⟩:=bu pJ
 obtain⟨cs,hcs,hC⟩:=hown
 obtain⟨p,c,rfl,_⟩:=hy.shape
 by_cases h0:L=[]
 · subst h0
   refine⟨v,w,mI base _ ty 50 i0 5 iT fV v _ _ hcs p c,?_,World.grownBy.refl _ _,.inl rfl⟩;rw[List.append_nil];exact⟨cs,hcs,hC⟩
 · have hp:0<L.length:=List.length_pos_iff.2 h0
   obtain⟨b,o,ds,rfl,_,hd,hcell⟩:=hy.cells h0;obtain⟨v',w',h1,h2,h3,h5⟩:=gu (P:=Tryz.prog) w base 31 ty 50 i0 _ 5 88 iT fV hz0 hz1 hz2 rfl (by decide) v A.length cs hcs ⟨b,o,none⟩ L.length c ds hd.length (λj u hu=>by
    rw[Go.WideShapes.add_plain];exact hcell j u hu) hd.one_cell hp (by unfold maxLen;omega) (by omega) hb
   exact⟨v',w',h1,iu.append hC (hd.mono hD) h2 h3 h5,h3,h5⟩
theorem b9 {X D:Nat→Prop} {ops:Array Oper} {rest:List Oper} {o:Oper} {a:Act} {Q:Exit→Act→World→Prop} (w:World) (hgd:o.guard=none) (s x:Operand)
 (ho:o.op=.call {callee:=.builtin .append,args:= #[s,x],argTypes:= #[31,31] }) (base:Nat) (v:Value) (A:List aG) (hs:a.eval s=v) (hown:iu X base w v A)
 (y:Value) (L:List aG) (hx:a.eval x=y) (hy:aJ D w y L) (hD:∀b,D b→v.ownBlock≠some b∧¬X b) (hm:A.length+L.length≤100000) (hb:base≤w.heap.size)
 (h:∀v' w',iu X base w' v' (A++L)→w.grownBy w' v.ownBlock→(v'.ownBlock=v.ownBlock∨v'.ownBlock=some w.heap.size)→wpList Tryz.prog ops Q rest (a.put o.dst v') w'):
 wpList Tryz.prog ops Q (o::rest) a w:=by
 refine wpList_plain hgd λK hK=>?_
 obtain⟨v',w',hr,h2,h3,h4⟩:=sO w base o.type v A hown y L hy hD hm hb
 unfold Oper.wp execOp
 simp only[ho,resolve,invoke,builtin,Sem.run_bind,Sem.run_pure,Result.andThen_ok,List.map_toArray,List.map_cons,List.map_nil,hs,hx,hr]
 exact hK _ _ (h v' w' h2 h3 h4)
theorem aJ.take {D:Nat→Prop} {w:World} {p:Option Addr} {n c:Nat} {l:List aG} (h:aJ D w (.slice p n c) l) {k:Nat} (hk:k≤l.length) (c':Nat) (Np:k≤c'):aJ D w (.slice p k c') (l.take k):=by
 have hlen:(l.take k).length=k:=by rw[List.length_take];omega
 obtain⟨p',c2,e,h1,h2,h3,h4⟩:=h
 simp only[Value.slice.injEq] at e
 obtain⟨rfl,_,_⟩:=e
 refine⟨p,c',by rw[hlen],by omega,by omega,λx hx=>h3 x (List.mem_of_mem_take hx),?_⟩
 rcases h4 with rfl|⟨b,o,e,h5,h6,h7⟩
 · exact .inl (by simp)
 · exact .inr ⟨b,o,e,h5,h6,λj hj=>by
    have:=h7 j (by omega)
    simpa using this⟩
theorem aJ.drop {D:Nat→Prop} {w:World} {b o n c:Nat} {l:List aG} (h:aJ D w (.slice (some ⟨b,o,none⟩) n c) l) {k m:Nat} (hk:k≤l.length) (hm:m=l.length - k) (c':Nat) (Np:m≤c'):aJ D w (.slice (some ⟨b,o+k * 5,none⟩) m c') (l.drop k):=by
 obtain⟨p',c2,e,h1,h2,h3,h4⟩:=h
 simp only[Value.slice.injEq] at e
 obtain⟨rfl,_,_⟩:=e
 have hlen:(l.drop k).length=m:=by rw[List.length_drop];omega
 refine⟨_,c',by rw[hlen],by omega,by omega,λx hx=>h3 x (List.mem_of_mem_drop hx),?_⟩
 rcases h4 with rfl|⟨b',o',e,h5,h6,h7⟩
 · exact .inl (by simp)
 · simp only[Option.some.injEq,Addr.mk.injEq,and_true] at e
   obtain⟨rfl,rfl⟩:=e;exact .inr ⟨b,_,rfl,h5,h6,λj hj=>by
    have:=h7 (k+j) (by omega);rw[show o+(k+j) * 5=o+k * 5+j * 5 by omega] at this
    simpa using this⟩
end Go.Proofs.YtakgjcfkdemipaaGreatDoor
namespace Go.Proofs.YtakgjcfkdemipaaGreatDoor
open Go.RowKit
set_option maxRecDepth 4000 in
theorem qc {D:Nat→Prop} (x:Value) (s:cD) (w:World) (hx:aT D w x s) (h1:s.args.length≤100000):
 Calls Tryz.prog 93 #[x] w λe w'=>∃v,e=.returned v∧w'.ownsRow (w.heap.size+1) 9 1 v (aI s).length (aD (aI s))∧SS (λb=>w.heap.size<b) w' v (aI s)∧Below w.heap.size w w':=by
 obtain⟨i0,fV,hz0,hz1,hz2⟩:=bu iP
 obtain⟨av,sv,rfl,hr,ha,hs⟩:=hx
 have hal:=Lib.hid ha.le
 obtain⟨p1,c1,rfl,_⟩:=ha.shape
 obtain⟨p2,c2,rfl,_⟩:=hs.shape
 obtain⟨it,ar,re,sg⟩:=s
 dsimp only at *
 have hA:=((Below.refl _ w).alloc (nl _) (.cells #[.bool it,.slice p1 ar.length c1,str re,.slice p2 sg.length c2] 36))
 have hg:=heap_alloc_new w (.cells #[.bool it,.slice p1 ar.length c1,str re,.slice p2 sg.length c2] 36)
 have bx:=(aU hg).1
 have Gx:=hA.alloc (by simp) (.cells #[] 9)
 have ha2:=ha.below Gx (nl _)
 have hg2:=aH (.cells #[] 9) hg
 have hE:((w.alloc (.cells #[.bool it,.slice p1 ar.length c1,str re,.slice p2 sg.length c2] 36)).alloc (.cells #[] 9)).ownsRow (w.heap.size+1) 9 1 (.slice (some ⟨w.heap.size+1,0,none⟩) 0 0) ([]:List (List UInt8)).length (aD []):=
  ⟨rfl,.inr ⟨w.heap.size+1,0,#[],rfl,nl _,by have:=heap_alloc_new (w.alloc (.cells #[.bool it,.slice p1 ar.length c1,str re,.slice p2 sg.length c2] 36)) (.cells #[] 9);rwa [World.size_alloc] at this,nl _,Nat.zero_le _,rfl,rfl⟩⟩
 clear hs ha
 by_cases he:re=[]
 · have he':(re==[])=true:=by rw[he];rfl
   have Ea:re.isEmpty=true:=by rw[he];rfl
   have HT:=Lib.hid (show aI ⟨it,ar,re,sg⟩=ar by unfold aI;rw[if_pos he];simp);clear he;go_enter Tryz.func93,Tryz.ntmps93;go_wp2_with (at_builtin;refine gQ _ rfl _ _ rfl (w.heap.size+1) (.slice (some ⟨w.heap.size+1,0,none⟩) 0 0) [] rfl hE (.slice p1 ar.length c1) ar rfl ha2 (by simp;omega) (by simp) ?_;intro v1 w3 kB hgr n5;have hg3:=dG hgr hg2 (by simp[Value.ownBlock]);have BZ:=(aU hg3).1;obtain⟨q1,d1,rfl⟩:=aS kB);go_ret;rw[HT.out];rw[List.nil_append] at kB;exact⟨_,rfl,kB,SS.bG kB hal.out (λb hb=>by have:=(kB.lt b hb).1;omega),Gx.grown hgr (by simp;omega) (λk e=>by cases e;exact Nat.le_succ _)⟩
 · have he':(re==[])=false:=by simpa using he
   have Ea:re.isEmpty=false:=by simpa using he
   have HT:=Lib.hid (show aI ⟨it,ar,re,sg⟩=ar++[re] by unfold aI;rw[if_neg he]);clear he;go_enter Tryz.func93,Tryz.ntmps93;go_wp2_with (first
    | (at_builtin;refine aL _ rfl _ _ 34 rfl (w.heap.size+1) 9 i0 _ 1 16 fD fV hz0 hz1 hz2 rfl (by decide) _ _ (aD ar) rfl (kB.alloc _) ⟨w3.heap.size,0,none⟩ 1 1 [str re] rfl rfl (cell_one_new _ _ _) (by intro u hu;rw[List.mem_singleton.1 hu];rfl) (by decide) (by unfold maxLen;omega) (by omega) (by simp;omega) ?_;intro v' w4 bM wm _)
    | (at_builtin;refine gQ _ rfl _ _ rfl (w.heap.size+1) (.slice (some ⟨w.heap.size+1,0,none⟩) 0 0) [] rfl hE (.slice p1 ar.length c1) ar rfl ha2 (by simp;omega) (by simp) ?_;intro v1 w3 kB hgr n5;have hg3:=dG hgr hg2 (by simp[Value.ownBlock]);have BZ:=(aU hg3).1;rw[List.nil_append] at kB;obtain⟨q1,d1,rfl⟩:=aS kB;have O1:=hgr.size;simp only[World.size_alloc] at O1))
   go_ret;have hl1:ar.length+1=(ar++[re]).length:=by simp
   rw[hl1,show aD ar++[str re]=aD (ar++[re]) by simp[aD]] at bM;rw[HT.out];refine⟨_,rfl,bM,SS.bG bM ?_ (λb hb=>by have:=(bM.lt b hb).1;omega),?_⟩
   · intro s hs
     rcases List.mem_append.1 hs with hs|hs
     · exact hal.out s hs
     · rw[List.mem_singleton.1 hs];exact hr
   · have dg:=Gx.grown hgr (by simp;omega) (λk e=>by cases e;exact Nat.le_succ _)
     exact(dg.alloc (by omega) _).grown wm (by simp;omega) (λk hk=>by
      have:=(kB.lt k hk).1;omega)
theorem dF {D D':Nat→Prop} (n r:List UInt8) (L G:List (List UInt8)) (va vg:Value) (w:World) (ha:SS D w va L) (hg:SS D' w vg G) (hn:n.length≤maxLen) (hr:r.length≤maxLen):
 Calls Tryz.prog 133 #[str n,va,str r,vg] w λe w'=>∃u,e=.returned u∧gR (λb=>D b∨D' b) w' u ⟨n,⟨false,L,r,G⟩⟩∧Below w.heap.size w w':=by
 have hE:=λW (hW:Below w.heap.size w W)=>ha.below hW (nl _)
 have hF:=λW (hW:Below w.heap.size w W)=>hg.below hW (nl _)
 obtain⟨p1,c1,rfl,_⟩:=ha.shape
 obtain⟨p2,c2,rfl,_⟩:=hg.shape
 have hB:=(Below.refl _ w).alloc (nl _) (.cells #[str n,.bool false,.slice p1 L.length c1,str r,.slice p2 G.length c2] 50)
 have hE:=(hE _ hB).mono (D':=λb=>D b∨D' b) λ_ h=>.inl h
 have hF:=(hF _ hB).mono (D':=λb=>D b∨D' b) λ_ h=>.inr h
 clear ha hg
 go_enter Tryz.func133,Tryz.ntmps133
 go_wp2_with fail
 refine bodyPost_ret (v:=.agg #[str n,.bool false,.slice p1 L.length c1,str r,.slice p2 G.length c2]) (by simp[results,Tryz.results133,go_sem]) rfl ?_
 exact⟨_,rfl,⟨_,_,rfl,⟨hn,hr⟩,hE,hF⟩,hB⟩
set_option maxRecDepth 8000 in
theorem F5 {D D':Nat→Prop} (l:List aG) (x:aG) (b o c:Nat) (u:Value) (w:World) (hv:aJ D w (.slice (some ⟨b,o,none⟩) l.length c) l) (hu:gR D' w u x) (hl:l.length≤1000) (hc:l.length≤c):
 Calls Tryz.prog 132 #[.slice (some ⟨b,o,none⟩) l.length c,u] w λe w'=>∃v',e=.returned v'∧aJ (λb=>D b∨D' b∨w.heap.size≤b) w' v' (cZ x l)∧Below w.heap.size w w':=by
 have U9:=hv.fresh
 obtain⟨av,sv,rfl,⟨Az,kC⟩,dy,cQ⟩:=hu
 have dy:=dy.fresh
 have cQ:=cQ.fresh
 obtain⟨pa,ca,rfl,_⟩:=dy.shape
 obtain⟨ps,cs,rfl,_⟩:=cQ.shape
 have cI:=heap_alloc_new w (.cells #[str x.name,.bool x.sig.iter,.slice pa x.sig.args.length ca,str x.sig.res,.slice ps x.sig.sigs.length cs] 50)
 have hA:=(Below.refl _ w).alloc (nl _) (.cells #[str x.name,.bool x.sig.iter,.slice pa x.sig.args.length ca,str x.sig.res,.slice ps x.sig.sigs.length cs] 50)
 have HX:=Lib.hid (λW (hW:Below w.heap.size w W)=>bN.below (D:=λb=>D' b∧b<w.heap.size) hW (nl _) (l:=[x]) ⟨_,_,[],rfl,⟨Az,kC⟩,dy,cQ,rfl⟩)
 have hle:=AW x l
 have Oq:=λy i (h:l[i]? =some y) hi=>uz (x:=x) h hi
 have V3:=Ef x l
 generalize mG x l=N at *
 obtain⟨T1,e1⟩:∃T1,T1=l.take N:=⟨_,rfl⟩
 obtain⟨T2,e2⟩:∃T2,T2=l.drop N:=⟨_,rfl⟩
 obtain⟨T3,e3⟩:∃T3,T3=T1++[x]:=⟨_,rfl⟩
 have hl1:T1.length≤1000:=by rw[e1,List.length_take];omega
 have hl2:T2.length≤1000:=by rw[e2,List.length_drop];omega
 have UF:T3.length≤1001:=by rw[e3,List.length_append];simpa using hl1
 have On:=Lib.hid (show cZ x l=T3++T2 by rw[V3,e3,e1,e2];simp)
 have E3:=Lib.hid e3
 have E2:=Lib.hid e2
 have VL:=Lib.hid (λW (hW:Below w.heap.size w W)=>e1▸(U9.below hW (nl _)).take hle c (by omega))
 have Xz:=Lib.hid (λW (hW:Below w.heap.size w W)=>e2▸(U9.below hW (nl _)).drop hle rfl (c - N) (by omega))
 clear e1 e2 e3 V3
 generalize cZ x l=R at *
 clear dy cQ U9
 go_enter Tryz.func132,Tryz.ntmps132
 go_wp2_with fail
 go_loopw [5] (λa wr=>∃i:Nat,i≤N∧a=.int .i64 i∧Below w.heap.size w wr∧wr.heap[w.heap.size]? =some (.cells #[str x.name,.bool x.sig.iter,.slice pa x.sig.args.length ca,str x.sig.res,.slice ps x.sig.sigs.length cs] 50 (0,0))) (λa _=>l.length - (intOf a).toNat)
 case atStart=>exact⟨0,Nat.zero_le _,rfl,hA,cI⟩
 case round =>
  clear hA cI;obtain⟨i,hi,rfl,hb,iE⟩:=hrel;have bx:=(bL iE).1;have Ry:=bH iE;have fin:∀v6 w6,iu (λb=>¬(D b∨D' b∨w.heap.size≤b)) (w.heap.size+1) w6 v6 (T3++T2)→aJ (λb=>D b∨D' b∨w.heap.size≤b) w6 v6 R:=λv6 w6 h=>by
   rw[On.out];exact h.uN (λb hb=>.inr (.inr (by omega))) (λb hb=>Classical.not_not.1 hb)
  by_cases hlt:i<l.length
  case neg=>
   obtain rfl:i=l.length:=by omega
   obtain rfl:N=l.length:=by omega
   have E8:=VL.out _ hb.drew;obtain rfl:T2=[]:=by rw[E2.out];simp
   clear Oq;go_upto_region 2 with fail
   go_region
   go_wp2_with (first
    | (at_builtin;refine b9 _ rfl _ _ rfl (w.heap.size+1) (.slice none 0 0) [] rfl (iu.nil (λb=>¬(D b∨D' b∨w.heap.size≤b)) _ _) (.slice (some ⟨b,o,none⟩) l.length c) T1 rfl E8 (λb hb=>⟨λe=>(by cases e),λh=>h (.inl hb.1)⟩) (by simp;omega) (by show w.heap.size+1≤wr.heap.size;omega) ?_;intro v4 w4 h4 hg4 WC;rw[List.nil_append] at h4;have hb4:=(hb.drew).grown hg4 hb.size (λk e=>by cases e);have iV:=dG hg4 iE (by simp[Value.ownBlock]);have Pm:=bL iV;have Pv:=h4.below ((Below.refl _ w4).alloc (nl _) (.cells #[str x.name,.bool x.sig.iter,.slice pa x.sig.args.length ca,str x.sig.res,.slice ps x.sig.sigs.length cs] 50)) (nl _);have hs4:=bH iV;have RF:=aJ.new (D:=λb=>(D' b∧b<w.heap.size)∨b=w4.heap.size) w4 (.inr rfl) (l:=[x]) 50 (0,0) (by unfold maxLen;simp) ((HX.out _ hb4).mono λ_ h=>.inl h);have cW:=hb4.alloc hb4.size (.cells #[str x.name,.bool x.sig.iter,.slice pa x.sig.args.length ca,str x.sig.res,.slice ps x.sig.sigs.length cs] 50);obtain⟨p4,c4,rfl⟩:=h4.shape)
    | (at_builtin;refine b9 _ rfl _ _ rfl (w.heap.size+1) (.slice p4 T1.length c4) T1 rfl Pv (.slice (some ⟨w4.heap.size,0,none⟩) 1 1) [x] rfl RF (λb hb=>⟨λe=>by have:=h4.own.lt e;rcases hb with hb|hb<;>omega,λh=>h (hb.elim (λh=>.inr (.inl h.1)) (λh=>.inr (.inr (by omega))))⟩) (by simp;omega) (by simp;omega) ?_;intro v6 w6 h6 nZ WE;rw[←E3.out] at h6;have jw:=cW.grown nZ cW.size (λk e=>Nat.le_of_succ_le (h4.own.lt e).1);obtain⟨p6,c6,rfl⟩:=h6.shape;have Ed:=nZ.size;simp only[World.size_alloc] at Ed)
    | (at_builtin;refine b9 _ rfl _ _ rfl (w.heap.size+1) (.slice p6 T3.length c6) T3 rfl h6 _ [] rfl (aJ.nil (λb=>D b∧b<w.heap.size) w6 _ _) (λb hb=>⟨λe=>by have:=h6.own.lt e;have:=hb.2;omega,λh=>h (.inl hb.1)⟩) (by omega) (by omega) ?_;intro v7 w7 h7 Ip WG;have qw:=jw.grown Ip jw.size (λk e=>Nat.le_of_succ_le (h6.own.lt e).1)))
   all_goals
    go_ret;exact⟨_,rfl,fin _ _ h7,qw⟩
  case pos=>
   obtain⟨y,gM⟩:∃y,l[i]? =some y:=⟨_,List.getElem?_eq_getElem hlt⟩
   obtain⟨b1,o1,av,sv,e1,_,_,_,_,c0,_⟩:=(hv.below hb (nl _)).at gM;simp only[Option.some.injEq,Addr.mk.injEq,and_true] at e1;obtain⟨rfl,rfl⟩:=e1;obtain⟨n1,n2⟩:=Oq y i gM hi;rcases hless:Op.bytesLess y.name x.name with _|_
   · obtain rfl:=n2 hless
     have E8:=VL.out _ hb.drew;have RZ:=Lib.hid (λW (_:Below w.heap.size w W)=>show aJ (λb=>D b∧b<w.heap.size) W (.slice (some ⟨b,o+N * 5,none⟩) (l.length - N) (c - N)) T2 from Xz.out W ‹_›);clear gM n1 n2 Oq;go_upto_region 2 with fail
     go_region
     go_wp2_with (first
      | (at_builtin;refine b9 _ rfl _ _ rfl (w.heap.size+1) (.slice none 0 0) [] rfl (iu.nil (λb=>¬(D b∨D' b∨w.heap.size≤b)) _ _) (.slice (some ⟨b,o,none⟩) N c) T1 rfl E8 (λb hb=>⟨λe=>(by cases e),λh=>h (.inl hb.1)⟩) (by simp;omega) (by show w.heap.size+1≤wr.heap.size;omega) ?_;intro v4 w4 h4 hg4 WC;rw[List.nil_append] at h4;have hb4:=(hb.drew).grown hg4 hb.size (λk e=>by cases e);have iV:=dG hg4 iE (by simp[Value.ownBlock]);have Pm:=bL iV;have Pv:=h4.below ((Below.refl _ w4).alloc (nl _) (.cells #[str x.name,.bool x.sig.iter,.slice pa x.sig.args.length ca,str x.sig.res,.slice ps x.sig.sigs.length cs] 50)) (nl _);have hs4:=bH iV;have RF:=aJ.new (D:=λb=>(D' b∧b<w.heap.size)∨b=w4.heap.size) w4 (.inr rfl) (l:=[x]) 50 (0,0) (by unfold maxLen;simp) ((HX.out _ hb4).mono λ_ h=>.inl h);have cW:=hb4.alloc hb4.size (.cells #[str x.name,.bool x.sig.iter,.slice pa x.sig.args.length ca,str x.sig.res,.slice ps x.sig.sigs.length cs] 50);obtain⟨p4,c4,rfl⟩:=h4.shape)
      | (at_builtin;refine b9 _ rfl _ _ rfl (w.heap.size+1) (.slice p4 T1.length c4) T1 rfl Pv (.slice (some ⟨w4.heap.size,0,none⟩) 1 1) [x] rfl RF (λb hb=>⟨λe=>by have:=h4.own.lt e;rcases hb with hb|hb<;>omega,λh=>h (hb.elim (λh=>.inr (.inl h.1)) (λh=>.inr (.inr (by omega))))⟩) (by simp;omega) (by simp;omega) ?_;intro v6 w6 h6 nZ WE;rw[←E3.out] at h6;have jw:=cW.grown nZ cW.size (λk e=>Nat.le_of_succ_le (h4.own.lt e).1);obtain⟨p6,c6,rfl⟩:=h6.shape;have Ed:=nZ.size;simp only[World.size_alloc] at Ed;have Mi:=RZ.out w6 jw)
      | (at_builtin;refine b9 _ rfl _ _ rfl (w.heap.size+1) (.slice p6 T3.length c6) T3 rfl h6 _ T2 rfl Mi (λb hb=>⟨λe=>by have:=h6.own.lt e;have:=hb.2;omega,λh=>h (.inl hb.1)⟩) (by omega) (by omega) ?_;intro v7 w7 h7 Ip WG;have qw:=jw.grown Ip jw.size (λk e=>Nat.le_of_succ_le (h6.own.lt e).1)))
     go_ret;exact⟨_,rfl,fin _ _ h7,qw⟩
   · have hi':=n1 hless
     clear gM n1 n2 Oq;go_upto_region 2 with fail
     go_region
     go_wp2_with fail;exact⟨⟨i+1,hi',by go_num,hb.drew,iE⟩,by simp only[intOf];omega⟩
set_option maxRecDepth 8000 in
theorem Jy {D D':Nat→Prop} (x:aG) (p:Option Addr) (c:Nat) (u:Value) (w:World) (hu:gR D' w u x):
 Calls Tryz.prog 132 #[.slice p 0 c,u] w λe w'=>∃v',e=.returned v'∧aJ (λb=>D b∨D' b∨w.heap.size≤b) w' v' [x]∧Below w.heap.size w w':=by
 obtain⟨av,sv,rfl,⟨Az,kC⟩,dy,cQ⟩:=hu
 have dy:=dy.fresh
 have cQ:=cQ.fresh
 obtain⟨pa,ca,rfl,_⟩:=dy.shape
 obtain⟨ps,cs,rfl,_⟩:=cQ.shape
 have cI:=heap_alloc_new w (.cells #[str x.name,.bool x.sig.iter,.slice pa x.sig.args.length ca,str x.sig.res,.slice ps x.sig.sigs.length cs] 50)
 have hA:=(Below.refl _ w).alloc (nl _) (.cells #[str x.name,.bool x.sig.iter,.slice pa x.sig.args.length ca,str x.sig.res,.slice ps x.sig.sigs.length cs] 50)
 have HX:=Lib.hid (λW (hW:Below w.heap.size w W)=>bN.below (D:=λb=>D' b∧b<w.heap.size) hW (nl _) (l:=[x]) ⟨_,_,[],rfl,⟨Az,kC⟩,dy,cQ,rfl⟩)
 clear dy cQ
 cases p
 all_goals
  go_enter Tryz.func132,Tryz.ntmps132;go_wp2_with fail;go_loopw [5] (λa wr=>a=.int .i64 0∧Below w.heap.size w wr∧wr.heap[w.heap.size]? =some (.cells #[str x.name,.bool x.sig.iter,.slice pa x.sig.args.length ca,str x.sig.res,.slice ps x.sig.sigs.length cs] 50 (0,0))) (λa _=>0)
  case atStart=>exact⟨rfl,hA,cI⟩
  case round=>
   clear hA cI;obtain⟨rfl,hb,iE⟩:=hrel;have bx:=(bL iE).1;have Ry:=bH iE;go_upto_region 2 with fail
   go_region
   go_wp2_with (first
    | (at_builtin;refine b9 _ rfl _ _ rfl (w.heap.size+1) (.slice none 0 0) [] rfl (iu.nil (λb=>¬(D b∨D' b∨w.heap.size≤b)) _ _) _ [] rfl (aJ.nil (λ_=>False) _ _ _) (λb hb=>hb.elim) (by simp) (by show w.heap.size+1≤wr.heap.size;omega) ?_;intro v4 w4 h4 hg4 WC;have hb4:=(hb.drew).grown hg4 hb.size (λk e=>by cases e);have iV:=dG hg4 iE (by simp[Value.ownBlock]);have Pm:=bL iV;have Pv:=h4.below ((Below.refl _ w4).alloc (nl _) (.cells #[str x.name,.bool x.sig.iter,.slice pa x.sig.args.length ca,str x.sig.res,.slice ps x.sig.sigs.length cs] 50)) (nl _);have hs4:=bH iV;have RF:=aJ.new (D:=λb=>(D' b∧b<w.heap.size)∨b=w4.heap.size) w4 (.inr rfl) (l:=[x]) 50 (0,0) (by unfold maxLen;simp) ((HX.out _ hb4).mono λ_ h=>.inl h);have cW:=hb4.alloc hb4.size (.cells #[str x.name,.bool x.sig.iter,.slice pa x.sig.args.length ca,str x.sig.res,.slice ps x.sig.sigs.length cs] 50);obtain⟨p4,c4,rfl⟩:=h4.shape)
    | (at_builtin;refine b9 _ rfl _ _ rfl (w.heap.size+1) (.slice p4 0 c4) [] rfl Pv (.slice (some ⟨w4.heap.size,0,none⟩) 1 1) [x] rfl RF (λb hb=>⟨λe=>by have:=h4.own.lt e;rcases hb with hb|hb<;>omega,λh=>h (hb.elim (λh=>.inr (.inl h.1)) (λh=>.inr (.inr (by omega))))⟩) (by simp) (by simp;omega) ?_;intro v6 w6 h6 nZ WE;have jw:=cW.grown nZ cW.size (λk e=>Nat.le_of_succ_le (h4.own.lt e).1);obtain⟨p6,c6,rfl⟩:=h6.shape;have Ed:=nZ.size;simp only[World.size_alloc] at Ed)
    | (at_builtin;refine b9 _ rfl _ _ rfl (w.heap.size+1) (.slice p6 1 c6) [x] rfl h6 _ [] rfl (aJ.nil (λ_=>False) _ _ _) (λb hb=>hb.elim) (by simp) (by omega) ?_;intro v7 w7 h7 Ip WG;have qw:=jw.grown Ip jw.size (λk e=>Nat.le_of_succ_le (h6.own.lt e).1)))
   all_goals
    go_ret;exact⟨_,rfl,h7.uN (λb hb=>.inr (.inr (by omega))) (λb hb=>Classical.not_not.1 hb),qw⟩
theorem bU {D D':Nat→Prop} (l:List aG) (x:aG) (v u:Value) (w:World) (hv:aJ D w v l) (hu:gR D' w u x) (hl:l.length≤1000):
 Calls Tryz.prog 132 #[v,u] w λe w'=>∃v',e=.returned v'∧aJ (λb=>D b∨D' b∨w.heap.size≤b) w' v' (cZ x l)∧Below w.heap.size w w':=by
 obtain⟨p,c,rfl,hc,_⟩:=hv.shape
 by_cases h0:l=[]
 · subst h0
   exact Jy x p c u w hu
 · obtain⟨b,o,_,rfl,_⟩:=hv.cells h0
   exact F5 l x b o c u w hv hu hl hc
end Go.Proofs.YtakgjcfkdemipaaGreatDoor
namespace Go.Proofs.YtakgjcfkdemipaaGreatDoor
open Go.RowKit
theorem FR {s:cD} {t:List UInt8} (h0:t≠[]) {i:Nat} {x:List UInt8} (hx:s.args[i]? =some x) (hp:∀y∈s.args.take i,(aQ y t).2=0) (hn:(aQ x t).2≠0):bZ s t=(.zero,(aQ x t).2):=by
 have h:=rR t s.args i x hx hp hn
 unfold bZ
 rw[if_neg h0,h,if_pos hn]
theorem FT {s:cD} {t:List UInt8} (h0:t≠[]) (hp:∀y∈s.args,(aQ y t).2=0) (hr:s.res=[]):bZ s t=(⟨s.iter,s.args.map (λy=>(aQ y t).1),[],s.sigs⟩,0):=by
 unfold bZ
 rw[if_neg h0,nM t s.args hp,if_neg (by simp),if_pos hr]
theorem Jk {s:cD} {t:List UInt8} (h0:t≠[]) (hp:∀y∈s.args,(aQ y t).2=0) (hr:s.res≠[]) (hn:(aQ s.res t).2≠0):bZ s t=(.zero,(aQ s.res t).2):=by
 unfold bZ
 rw[if_neg h0,nM t s.args hp,if_neg (by simp),if_neg hr,if_pos hn]
theorem Jj {s:cD} {t:List UInt8} (h0:t≠[]) (hp:∀y∈s.args,(aQ y t).2=0) (hr:s.res≠[]) (hn:(aQ s.res t).2=0):bZ s t=(⟨s.iter,s.args.map (λy=>(aQ y t).1),(aQ s.res t).1,s.sigs⟩,0):=by
 unfold bZ
 rw[if_neg h0,nM t s.args hp,if_neg (by simp),if_neg hr,if_neg (by simp[hn])]
set_option maxRecDepth 8000 in
theorem qd {D:Nat→Prop} (x:Value) (s:cD) (t:List UInt8) (w:World) (hx:aT D w x s) (h0:t≠[]) (ht:t.length≤maxLen) (hl:s.args.length≤100000):
 Calls Tryz.prog 135 #[x,str t] w λe w'=>∃v,e=.returned (.tuple #[v,.bool (decide ((bZ s t).2=0))])∧aT (λb=>w.heap.size≤b∨D b∧b<w.heap.size) w' v (bZ s t).1∧Below w.heap.size w w':=by
 obtain⟨i0,fV,hz0,hz1,hz2⟩:=bu iP
 have P1:=λi x hx hp hn=>FR (s:=s) h0 (i:=i) (x:=x) hx hp hn
 have P2:=λhp hr=>FT (s:=s) h0 hp hr
 have P3:=λhp hr hn=>Jk (s:=s) h0 hp hr hn
 have P4:=λhp hr hn=>Jj (s:=s) h0 hp hr hn
 obtain⟨av,sv,rfl,hr,ha,hs⟩:=hx
 have YV:=ha.fresh
 have hal:=Lib.hid ha.le
 have HS:=Lib.hid (λW (hW:Below w.heap.size w W)=>hs.fresh.below hW (nl _))
 obtain⟨p1,c1,rfl,_⟩:=ha.shape
 obtain⟨p2,c2,rfl,_⟩:=hs.shape
 obtain⟨it,ar,re,sg⟩:=s
 dsimp only at *
 generalize bZ ⟨it,ar,re,sg⟩ t=PK at *
 have LF:=Lib.hid (And.intro P1 (And.intro P2 (And.intro P3 P4)))
 clear P1 P2 P3 P4 ha hs h0
 have HW:=λ(y:List UInt8) (hy:y.length≤maxLen) W=>Gd y t hy ht W
 have hA:=((Below.refl _ w).alloc (nl _) (.cells #[.bool it,.slice p1 ar.length c1,str re,.slice p2 sg.length c2] 36))
 have Gx:=hA.alloc (by simp) (.cells #[.bool false,.slice none 0 0,.string ⟨#[]⟩,.slice none 0 0] 36)
 have MV:=Gx.alloc (by simp;omega) (.cells #[.bool it,.slice none 0 0,.string ⟨#[]⟩,.slice p2 sg.length c2] 36)
 have hg1:=aH (.cells #[.bool it,.slice none 0 0,.string ⟨#[]⟩,.slice p2 sg.length c2] 36) (aH (.cells #[.bool false,.slice none 0 0,.string ⟨#[]⟩,.slice none 0 0] 36) (heap_alloc_new w (.cells #[.bool it,.slice p1 ar.length c1,str re,.slice p2 sg.length c2] 36)))
 have hg2:=aH (.cells #[.bool it,.slice none 0 0,.string ⟨#[]⟩,.slice p2 sg.length c2] 36) (dD (w:=w.alloc (.cells #[.bool it,.slice p1 ar.length c1,str re,.slice p2 sg.length c2] 36)) (n:=w.heap.size+1) (by simp) #[.bool false,.slice none 0 0,.string ⟨#[]⟩,.slice none 0 0] 36)
 have hg3:=dD (w:=(w.alloc (.cells #[.bool it,.slice p1 ar.length c1,str re,.slice p2 sg.length c2] 36)).alloc (.cells #[.bool false,.slice none 0 0,.string ⟨#[]⟩,.slice none 0 0] 36)) (n:=w.heap.size+1+1) (by simp) #[.bool it,.slice none 0 0,.string ⟨#[]⟩,.slice p2 sg.length c2] 36
 go_enter Tryz.func135,Tryz.ntmps135
 go_wp2_with fail
 go_loopw [7] (λa wx=>∃i:Nat,i≤ar.length∧a=.int .i64 i∧Below w.heap.size w wx∧Hid (∀y∈ar.take i,(aQ y t).2=0)∧wx.heap[w.heap.size]? =some (.cells #[.bool it,.slice p1 ar.length c1,str re,.slice p2 sg.length c2] 36 (0,0))∧wx.heap[w.heap.size+1]? =some (.cells #[.bool false,.slice none 0 0,.string ⟨#[]⟩,.slice none 0 0] 36 (0,0))∧
  ∃q,wx.heap[w.heap.size+1+1]? =some (.cells #[.bool it,q,.string ⟨#[]⟩,.slice p2 sg.length c2] 36 (0,0))∧wx.ownsRow (w.heap.size+3) 9 1 q i (aD ((ar.take i).map λy=>(aQ y t).1))) (λa _=>ar.length - (intOf a).toNat)
 case atStart=>exact⟨0,Nat.zero_le _,by go_num,MV,(λy hy=>by simp at hy),hg1,hg2,.slice none 0 0,hg3,World.ownsRow_nil _ _ _ _⟩
 case round =>
  clear hA Gx MV hg1 hg2 hg3;obtain⟨i,hi,rfl,hb,hp,hg1,hg2,q,hg3,hown⟩:=hrel;obtain⟨pq,cq,rfl⟩:=aS hown;have b1:=(aU hg1).1;have b2:=(aU hg2);have b3:=(aU hg3)
  by_cases hlt:i<ar.length
  case pos=>
   obtain⟨y,gM⟩:∃y,ar[i]? =some y:=⟨_,List.getElem?_eq_getElem hlt⟩
   obtain⟨bb,oo,rfl,_,pc⟩:=(YV.below hb (nl _)).at gM;have Pd:=HW y (hal.out y (List.mem_of_getElem? gM)) wr
   by_cases hz:(aQ y t).2=0
   · have hT:=Lib.hid (show aD ((ar.take i).map λy=>(aQ y t).1)++[str (aQ y t).1]=aD ((ar.take (i+1)).map λy=>(aQ y t).1) by rw[List.take_add_one,gM];simp[aD])
     have hp':Hid (∀y∈ar.take (i+1),(aQ y t).2=0):=by
      intro z WU;rw[List.take_add_one,gM] at WU;rcases List.mem_append.1 WU with h|h
      · exact hp.out z h
      · simp at h;rw[h];exact hz
     rw[hz] at Pd;clear gM hz hp;go_wp2_with (first
      | (go_at_call 35;refine Pd.mono ?_;clear Pd;rintro e w1 ⟨rfl,ay⟩;have bJ:=hb.trans (af ay hb.size);have hg1:=ah hg1 ay;have hg2:=ah hg2 ay;have hg3:=ah hg3 ay;have b3:=aU hg3;have nC:=az hown ay (nl _);have Q1:=aH (.cells #[str (aQ y t).1] 9) hg3;have bA3:=aU Q1;have Uv:=aH (.cells #[str (aQ y t).1] 9) hg1;have Uw:=aH (.cells #[str (aQ y t).1] 9) hg2;have hs1:=bH hg3)
      | (at_builtin;refine aL _ rfl _ _ 34 rfl (w.heap.size+3) 9 i0 _ 1 16 fD fV hz0 hz1 hz2 rfl (by decide) (.slice pq i cq) i _ rfl (nC.alloc _) ⟨w1.heap.size,0,none⟩ 1 1 [str (aQ y t).1] rfl rfl (cell_one_new _ _ _) (by intro u hu;rw[List.mem_singleton.1 hu];rfl) (by decide) (by unfold maxLen;omega) (by omega) (by simp;omega) ?_;intro v4 w4 bM wm Zq;obtain⟨p4,c4,rfl⟩:=aS bM;have UM:(Value.slice pq i cq).ownBlock≠some (w.heap.size+1+1):=(λe=>by have:=(nC.lt _ e).1;omega);have UL:(Value.slice pq i cq).ownBlock≠some (w.heap.size+1):=(λe=>by have:=(nC.lt _ e).1;omega);have UK:(Value.slice pq i cq).ownBlock≠some (w.heap.size):=(λe=>by have:=(nC.lt _ e).1;omega);have Q0:=dG wm Q1 UM;have b43:=aU Q0;have Uu:=dG wm Uw UL;have Ut:=dG wm Uv UK;have dH:=(bJ.alloc bJ.size (.cells #[str (aQ y t).1] 9)).grown wm (by simp;omega) (λk e=>by have:=(nC.lt k e).1;omega)))
     rw[hT.out] at bM;refine⟨⟨i+1,hlt,by go_num,dH.setCell (p:=⟨w.heap.size+1+1,1,none⟩) (by simp only;omega) _,hp',(heap_setCell_other w4 ⟨w.heap.size+1+1,1,none⟩ w.heap.size _ (by simp only;omega)).trans Ut,(heap_setCell_other w4 ⟨w.heap.size+1+1,1,none⟩ (w.heap.size+1) _ (by simp only;omega)).trans Uu,_,heap_setCell_same w4 _ 1 _ _ _ Q0,ownsRow_setCell_below bM (a:=⟨w.heap.size+1+1,1,none⟩) (by simp only;omega) _⟩,by simp only[intOf];omega⟩
   · obtain⟨g1,g2⟩:=bC hz
     have HP:=Lib.hid (LF.out.1 i y gM hp.out hz);clear gM hp LF;go_wp2_with (go_at_call 35;refine Pd.mono ?_;clear Pd;rintro e w1 ⟨rfl,ay⟩;have bJ:=hb.trans (af ay hb.size);have hg2:=ah hg2 ay;have b2:=aU hg2);refine bodyPost_ret (v:=.tuple #[.agg #[.bool false,.slice none 0 0,str [],.slice none 0 0],.bool false]) (by simp[results,Tryz.results135,go_sem,b2]) rfl ?_;rw[HP.out];exact⟨_,by simp[hz],aT.zero _ _,Below.fc bJ (b:=w.heap.size+1) (by omega) _ _ _ _⟩
  case neg =>
   obtain rfl:i=ar.length:=by omega
   rw[List.take_length] at hown hp;obtain⟨AR,LV⟩:∃AR,AR=ar.map λy=>(aQ y t).1:=⟨_,rfl⟩
   have Kv:AR.length=ar.length:=by rw[LV];simp
   have hss:SS (λb=>w.heap.size+3≤b) wr (.slice pq ar.length cq) AR:=SS.row (LV▸hown) Kv (by intro z hz;rw[LV] at hz;obtain⟨y,_,rfl⟩:=List.mem_map.1 hz;exact qT _ _)
   by_cases Iw:re=[]
   · have HP:=Lib.hid (LF.out.2.1 hp.out Iw)
     rw[←LV] at HP;have e1:re.isEmpty=true:=by rw[Iw];rfl
     have e2:(re==[])=true:=by rw[Iw];rfl
     clear LF hp LV Kv Iw;go_wp2_with fail;refine bodyPost_ret (v:=.tuple #[.agg #[.bool it,.slice pq ar.length cq,str [],.slice p2 sg.length c2],.bool true]) (by simp[results,Tryz.results135,go_sem,b2]) rfl ?_;have hB:=Below.fc hb (b:=w.heap.size+1) (by omega) (.bool it) (.slice pq ar.length cq) (str []) (.slice p2 sg.length c2);rw[HP.out];exact⟨_,rfl,⟨_,_,rfl,Nat.zero_le _,(SS.fc hss (b:=w.heap.size+1) (by intro b hb;omega) _ _ _ _).mono λb hb=>.inl (by omega),(HS.out _ hB).mono λb hb=>.inr hb⟩,hB⟩
   · have e1:re.isEmpty=false:=by simpa using Iw
     have e2:(re==[])=false:=by simpa using Iw
     have Pc:=HW re hr wr
     by_cases hz:(aQ re t).2=0
     · have HP:=Lib.hid (LF.out.2.2.2 hp.out Iw hz)
       rw[←LV] at HP;rw[hz] at Pc;clear LF hp LV Kv Iw hz;go_wp2_with (go_at_call 35;refine Pc.mono ?_;clear Pc;rintro e w1 ⟨rfl,ay⟩;have bJ:=hb.trans (af ay hb.size);have hg2:=ah hg2 ay;have hg3:=ah hg3 ay;have b2:=aU hg2;have b3:=aU hg3;have U1:=hss.below ay (nl _));refine bodyPost_ret (v:=.tuple #[.agg #[.bool it,.slice pq ar.length cq,str (aQ re t).1,.slice p2 sg.length c2],.bool true]) (by simp[results,Tryz.results135,go_sem,b2]) rfl ?_;have bW:=bJ.setCell (p:=⟨w.heap.size+1+1,2,none⟩) (by simp only;omega) (str (aQ re t).1);have IB:=U1.set (a:=⟨w.heap.size+1+1,2,none⟩) (by intro b hb;simp only;omega) (str (aQ re t).1);have hB:=Below.fc bW (b:=w.heap.size+1) (by omega) (.bool it) (.slice pq ar.length cq) (str (aQ re t).1) (.slice p2 sg.length c2);rw[HP.out];exact⟨_,rfl,⟨_,_,rfl,qT _ _,(SS.fc IB (b:=w.heap.size+1) (by intro b hb;omega) _ _ _ _).mono λb hb=>.inl (by omega),(HS.out _ hB).mono λb hb=>.inr hb⟩,hB⟩
     · obtain⟨g1,g2⟩:=bC hz
       have HP:=Lib.hid (LF.out.2.2.1 hp.out Iw hz);clear LF hp LV Kv Iw;go_wp2_with (go_at_call 35;refine Pc.mono ?_;clear Pc;rintro e w1 ⟨rfl,ay⟩;have bJ:=hb.trans (af ay hb.size);have hg2:=ah hg2 ay;have b2:=aU hg2);refine bodyPost_ret (v:=.tuple #[.agg #[.bool false,.slice none 0 0,str [],.slice none 0 0],.bool false]) (by simp[results,Tryz.results135,go_sem,b2]) rfl ?_;rw[HP.out];exact⟨_,by simp[hz],aT.zero _ _,Below.fc bJ (b:=w.heap.size+1) (by omega) _ _ _ _⟩
def Pf (D:Nat→Prop) (w:World) (v:Value) (x:aG) (a:List UInt8):Prop:=
 ∃p q,v=.agg #[str x.name,.bool x.sig.iter,p,str x.sig.res,q,str a]∧mL x∧SS D w p x.sig.args∧SS D w q x.sig.sigs
theorem Ta {w:World} {b:Nat} {a0 a1 a2 a3 a4 a5:Value} {t:TypeId} (h:w.heap[b]? =some (.cells #[a0,a1,a2,a3,a4,a5] t (0,0))):
 w.cell? ⟨b,0,none⟩=some a0∧w.cell? ⟨b,1,none⟩=some a1∧w.cell? ⟨b,2,none⟩=some a2∧w.cell? ⟨b,3,none⟩=some a3∧w.cell? ⟨b,4,none⟩=some a4∧w.cell? ⟨b,5,none⟩=some a5:=
 ⟨(ak h 0).trans rfl,(ak h 1).trans rfl,(ak h 2).trans rfl,(ak h 3).trans rfl,(ak h 4).trans rfl,(ak h 5).trans rfl⟩
set_option maxRecDepth 8000 in
theorem BA {D:Nat→Prop} (v:Value) (x:aG) (a:List UInt8) (w:World) (hv:Pf D w v x a) (ha:a.length≤maxLen) (hl:x.sig.args.length≤100000):
 Calls Tryz.prog 71 #[v] w λe w'=>∃u,e=.returned (.tuple #[u,.bool (decide ((bZ x.sig a).2=0))])∧aT (λb=>w.heap.size≤b∨D b∧b<w.heap.size) w' u (bZ x.sig a).1∧Below w.heap.size w w':=by
 obtain⟨p,q,rfl,⟨_,hr⟩,hp,hq⟩:=hv
 have VI:=Lib.hid (λW (hW:Below w.heap.size w W)=>hp.fresh.below hW (nl _))
 have VJ:=Lib.hid (λW (hW:Below w.heap.size w W)=>hq.fresh.below hW (nl _))
 obtain⟨p1,c1,rfl,_⟩:=hp.shape
 obtain⟨p2,c2,rfl,_⟩:=hq.shape
 have hA:=((Below.refl _ w).alloc (nl _) (.cells #[str x.name,.bool x.sig.iter,.slice p1 x.sig.args.length c1,str x.sig.res,.slice p2 x.sig.sigs.length c2,str a] 102))
 have Gx:=hA.alloc (by simp) (.cells #[.bool false,.slice none 0 0,.string ⟨#[]⟩,.slice none 0 0] 36)
 have hg1:=aH (.cells #[.bool false,.slice none 0 0,.string ⟨#[]⟩,.slice none 0 0] 36) (heap_alloc_new w (.cells #[str x.name,.bool x.sig.iter,.slice p1 x.sig.args.length c1,str x.sig.res,.slice p2 x.sig.sigs.length c2,str a] 102))
 have hg2:=dD (w:=w.alloc (.cells #[str x.name,.bool x.sig.iter,.slice p1 x.sig.args.length c1,str x.sig.res,.slice p2 x.sig.sigs.length c2,str a] 102)) (n:=w.heap.size+1) (by simp) #[.bool false,.slice none 0 0,.string ⟨#[]⟩,.slice none 0 0] 36
 have b1:=Ta hg1
 have b2:=aU hg2
 clear hp hq
 by_cases h0:a=[]
 · subst h0
   have HP:=Lib.hid (show bZ x.sig []=(x.sig,0) by unfold bZ;rw[if_pos rfl]);go_enter Tryz.func71,Tryz.ntmps71;go_wp2_with fail;refine bodyPost_ret (v:=.tuple #[.agg #[.bool x.sig.iter,.slice p1 x.sig.args.length c1,str x.sig.res,.slice p2 x.sig.sigs.length c2],.bool true]) (by simp[results,Tryz.results71,go_sem]) rfl ?_;have hB:=hA.alloc (by simp) (.cells #[.bool x.sig.iter,.slice p1 x.sig.args.length c1,str x.sig.res,.slice p2 x.sig.sigs.length c2] 36);rw[HP.out];exact⟨_,rfl,⟨_,_,rfl,hr,(VI.out _ hB).mono λ_ hb=>.inr hb,(VJ.out _ hB).mono λ_ hb=>.inr hb⟩,hB⟩
 · have e1:a.isEmpty=false:=by simpa using h0
   have e2:(a==[])=false:=by simpa using h0
   have HC:=qd (.agg #[.bool x.sig.iter,.slice p1 x.sig.args.length c1,str x.sig.res,.slice p2 x.sig.sigs.length c2]) x.sig a _ ⟨_,_,rfl,hr,VI.out _ Gx,VJ.out _ Gx⟩ h0 ha hl;generalize bZ x.sig a=PK at *;clear h0;go_enter Tryz.func71,Tryz.ntmps71;go_wp2_with (go_at_call 135;refine HC.mono ?_;clear HC;rintro e w3 ⟨u,rfl,⟨au,su,rfl,lu,ru,qu⟩,aK⟩;obtain⟨pu,cu,rfl,_⟩:=ru.shape;obtain⟨pv,cv,rfl,_⟩:=qu.shape;have hg2:=ah hg2 aK;have b2:=aU hg2);refine bodyPost_ret (v:=.tuple #[.agg #[.bool PK.1.iter,.slice pu PK.1.args.length cu,str PK.1.res,.slice pv PK.1.sigs.length cv],.bool (decide (PK.2=0))]) (by simp[results,Tryz.results71,go_sem,b2]) rfl ?_;have hB:=Gx.trans (af aK (by simp;omega));have hne:∀b,((w.heap.size+1+1≤b)∨(D b∧b<w.heap.size)∧b<w.heap.size+1+1)→b≠w.heap.size+1:=by
    intro b hb;rcases hb with hb|hb
    · omega
    · have:=hb.1.2;omega
   simp only[World.size_alloc] at ru qu;have hmo:∀b,((w.heap.size+1+1≤b)∨(D b∧b<w.heap.size)∧b<w.heap.size+1+1)→(w.heap.size≤b∨D b∧b<w.heap.size):=λb hb=>hb.elim (λh=>.inl (by omega)) λh=>.inr h.1
   exact⟨_,rfl,⟨_,_,rfl,lu,(SS.fc ru (b:=w.heap.size+1) hne _ _ _ _).mono hmo,(SS.fc qu (b:=w.heap.size+1) hne _ _ _ _).mono hmo⟩,Below.fc hB (b:=w.heap.size+1) (by omega) _ _ _ _⟩
theorem DD {D:Nat→Prop} (v:Value) (x:aG) (a:List UInt8) (w:World) (hv:Pf D w v x a) (ha:a.length≤maxLen) (hl:x.sig.args.length≤100000):
 Calls Tryz.prog 71 #[v] w λe w'=>∃u,e=.returned (.tuple #[u,.bool (decide ((bZ x.sig a).2=0))])∧aT Any w' u (bZ x.sig a).1∧Below w.heap.size w w':=
 (BA v x a w hv ha hl).mono λ_ _ ⟨u,h1,h2,h3⟩=>⟨u,h1,h2.mono λ_ _=>trivial,h3⟩
end Go.Proofs.YtakgjcfkdemipaaGreatDoor
namespace Go.Proofs.YtakgjcfkdemipaaGreatDoor
open Go.RowKit
def j6 (n:List UInt8) (f:aB):Bool:=f.name==n
theorem kG (l:List aB) (n:List UInt8):l.find? (j6 n)=ez l n:=by
 unfold ez
 congr 1
 funext f
 unfold j6
 by_cases h:f.name=n<;>simp[h]
theorem Ex {D:Nat→Prop} (l:List aB) (n:List UInt8) (v:Value) (w:World) (hv:aZ D w v l):
 Calls Tryz.prog 95 #[v,str n] w λe w'=>e=.returned (.int .i64 (pM (j6 n) l 0))∧Below w.heap.size w w':=by
 obtain⟨p,c,rfl,_,hm,_⟩:=hv.shape
 unfold maxLen at hm
 go_enter Tryz.func95,Tryz.ntmps95
 go_wp2_with fail
 go_loopw [5] (λa wr=>∃i:Nat,i≤l.length∧a=.int .i64 i∧Below w.heap.size w wr∧Hid (pM (j6 n) l 0=pM (j6 n) (l.drop i) i)) (λa _=>l.length - (intOf a).toNat)
 case atStart=>exact⟨0,Nat.zero_le _,rfl,Below.refl _ _,rfl⟩
 case round=>
  obtain⟨i,hi,rfl,hb,hA⟩:=hrel
  by_cases hlt:i<l.length
  case neg=>
   have HX:=Lib.hid (show pM (j6 n) l 0= -1 by rw[hA.out,List.drop_eq_nil_of_le (by omega)];rfl);clear hA;go_wp2_with fail;go_ret;exact⟨by rw[HX.out];rfl,hb⟩
  case pos=>
   obtain⟨x,hkx⟩:∃x,l[i]? =some x:=⟨_,List.getElem?_eq_getElem hlt⟩
   obtain⟨b1,o1,av,sv,rfl,_,hle,hN,hO,uR,kK,mR,qG,sN⟩:=(hv.below hb (nl _)).at hkx;have hd:=hA.out;rw[bp hkx,pM] at hd;clear hA hkx;rcases hn:(x.name==n) with _|_
   · rw[show j6 n x=false from hn] at hd
     have HX:=Lib.hid (hd.trans (if_neg (by simp)));clear hd;go_wp2_with fail;exact⟨⟨i+1,by omega,by go_num,hb,HX⟩,by simp only[intOf];omega⟩
   · rw[show j6 n x=true from hn] at hd
     have HX:=Lib.hid (hd.trans (if_pos rfl));clear hd;go_wp2_with fail;go_ret;exact⟨by rw[HX.out];rfl,hb⟩
end Go.Proofs.YtakgjcfkdemipaaGreatDoor
namespace Go.Proofs.YtakgjcfkdemipaaGreatDoor
open Go.RowKit
def iK (D:Nat→Prop) (w:World) (a:List UInt8):List Value→List aG→Prop
 | cs,[]=>cs=[]
 | cs,x::l=>∃p q r,cs=str x.name::.bool x.sig.iter::p::str x.sig.res::q::str a::r∧mL x∧SS D w p x.sig.args∧SS D w q x.sig.sigs∧iK D w a r l
theorem iK.agree {D:Nat→Prop} {w w':World} {a:List UInt8} (hk:∀b,D b→b<w.heap.size→w'.heap[b]? =w.heap[b]?):∀{l:List aG} {cs:List Value},iK D w a cs l→iK D w' a cs l
 | [],_,h=>h
 | _::_,_,⟨p,q,r,h1,h0,h2,h3,h4⟩=>⟨p,q,r,h1,h0,h2.agree hk,h3.agree hk,iK.agree hk h4⟩
theorem iK.snoc {D:Nat→Prop} {w:World} {a:List UInt8} {x:aG} {p q:Value} (h0:mL x) (h2:SS D w p x.sig.args) (h3:SS D w q x.sig.sigs):∀{l:List aG} {cs:List Value},iK D w a cs l→iK D w a (cs++[str x.name,.bool x.sig.iter,p,str x.sig.res,q,str a]) (l++[x])
 | [],_,h=>by rw[show _=_ from h];exact⟨p,q,[],rfl,h0,h2,h3,rfl⟩
 | _::_,_,⟨p',q',r,h1,k0,k2,k3,k4⟩=>by subst h1;exact⟨p',q',_,rfl,k0,k2,k3,iK.snoc h0 h2 h3 k4⟩
theorem iK.get {D:Nat→Prop} {w:World} {a:List UInt8}:∀{l:List aG} {cs:List Value},iK D w a cs l→∀j (h:j<l.length),∃p q,mL l[j]∧SS D w p l[j].sig.args∧SS D w q l[j].sig.sigs∧
 cs[j * 6]? =some (str l[j].name)∧cs[j * 6+1]? =some (.bool l[j].sig.iter)∧cs[j * 6+2]? =some p∧cs[j * 6+3]? =some (str l[j].sig.res)∧cs[j * 6+4]? =some q∧cs[j * 6+5]? =some (str a)
 | [],_,_,j,h=>by simp at h
 | x::l,_,⟨p,q,r,h1,h0,h2,h3,h4⟩,j,h=>by
  subst h1;cases j with
  | zero=>exact⟨p,q,h0,h2,h3,rfl,rfl,rfl,rfl,rfl,rfl⟩
  | succ j=>
   have hj:j<l.length:=by simpa using h
   obtain⟨p',q',k0,k1,k2,k3,k4,k5,k6,k7,k8⟩:=iK.get h4 j hj;have e:(j+1) * 6=j * 6+1+1+1+1+1+1:=by omega
   refine⟨p',q',k0,k1,k2,?_⟩;rw[e];exact⟨by simpa using k3,by simpa using k4,by simpa using k5,by simpa using k6,by simpa using k7,by simpa using k8⟩
def eE (w:World) (v:Value) (l:List aG) (a:List UInt8):Prop:=
 ∃p c,v=.slice p l.length c∧l.length≤maxLen∧(l=[]∨∃b o,p=some ⟨b,o,none⟩∧b<w.heap.size∧∀j (h:j<l.length),∃pa qa,mL l[j]∧SS Any w pa l[j].sig.args∧SS Any w qa l[j].sig.sigs∧
  w.cell? ⟨b,o+j * 6,none⟩=some (str l[j].name)∧w.cell? ⟨b,o+j * 6+1,none⟩=some (.bool l[j].sig.iter)∧w.cell? ⟨b,o+j * 6+2,none⟩=some pa∧w.cell? ⟨b,o+j * 6+3,none⟩=some (str l[j].sig.res)∧w.cell? ⟨b,o+j * 6+4,none⟩=some qa∧w.cell? ⟨b,o+j * 6+5,none⟩=some (str a))
theorem eE.shape {w:World} {v:Value} {l:List aG} {a:List UInt8} (h:eE w v l a):∃p c,v=.slice p l.length c∧l.length≤maxLen:=by
 obtain⟨p,c,h1,h2,_⟩:=h
 exact⟨p,c,h1,h2⟩
theorem eE.nil (w:World) (p:Option Addr) (c:Nat) (a:List UInt8):eE w (.slice p 0 c) [] a:=⟨p,c,rfl,Nat.zero_le _,.inl rfl⟩
theorem eE.at {w:World} {p:Option Addr} {n c:Nat} {l:List aG} {a:List UInt8} (h:eE w (.slice p n c) l a) {j:Nat} {x:aG} (hj:l[j]? =some x):∃b o pa qa,p=some ⟨b,o,none⟩∧mL x∧SS Any w pa x.sig.args∧SS Any w qa x.sig.sigs∧
 w.cell? ⟨b,o+j * 6,none⟩=some (str x.name)∧w.cell? ⟨b,o+j * 6+1,none⟩=some (.bool x.sig.iter)∧w.cell? ⟨b,o+j * 6+2,none⟩=some pa∧w.cell? ⟨b,o+j * 6+3,none⟩=some (str x.sig.res)∧w.cell? ⟨b,o+j * 6+4,none⟩=some qa∧w.cell? ⟨b,o+j * 6+5,none⟩=some (str a):=by
 obtain⟨hl,e⟩:=List.getElem?_eq_some_iff.1 hj
 obtain⟨p',c',h1,_,h4⟩:=h
 injection h1 with h1
 subst h1
 rcases h4 with rfl|⟨b,o,e1,_,h6⟩
 · simp at hl
 · obtain⟨pa,qa,h7⟩:=h6 j hl
   rw[e] at h7;exact⟨b,o,pa,qa,e1,h7⟩
theorem eE.below {K:Nat} {w w':World} {v:Value} {l:List aG} {a:List UInt8} (h:eE w v l a) (hb:Below K w w') (hK:w.heap.size≤K):eE w' v l a:=by
 obtain⟨p,c,h1,h2,h4⟩:=h
 refine⟨p,c,h1,h2,?_⟩
 rcases h4 with h4|⟨b,o,e1,h6,h7⟩
 · exact .inl h4
 · refine .inr ⟨b,o,e1,Nat.lt_of_lt_of_le h6 hb.size,λj hj=>?_⟩
   obtain⟨pa,qa,k0,k1,k2,k3⟩:=h7 j hj;have hc:∀i,w'.cell? ⟨b,i,none⟩=w.cell? ⟨b,i,none⟩:=λi=>hb.cell (by show b<K;omega)
   exact⟨pa,qa,k0,k1.below hb hK,k2.below hb hK,by rw[hc,hc,hc,hc,hc,hc];exact k3⟩
theorem eE.bG {w:World} {base:Nat} {e:TypeId} {v:Value} {l:List aG} {cs:List Value} {a:List UInt8} {D:Nat→Prop} (h:w.ownsRow base e 6 v l.length cs) (hc:iK D w a cs l):eE w v l a:=by
 have hlt:=λb e=>aV h (b:=b) e
 rcases h.2 with⟨rfl,h0⟩|⟨g,cap,cur,rfl,hg,hh,h1,h2,h3,h4⟩
 · have e0:l=[]:=List.length_eq_zero_iff.1 (by omega)
   subst e0;exact eE.nil _ _ _ _
 · refine⟨_,_,rfl,by omega,.inr ⟨g,0,rfl,hlt g rfl,λj hj=>?_⟩⟩
   obtain⟨p,q,k0,k1,k2,k3,k4,k5,k6,k7,k8⟩:=hc.get j hj;have hcell:∀i u,cs[i]? =some u→w.cell? ⟨g,0+i,none⟩=some u:=λi u hu=>by
    have:=h.cells (g:=g) rfl i u hu
    rwa [show(⟨g,0,none⟩:Addr).add i=⟨g,0+i,none⟩ from by unfold Addr.add;simp;omega] at this
   exact⟨p,q,k0,k1.mono λ_ _=>trivial,k2.mono λ_ _=>trivial,hcell _ _ k3,hcell _ _ k4,hcell _ _ k5,hcell _ _ k6,hcell _ _ k7,hcell _ _ k8⟩
theorem iI:Tryz.prog.underlying 99=some (.slice 102):=by kernel_rfl
theorem kD:(Tryz.prog.info? 102).map (λi=>(i.zero,i.size,i.bytes))=some (some (.agg #[.string ⟨#[]⟩,.bool false,.slice none 0 0,.string ⟨#[]⟩,.slice none 0 0,.string ⟨#[]⟩]),6,104):=by kernel_rfl
theorem iN {a:List UInt8} (h:a.length≤maxLen):∀s∈[a],s.length≤maxLen:=by
 intro s hs
 rw[List.mem_singleton.1 hs]
 exact h
theorem jQ {a b:List UInt8} (h:a.length≤maxLen) (h2:b.length≤maxLen):∀s∈[a,b],s.length≤maxLen:=by
 intro s hs
 rcases List.mem_cons.1 hs with rfl|hs
 · exact h
 · exact iN h2 s hs
theorem MP {a b c:List UInt8} (h:a.length≤maxLen) (h2:b.length≤maxLen) (h3:c.length≤maxLen):∀s∈[a,b,c],s.length≤maxLen:=by
 intro s hs
 rcases List.mem_cons.1 hs with rfl|hs
 · exact h
 · exact jQ h2 h3 s hs
theorem bT {P L:List aG} (h:L=cN P) (hp:P.length≤1000):L.length≤1000:=by rw[h,rP];exact hp
theorem cT {B:Nat} {D:Nat→Prop} {W0 W W1 w1 w2:World} {P L:List aG} {X:aG} {v:Value} (hH:L=cN P) (hB:Below B W0 W) (zB:B≤W.heap.size) (bY:Below W.heap.size W W1) (ay:Below W1.heap.size W1 w1) (aA:Below w1.heap.size w1 w2) (B0:aJ D w2 v (cZ X L)):
 Below B W0 w2∧Below W.heap.size W w2∧aJ Any w2 v (cZ X L)∧Hid (cZ X L=cN (P++[X]))∧B≤w2.heap.size:=by
 have h1:=(bY.trans (af ay bY.size)).trans (af aA (Nat.le_trans bY.size ay.size))
 exact⟨hB.trans (af h1 zB),h1,B0.mono λ_ _=>trivial,by rw[hH,iB];rfl,Nat.le_trans zB h1.size⟩
end Go.Proofs.YtakgjcfkdemipaaGreatDoor
namespace Go.Proofs.YtakgjcfkdemipaaGreatDoor
open Go.RowKit
set_option maxRecDepth 8000 in
theorem DC {D D':Nat→Prop} (c:aR) (lv nv:Value) (t:List UInt8) (w:World) (hl:aZ D w lv c.bK) (hn:aJ D' w nv c.ag) (ht:t.length≤maxLen) (hk:(aq t).2.k=3) (h0:(aq t).1=0):
 Calls Tryz.prog 70 #[lv,nv,str t] w λe w'=>∃v,e=.returned v∧eE w' v (cN [⟨[101,113,117,97,108],⟨false,[t,t],aX,[]⟩⟩]) []∧Below w.heap.size w w':=by
 obtain⟨i0,fV,hz0,hz1,hz2⟩:=bu kD
 have HK:=gP t ht w
 rw[hk,h0] at HK
 obtain⟨pl,cl,rfl,_⟩:=hl.shape
 obtain⟨pn,cn,rfl,_⟩:=hn.shape
 go_enter Tryz.func70,Tryz.ntmps70
 go_upto_region 4 with(go_at_call 128;refine HK.mono ?_;clear HK;rintro e W ⟨rfl,hB⟩)
 have kr:=hB.alloc hB.size (.cells #[str t,str t] 9)
 have iU:w.heap.size≤(W.alloc (.cells #[str t,str t] 9)).heap.size:=Nat.le_trans hB.size (by simp)
 have r6:SS Any (W.alloc (.cells #[str t,str t] 9)) (.slice (some ⟨W.heap.size,0,none⟩) 2 2) [t,t]:=SS.new Any W trivial [t,t] 9 (0,0) (by unfold maxLen;simp) (jQ ht ht)
 have nk:aJ Any (W.alloc (.cells #[str t,str t] 9)) (.slice none 0 0) []:=aJ.nil _ _ _ _
 obtain⟨L0,eL⟩:∃L:List aG,L=cN []:=⟨_,rfl⟩
 rw[show([]:List aG)=L0 from eL.symm] at nk
 have r5:=Lib.hid eL
 clear eL
 go_upto_region 5 with fail
 clear hB
 generalize CH:W.alloc (.cells #[str t,str t] 9)=W0 at *
 clear CH
 go_upto_region 21 with fail
 have bY:=(Below.refl W0.heap.size W0)
 go_upto_region 63 with(first
  | (go_at_call 132;refine(bU L0 (⟨[101,113,117,97,108],⟨false,[t,t],aX,[]⟩⟩:aG) _ _ _ ((nk.below bY (nl _)).below ay (nl _)) ⟨_,_,rfl,l1,r1,q1⟩ (bT r5.out (by simp))).mono ?_;rintro e W1 ⟨v2,rfl,eY,aA⟩;obtain⟨p2,c2,rfl,_⟩:=eY.shape)
  | (go_at_call 133;refine(dF [101,113,117,97,108] aX [t,t] [] _ _ _ (r6.below bY (nl _)) (SS.nil Any _ none 0) (by first|exact ht|exact hat|decide) (by first|exact ht|exact hat|decide)).mono ?_;rintro e w1 ⟨u1,rfl,⟨x1,y1,rfl,l1,r1,q1⟩,ay⟩;obtain⟨uT,tN,rfl,_⟩:=r1.shape;obtain⟨uS,tM,rfl,_⟩:=q1.shape))
 obtain⟨bJ,Cb,D6,J9,CC⟩:=cT r5.out kr iU bY ay aA eY
 generalize cZ (⟨[101,113,117,97,108],⟨false,[t,t],aX,[]⟩⟩:aG) L0=L1 at *
 have E8:=r6.below Cb (nl _)
 clear r6 r5 nk kr iU ay aA eY Cb bY l1 r1 q1
 have hL:=bT J9.out (by simp)
 have zF:=D6.fresh
 go_wp2_with fail
 clear D6 E8
 go_loopw [27,28] (λv y wx=>∃k:Nat,k≤L1.length∧y=.int .i64 k∧Below W1.heap.size W1 wx∧∃cs,wx.ownsRow W1.heap.size 102 6 v k cs∧iK (λb=>b<W1.heap.size) wx [] cs (L1.take k)) (λ_ y _=>L1.length - (intOf y).toNat)
 case atStart=>exact⟨0,Nat.zero_le _,by go_num,Below.refl _ _,[],World.ownsRow_nil _ _ _ _,rfl⟩
 case round=>
  obtain⟨k,hk,rfl,hb,cs,hown,hC⟩:=hrel;obtain⟨pv,cv,rfl⟩:=aS hown
  by_cases hlt:k<L1.length
  case neg=>
   obtain rfl:k=L1.length:=by omega
   rw[List.take_length] at hC;go_wp2_with fail;go_ret;exact⟨_,rfl,J9.out▸eE.bG hown hC,bJ.trans (af hb CC)⟩
  case pos=>
   obtain⟨x,hkx⟩:∃x,L1[k]? =some x:=⟨_,List.getElem?_eq_getElem hlt⟩
   obtain⟨b1,o1,av,sv,rfl,_,hle,dy,cQ,d0,d1,d2,d3,d4⟩:=zF.at hkx;obtain⟨pa,ca,rfl,_⟩:=dy.shape;obtain⟨ps,sU,rfl,_⟩:=cQ.shape;have d0:=Below.keep hb d0;have d1:=Below.keep hb d1;have d2:=Below.keep hb d2;have d3:=Below.keep hb d3;have d4:=Below.keep hb d4;have pG:=Lib.hid (show L1.take k++[x]=L1.take (k+1) by rw[List.take_add_one,hkx];rfl);have hsz:=hb.size;clear hkx;go_wp2_with (at_builtin;refine aL _ rfl _ _ 99 rfl W1.heap.size 102 i0 _ 6 104 iI fV hz0 hz1 hz2 rfl (by decide) (.slice pv k cv) k cs rfl (hown.alloc _) ⟨wr.heap.size,0,none⟩ 1 1 [str x.name,.bool x.sig.iter,.slice pa x.sig.args.length ca,str x.sig.res,.slice ps x.sig.sigs.length sU,str []] rfl rfl (ew _ _ _) (by intro u hu;simp only[List.mem_cons,List.not_mem_nil,or_false] at hu;rcases hu with rfl|rfl|rfl|rfl|rfl|rfl<;>rfl) (by decide) (by unfold maxLen;omega) (by omega) (by simp;omega) ?_;intro v5 w5 dJ hgr n5);have cW:=(hb.alloc hsz (.cells #[str x.name,.bool x.sig.iter,.slice pa x.sig.args.length ca,str x.sig.res,.slice ps x.sig.sigs.length sU,str []] 102)).grown hgr (by simp;omega) (λk e=>(hown.lt k e).1);have CE:=iK.agree (w':=w5) (λb hbb _=>(cW.block b hbb).trans (hb.block b hbb).symm) hC;have sW:=CE.snoc hle ((dy.below cW (nl _)).mono λb hb=>hb.2) ((cQ.below cW (nl _)).mono λb hb=>hb.2);rw[pG.out] at sW;exact⟨⟨k+1,hlt,by go_num,cW,_,dJ,sW⟩,by simp only[intOf];omega⟩
end Go.Proofs.YtakgjcfkdemipaaGreatDoor
namespace Go.Proofs.YtakgjcfkdemipaaGreatDoor
open Go.RowKit
set_option maxRecDepth 8000 in
theorem DB {D D':Nat→Prop} (c:aR) (lv nv:Value) (t:List UInt8) (w:World) (hl:aZ D w lv c.bK) (hn:aJ D' w nv c.ag) (ht:t.length≤maxLen) (hk:(aq t).2.k=2) (h0:(aq t).1=0):
 Calls Tryz.prog 70 #[lv,nv,str t] w λe w'=>∃v,e=.returned v∧eE w' v (cN [⟨[97,110,100],⟨false,[t,t],aX,[]⟩⟩,⟨[111,114],⟨false,[t,t],aX,[]⟩⟩,⟨[101,113,117,97,108],⟨false,[t,t],aX,[]⟩⟩,⟨[110,111,116],⟨false,[t],aX,[]⟩⟩]) []∧Below w.heap.size w w':=by
 obtain⟨i0,fV,hz0,hz1,hz2⟩:=bu kD
 have HK:=gP t ht w
 rw[hk,h0] at HK
 obtain⟨pl,cl,rfl,_⟩:=hl.shape
 obtain⟨pn,cn,rfl,_⟩:=hn.shape
 go_enter Tryz.func70,Tryz.ntmps70
 go_upto_region 4 with(go_at_call 128;refine HK.mono ?_;clear HK;rintro e W ⟨rfl,hB⟩)
 have kr:=hB.alloc hB.size (.cells #[str t,str t] 9)
 have iU:w.heap.size≤(W.alloc (.cells #[str t,str t] 9)).heap.size:=Nat.le_trans hB.size (by simp)
 have r6:SS Any (W.alloc (.cells #[str t,str t] 9)) (.slice (some ⟨W.heap.size,0,none⟩) 2 2) [t,t]:=SS.new Any W trivial [t,t] 9 (0,0) (by unfold maxLen;simp) (jQ ht ht)
 have nk:aJ Any (W.alloc (.cells #[str t,str t] 9)) (.slice none 0 0) []:=aJ.nil _ _ _ _
 obtain⟨L0,eL⟩:∃L:List aG,L=cN []:=⟨_,rfl⟩
 rw[show([]:List aG)=L0 from eL.symm] at nk
 have r5:=Lib.hid eL
 clear eL
 go_upto_region 5 with fail
 clear hB
 generalize CH:W.alloc (.cells #[str t,str t] 9)=W0 at *
 clear CH
 go_upto_region 16 with fail
 have bY:=(Below.refl W0.heap.size W0)
 go_upto_region 17 with(first
  | (go_at_call 132;refine(bU L0 (⟨[97,110,100],⟨false,[t,t],aX,[]⟩⟩:aG) _ _ _ ((nk.below bY (nl _)).below ay (nl _)) ⟨_,_,rfl,l1,r1,q1⟩ (bT r5.out (by simp))).mono ?_;rintro e W1 ⟨v2,rfl,eY,aA⟩;obtain⟨p2,c2,rfl,_⟩:=eY.shape)
  | (go_at_call 133;refine(dF [97,110,100] aX [t,t] [] _ _ _ (r6.below bY (nl _)) (SS.nil Any _ none 0) (by first|exact ht|exact hat|decide) (by first|exact ht|exact hat|decide)).mono ?_;rintro e w1 ⟨u1,rfl,⟨x1,y1,rfl,l1,r1,q1⟩,ay⟩;obtain⟨uT,tN,rfl,_⟩:=r1.shape;obtain⟨uS,tM,rfl,_⟩:=q1.shape))
 obtain⟨bJ,Cb,D6,J9,CC⟩:=cT r5.out kr iU bY ay aA eY
 generalize cZ (⟨[97,110,100],⟨false,[t,t],aX,[]⟩⟩:aG) L0=L1 at *
 have E8:=r6.below Cb (nl _)
 clear r6 r5 nk kr iU ay aA eY Cb bY l1 r1 q1
 have bY:=(Below.refl W1.heap.size W1)
 go_upto_region 18 with(first
  | (go_at_call 132;refine(bU L1 (⟨[111,114],⟨false,[t,t],aX,[]⟩⟩:aG) _ _ _ ((D6.below bY (nl _)).below ay (nl _)) ⟨_,_,rfl,l1,r1,q1⟩ (bT J9.out (by simp))).mono ?_;rintro e W2 ⟨v2,rfl,eY,aA⟩;obtain⟨p2,c2,rfl,_⟩:=eY.shape)
  | (go_at_call 133;refine(dF [111,114] aX [t,t] [] _ _ _ (E8.below bY (nl _)) (SS.nil Any _ none 0) (by first|exact ht|exact hat|decide) (by first|exact ht|exact hat|decide)).mono ?_;rintro e w1 ⟨u1,rfl,⟨x1,y1,rfl,l1,r1,q1⟩,ay⟩;obtain⟨uT,tN,rfl,_⟩:=r1.shape;obtain⟨uS,tM,rfl,_⟩:=q1.shape))
 obtain⟨bW,Nf,B0,CF,Ht⟩:=cT J9.out bJ CC bY ay aA eY
 generalize cZ (⟨[111,114],⟨false,[t,t],aX,[]⟩⟩:aG) L1=L2 at *
 have Nb:=E8.below Nf (nl _)
 clear E8 J9 D6 bJ CC ay aA eY Nf bY l1 r1 q1
 have bY:=(Below.refl W2.heap.size W2)
 go_upto_region 19 with(first
  | (go_at_call 132;refine(bU L2 (⟨[101,113,117,97,108],⟨false,[t,t],aX,[]⟩⟩:aG) _ _ _ ((B0.below bY (nl _)).below ay (nl _)) ⟨_,_,rfl,l1,r1,q1⟩ (bT CF.out (by simp))).mono ?_;rintro e W3 ⟨v2,rfl,eY,aA⟩;obtain⟨p2,c2,rfl,_⟩:=eY.shape)
  | (go_at_call 133;refine(dF [101,113,117,97,108] aX [t,t] [] _ _ _ (Nb.below bY (nl _)) (SS.nil Any _ none 0) (by first|exact ht|exact hat|decide) (by first|exact ht|exact hat|decide)).mono ?_;rintro e w1 ⟨u1,rfl,⟨x1,y1,rfl,l1,r1,q1⟩,ay⟩;obtain⟨uT,tN,rfl,_⟩:=r1.shape;obtain⟨uS,tM,rfl,_⟩:=q1.shape))
 obtain⟨dg,QD,M9,M7,Hu⟩:=cT CF.out bW Ht bY ay aA eY
 generalize cZ (⟨[101,113,117,97,108],⟨false,[t,t],aX,[]⟩⟩:aG) L2=L3 at *
 have Mi:=Nb.below QD (nl _)
 clear Nb CF B0 bW Ht ay aA eY QD bY l1 r1 q1
 have bY:=((Below.refl W3.heap.size W3).alloc (nl _) (.cells #[str t] 9))
 go_upto_region 63 with(first
  | (go_at_call 132;refine(bU L3 (⟨[110,111,116],⟨false,[t],aX,[]⟩⟩:aG) _ _ _ ((M9.below bY (nl _)).below ay (nl _)) ⟨_,_,rfl,l1,r1,q1⟩ (bT M7.out (by simp))).mono ?_;rintro e W4 ⟨v2,rfl,eY,aA⟩;obtain⟨p2,c2,rfl,_⟩:=eY.shape)
  | (go_at_call 133;refine(dF [110,111,116] aX [t] [] _ _ _ (SS.new Any W3 trivial [t] 9 (0,0) (by unfold maxLen;simp) (iN (by first|exact ht|exact hat|decide))) (SS.nil Any _ none 0) (by first|exact ht|exact hat|decide) (by first|exact ht|exact hat|decide)).mono ?_;rintro e w1 ⟨u1,rfl,⟨x1,y1,rfl,l1,r1,q1⟩,ay⟩;obtain⟨uT,tN,rfl,_⟩:=r1.shape;obtain⟨uS,tM,rfl,_⟩:=q1.shape))
 obtain⟨dH,Ng,Mf,OM,KC⟩:=cT M7.out dg Hu bY ay aA eY
 generalize cZ (⟨[110,111,116],⟨false,[t],aX,[]⟩⟩:aG) L3=L4 at *
 have Qs:=Mi.below Ng (nl _)
 clear Mi M7 M9 dg Hu ay aA eY Ng bY l1 r1 q1
 have hL:=bT OM.out (by simp)
 have zF:=Mf.fresh
 go_wp2_with fail
 clear Mf Qs
 go_loopw [27,28] (λv y wx=>∃k:Nat,k≤L4.length∧y=.int .i64 k∧Below W4.heap.size W4 wx∧∃cs,wx.ownsRow W4.heap.size 102 6 v k cs∧iK (λb=>b<W4.heap.size) wx [] cs (L4.take k)) (λ_ y _=>L4.length - (intOf y).toNat)
 case atStart=>exact⟨0,Nat.zero_le _,by go_num,Below.refl _ _,[],World.ownsRow_nil _ _ _ _,rfl⟩
 case round=>
  obtain⟨k,hk,rfl,hb,cs,hown,hC⟩:=hrel;obtain⟨pv,cv,rfl⟩:=aS hown
  by_cases hlt:k<L4.length
  case neg=>
   obtain rfl:k=L4.length:=by omega
   rw[List.take_length] at hC;go_wp2_with fail;go_ret;exact⟨_,rfl,OM.out▸eE.bG hown hC,dH.trans (af hb KC)⟩
  case pos=>
   obtain⟨x,hkx⟩:∃x,L4[k]? =some x:=⟨_,List.getElem?_eq_getElem hlt⟩
   obtain⟨b1,o1,av,sv,rfl,_,hle,dy,cQ,d0,d1,d2,d3,d4⟩:=zF.at hkx;obtain⟨pa,ca,rfl,_⟩:=dy.shape;obtain⟨ps,sU,rfl,_⟩:=cQ.shape;have d0:=Below.keep hb d0;have d1:=Below.keep hb d1;have d2:=Below.keep hb d2;have d3:=Below.keep hb d3;have d4:=Below.keep hb d4;have pG:=Lib.hid (show L4.take k++[x]=L4.take (k+1) by rw[List.take_add_one,hkx];rfl);have hsz:=hb.size;clear hkx;go_wp2_with (at_builtin;refine aL _ rfl _ _ 99 rfl W4.heap.size 102 i0 _ 6 104 iI fV hz0 hz1 hz2 rfl (by decide) (.slice pv k cv) k cs rfl (hown.alloc _) ⟨wr.heap.size,0,none⟩ 1 1 [str x.name,.bool x.sig.iter,.slice pa x.sig.args.length ca,str x.sig.res,.slice ps x.sig.sigs.length sU,str []] rfl rfl (ew _ _ _) (by intro u hu;simp only[List.mem_cons,List.not_mem_nil,or_false] at hu;rcases hu with rfl|rfl|rfl|rfl|rfl|rfl<;>rfl) (by decide) (by unfold maxLen;omega) (by omega) (by simp;omega) ?_;intro v5 w5 dJ hgr n5);have cW:=(hb.alloc hsz (.cells #[str x.name,.bool x.sig.iter,.slice pa x.sig.args.length ca,str x.sig.res,.slice ps x.sig.sigs.length sU,str []] 102)).grown hgr (by simp;omega) (λk e=>(hown.lt k e).1);have CE:=iK.agree (w':=w5) (λb hbb _=>(cW.block b hbb).trans (hb.block b hbb).symm) hC;have sW:=CE.snoc hle ((dy.below cW (nl _)).mono λb hb=>hb.2) ((cQ.below cW (nl _)).mono λb hb=>hb.2);rw[pG.out] at sW;exact⟨⟨k+1,hlt,by go_num,cW,_,dJ,sW⟩,by simp only[intOf];omega⟩
end Go.Proofs.YtakgjcfkdemipaaGreatDoor
