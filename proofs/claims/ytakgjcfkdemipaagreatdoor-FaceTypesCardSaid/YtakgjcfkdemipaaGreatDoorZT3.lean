/-
  Lemmas for the statement: contracts: of the law: small, plain, slight, scope. Conditions: bounds of lengths; the variable strings.asciiSpace.
-/
import Derived.Test.YtakgjcfkdemipaaGreatDoorZG20
import Derived.Test.YtakgjcfkdemipaaGreatDoorZGn
import Derived.Test.YtakgjcfkdemipaaGreatDoorZT1
set_option maxHeartbeats 12800000
namespace Go.Proofs.YtakgjcfkdemipaaGreatDoor
open Go.RowKit
def va8 (t:List UInt8) (b n:Nat):Bool:=decide (t.length≤b)&&decide ((aq t).1=0)&&decide (iz t≤n)
def vam (s:cD):Bool:=s.args.all (λu=>va8 u 14 2)&&(decide (s.res=[])||va8 s.res 14 2)
def vag (o:aG):Bool:=vam o.sig
def vaa (f:aB):Bool:=f.ag.all vag&&f.ops.all vag
def va5 (l:List aB) (ag:List aG):Bool:=ag.all vag&&l.all vaa
theorem vaw (t:List UInt8) (b n:Nat) (bi vfe:Int) (vdz:bi=b) (hni:vfe=n) (w:World) (htl:t.length≤maxLen):
 Calls Tryz.prog 31 #[str t,.int .i64 bi,.int .i64 vfe] w λe w'=>e=.returned (.bool (va8 t b n))∧Below w.heap.size w w':=by
 subst vdz hni
 have HL:=vcb t htl w
 have hS:va8 t b n=(decide (t.length≤b)&&decide ((aq t).1=0)&&decide (iz t≤n)):=rfl
 generalize va8 t b n=SK at *
 generalize (aq t).1=C at *
 generalize iz t=L at *
 have y1:(t.length:Int)≤(b:Int)↔t.length≤b:=by omega
 have y3:(L:Int)≤(n:Int)↔L≤n:=by omega
 have y2:((C:Int)==0)=decide (C=0):=by
  by_cases h:C=0
  · subst h;rfl
  · rw[decide_eq_false h,beq_eq_false_iff_ne];omega
 by_cases h1:t.length≤b
 case neg=>
  rw[decide_eq_false h1] at hS;have HX:=Lib.hid hS;simp only[h1,iff_false] at y1;clear hS;go_enter Tryz.func31,Tryz.ntmps31;go_wp2_with (go_at_call 82;refine HL.mono ?_;clear HL;rintro e w1 ⟨rfl,ay⟩);go_ret;exact⟨by rw[HX.out];first|done|rfl,ay⟩
 rw[decide_eq_true h1] at hS
 simp only[h1,iff_true] at y1
 by_cases h2:C=0
 case neg=>
  rw[decide_eq_false h2] at hS y2;obtain⟨g1,g2⟩:=bC h2;have HX:=Lib.hid hS;clear hS;go_enter Tryz.func31,Tryz.ntmps31;go_wp2_with (go_at_call 82;refine HL.mono ?_;clear HL;rintro e w1 ⟨rfl,ay⟩);go_ret;exact⟨by rw[HX.out];first|done|rfl,ay⟩
 subst h2
 by_cases h3:L≤n
 all_goals
  have HX:=Lib.hid (hS.trans (by simp[h3]:(true&&decide ((0:Nat)=0)&&decide (L≤n))=decide (L≤n)));simp only[h3,iff_true,iff_false] at y3;clear hS y2;go_enter Tryz.func31,Tryz.ntmps31;go_wp2_with (go_at_call 82;refine HL.mono ?_;clear HL;rintro e w1 ⟨rfl,ay⟩);go_ret;exact⟨by rw[HX.out];simp[h3],ay⟩
set_option maxRecDepth 4000 in
theorem vav {D:Nat→Prop} (s:cD) (v:Value) (w:World) (hv:aT D w v s):
 Calls Tryz.prog 83 #[v] w λe w'=>e=.returned (.bool (vam s))∧Below w.heap.size w w':=by
 obtain⟨a,g,rfl,Fj,dy,Ia⟩:=hv
 have hal:=Lib.hid dy.le
 obtain⟨pa,ca,rfl,_,ha1,_⟩:=dy.shape
 obtain⟨pg,cg,rfl,_⟩:=Ia.shape
 unfold maxLen at ha1
 have hA:=(Below.refl _ w).alloc (nl _) (.cells #[.bool s.iter,.slice pa s.args.length ca,str s.res,.slice pg s.sigs.length cg] 36)
 have cI:=heap_alloc_new w (.cells #[.bool s.iter,.slice pa s.args.length ca,str s.res,.slice pg s.sigs.length cg] 36)
 have H3:=λW=>vaw s.res 14 2 14 2 rfl rfl W Fj
 clear Ia
 go_enter Tryz.func83,Tryz.ntmps83
 go_wp2_with fail
 go_loopw [3] (λy wr=>∃i:Nat,i≤s.args.length∧y=.int .i64 i∧Below w.heap.size w wr∧wr.heap[w.heap.size]? =some (.cells #[.bool s.iter,.slice pa s.args.length ca,str s.res,.slice pg s.sigs.length cg] 36 (0,0))∧Hid (vam s=((s.args.drop i).all (λu=>va8 u 14 2)&&(decide (s.res=[])||va8 s.res 14 2)))) (λy _=>s.args.length - (intOf y).toNat)
 case atStart=>exact⟨0,Nat.zero_le _,by go_num,hA,cI,rfl⟩
 case round=>
  clear hA cI;obtain⟨i,hi,rfl,hB,hg,hE⟩:=hrel;have bx:=aU hg
  by_cases hlt:i<s.args.length
  case neg=>
   have hX:=hE.out;rw[List.drop_eq_nil_of_le (by omega),List.all_nil,Bool.true_and] at hX;clear hE
   by_cases hr:s.res=[]
   · rw[decide_eq_true hr] at hX
     have HX:=Lib.hid hX;have e1:s.res.isEmpty=true:=by rw[hr];rfl
     have e2:(s.res==[])=true:=by rw[hr];rfl
     clear hX H3 hr;go_wp2_with fail;go_ret;exact⟨by rw[HX.out];rfl,hB⟩
   · rw[decide_eq_false hr] at hX
     have HX:=Lib.hid hX;have e1:s.res.isEmpty=false:=by simpa using hr
     have e2:(s.res==[])=false:=by simpa using hr
     clear hX hr;generalize va8 s.res 14 2=SK at *;go_wp2_with (go_at_call 31;refine(H3 _).mono ?_;clear H3;rintro e w1 ⟨rfl,ay⟩);go_ret;exact⟨by rw[HX.out];first|done|rfl|simp,hB.trans (af ay hB.size)⟩
  case pos=>
   obtain⟨t,ht⟩:∃t,s.args[i]? =some t:=⟨_,List.getElem?_eq_getElem hlt⟩
   obtain⟨b1,o1,rfl,_,hct⟩:=(dy.below hB (nl _)).at ht;have HC:=vaw t 14 2 14 2 rfl rfl wr (hal.out t (List.mem_of_getElem? ht));rcases h2:va8 t 14 2 with _|_
   · have HX:=Lib.hid (hE.out.trans (by rw[fF ht h2];first|done|rfl))
     rw[h2] at HC;clear hE ht;go_wp2_with (go_at_call 31;refine HC.mono ?_;clear HC;rintro e w1 ⟨rfl,ay⟩);go_ret;exact⟨by rw[HX.out];rfl,hB.trans (af ay hB.size)⟩
   · have HX:=Lib.hid (hE.out.trans (by rw[lM ht h2]))
     rw[h2] at HC;clear hE ht;go_wp2_with (go_at_call 31;refine HC.mono ?_;clear HC;rintro e w1 ⟨rfl,ay⟩);exact⟨⟨i+1,hlt,by go_num,hB.trans (af ay hB.size),ah hg ay,HX⟩,by simp only[intOf];omega⟩
set_option maxRecDepth 4000 in
theorem vbx {D D' : Nat → Prop} (l : List aB) (ag : List aG) (v nv : Value) (w : World) (hv : aZ D w v l) (hn : aJ D' w nv ag) :
 Calls Tryz.prog 32 #[v,nv] w λe w'=>e=.returned (.bool (va5 l ag))∧Below w.heap.size w w':=by
 obtain⟨p,c,rfl,hc,hm,_⟩:=hv.shape
 obtain⟨q,cq,rfl,_,hnm,_⟩:=hn.shape
 unfold maxLen at hm hnm
 go_enter Tryz.func32,Tryz.ntmps32
 go_wp2_with fail
 go_loopw [5] (λy wr=>∃i:Nat,i≤ag.length∧y=.int .i64 i∧Below w.heap.size w wr∧Hid (va5 l ag=((ag.drop i).all vag&&l.all vaa))) (λy _=>ag.length - (intOf y).toNat)
 case atStart=>exact⟨0,Nat.zero_le _,by go_num,Below.refl _ _,rfl⟩
 case round =>
  obtain⟨i,hi,rfl,hB,hE⟩:=hrel
  by_cases hlt:i<ag.length
  case pos=>
   obtain⟨x,hx⟩:∃x,ag[i]? =some x:=⟨_,List.getElem?_eq_getElem hlt⟩
   obtain⟨b1,o1,av,sv,rfl,_,hxl,dy,cQ,uR,kK,mR,qG,sN⟩:=(hn.below hB (nl _)).at hx;have HC:=vav x.sig _ wr ⟨av,sv,rfl,hxl.2,dy,cQ⟩;obtain⟨pa,ca,rfl,_⟩:=dy.shape;obtain⟨ps,cs,rfl,_⟩:=cQ.shape;clear dy cQ;rcases h2:vam x.sig with _|_
   · have HX:=Lib.hid (hE.out.trans (by rw[fF hx h2];first|done|rfl))
     rw[h2] at HC;clear hE hx;go_wp2_with (go_at_call 83;refine HC.mono ?_;clear HC;rintro e w1 ⟨rfl,ay⟩);go_ret;exact⟨by rw[HX.out];rfl,hB.trans (af ay hB.size)⟩
   · have HX:=Lib.hid (hE.out.trans (by rw[lM hx h2]))
     rw[h2] at HC;clear hE hx;go_wp2_with (go_at_call 83;refine HC.mono ?_;clear HC;rintro e w1 ⟨rfl,ay⟩);exact⟨⟨i+1,hlt,by go_num,hB.trans (af ay hB.size),HX⟩,by simp only[intOf];omega⟩
  case neg =>
   have HE:=Lib.hid (show va5 l ag=l.all vaa by rw[hE.out,List.drop_eq_nil_of_le (by omega)];rfl);clear hE;go_wp2_with fail;clear hlt hi;go_loopw [6] (λy wx=>∃i:Nat,i≤l.length∧y=.int .i64 i∧Below w.heap.size w wx∧Hid (va5 l ag=(l.drop i).all vaa)) (λy _=>l.length - (intOf y).toNat)
   case atStart=>exact⟨0,Nat.zero_le _,by go_num,hB,HE.out⟩
   case round =>
    clear hB HE;obtain⟨i,hi,rfl,hB,hE⟩:=hrel
    by_cases hlt:i<l.length
    case neg=>
     have HX:=Lib.hid (show va5 l ag=true by rw[hE.out,List.drop_eq_nil_of_le (by omega)];rfl);clear hE;go_wp2_with fail;go_ret;exact⟨by rw[HX.out];rfl,hB⟩
    case pos =>
     obtain⟨f,hf⟩:∃f,l[i]? =some f:=⟨_,List.getElem?_eq_getElem hlt⟩
     obtain⟨b1,o1,vei,vej,rfl,_,hfl,hN,hO,e0,e1,e2,e3,e4⟩:=(hv.below hB (nl _)).at hf;obtain⟨pn,cn,rfl,_,hnl,_⟩:=hN.shape;obtain⟨po,co,rfl,_,hol,_⟩:=hO.shape;unfold maxLen at hnl hol;have HE:=Lib.hid (show va5 l ag=(f.ag.all vag&&(f.ops.all vag&&(l.drop (i+1)).all vaa)) by rw[hE.out,bp hf,List.all_cons,vaa,Bool.and_assoc]);have ve2:=Lib.hid e3;have WW:=Lib.hid e4;clear hE hf e0 e1 e2 e3 e4;obtain⟨W0,Ss⟩:∃z,z=wr:=⟨_,rfl⟩
     subst Ss;go_wp2_with fail;go_loopw [7] (λy wx=>∃k:Nat,k≤f.ag.length∧y=.int .i64 k∧Below W0.heap.size W0 wx∧Hid (va5 l ag=((f.ag.drop k).all vag&&(f.ops.all vag&&(l.drop (i+1)).all vaa)))) (λy _=>f.ag.length - (intOf y).toNat)
     case atStart=>exact⟨0,Nat.zero_le _,by go_num,Below.refl _ _,HE.out⟩
     case round=>
      obtain⟨k,hk,rfl,dg,hA⟩:=hrel;have ve3:=Below.keep dg ve2.out;have ZQ:=Below.keep dg WW.out;have CD:=hB.trans (af dg hB.size)
      by_cases hlk:k<f.ag.length
      case pos=>
       obtain⟨x,hx⟩:∃x,f.ag[k]? =some x:=⟨_,List.getElem?_eq_getElem hlk⟩
       obtain⟨b2,o2,av,sv,rfl,_,hxl,dy,cQ,uR,kK,mR,qG,sN⟩:=(hN.below dg (nl _)).at hx;have HC:=vav x.sig _ wr ⟨av,sv,rfl,hxl.2,dy,cQ⟩;obtain⟨pa,ca,rfl,_⟩:=dy.shape;obtain⟨ps,cs,rfl,_⟩:=cQ.shape;clear dy cQ HE;rcases h2:vam x.sig with _|_
       · have HX:=Lib.hid (hA.out.trans (by rw[fF hx h2];first|done|rfl))
         rw[h2] at HC;clear hA hx;go_wp2_with (go_at_call 83;refine HC.mono ?_;clear HC;rintro e w1 ⟨rfl,ay⟩);go_ret;exact⟨by rw[HX.out];rfl,CD.trans (af ay CD.size)⟩
       · have HX:=Lib.hid (hA.out.trans (by rw[lM hx h2]))
         rw[h2] at HC;clear hA hx;go_wp2_with (go_at_call 83;refine HC.mono ?_;clear HC;rintro e w1 ⟨rfl,ay⟩);exact⟨⟨k+1,hlk,by go_num,dg.trans (af ay dg.size),HX⟩,by simp only[intOf];omega⟩
      case neg =>
       have vdi:=Lib.hid (show va5 l ag=(f.ops.all vag&&(l.drop (i+1)).all vaa) by rw[hA.out,List.drop_eq_nil_of_le (by omega)];rfl);clear hA HE;go_wp2_with fail;clear hlk hk ve3 ZQ;go_loopw [8] (λy wx=>∃k:Nat,k≤f.ops.length∧y=.int .i64 k∧Below W0.heap.size W0 wx∧Hid (va5 l ag=((f.ops.drop k).all vag&&(l.drop (i+1)).all vaa))) (λy _=>f.ops.length - (intOf y).toNat)
       case atStart=>exact⟨0,Nat.zero_le _,by go_num,dg,vdi.out⟩
       case round=>
        clear dg vdi CD;obtain⟨k,hk,rfl,dg,hA⟩:=hrel;have ZQ:=Below.keep dg WW.out;have CD:=hB.trans (af dg hB.size)
        by_cases hlk:k<f.ops.length
        case pos=>
         obtain⟨x,hx⟩:∃x,f.ops[k]? =some x:=⟨_,List.getElem?_eq_getElem hlk⟩
         obtain⟨b2,o2,av,sv,rfl,_,hxl,dy,cQ,uR,kK,mR,qG,sN⟩:=(hO.below dg (nl _)).at hx;have HC:=vav x.sig _ wr ⟨av,sv,rfl,hxl.2,dy,cQ⟩;obtain⟨pa,ca,rfl,_⟩:=dy.shape;obtain⟨ps,cs,rfl,_⟩:=cQ.shape;clear dy cQ;rcases h2:vam x.sig with _|_
         · have HX:=Lib.hid (hA.out.trans (by rw[fF hx h2];first|done|rfl))
           rw[h2] at HC;clear hA hx;go_wp2_with (go_at_call 83;refine HC.mono ?_;clear HC;rintro e w1 ⟨rfl,ay⟩);go_ret;exact⟨by rw[HX.out];rfl,CD.trans (af ay CD.size)⟩
         · have HX:=Lib.hid (hA.out.trans (by rw[lM hx h2]))
           rw[h2] at HC;clear hA hx;go_wp2_with (go_at_call 83;refine HC.mono ?_;clear HC;rintro e w1 ⟨rfl,ay⟩);exact⟨⟨k+1,hlk,by go_num,dg.trans (af ay dg.size),HX⟩,by simp only[intOf];omega⟩
        case neg=>
         have HX:=Lib.hid (show va5 l ag=(l.drop (i+1)).all vaa by rw[hA.out,List.drop_eq_nil_of_le (by omega)];rfl);clear hA;go_wp2_with fail;exact⟨⟨i+1,hlt,by go_num,CD,HX⟩,by simp only[intOf];omega⟩
end Go.Proofs.YtakgjcfkdemipaaGreatDoor
