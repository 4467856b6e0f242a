/-
  Lemmas for the statement: contract: of the law: scope. Conditions: bounds of lengths; the variable strings.asciiSpace.
-/
import Derived.Test.YtakgjcfkdemipaaGreatDoorZG24
import Derived.Test.YtakgjcfkdemipaaGreatDoorZGn
import Derived.Test.YtakgjcfkdemipaaGreatDoorZT2
import Derived.Test.YtakgjcfkdemipaaGreatDoorZT3
set_option maxHeartbeats 12800000
namespace Go.Proofs.YtakgjcfkdemipaaGreatDoor
open Go.RowKit
def vb2 (l:List aB) (ag:List aG) (u:List UInt8):Bool:=decide (oJ l ag true u=0)
def vb1 (l:List aB) (ag:List aG) (x:aG):Bool:=x.sig.args.all (vb2 l ag)&&(decide (x.sig.res=[])||vb2 l ag x.sig.res)
def vao (l:List aB) (ag:List aG):Bool:=ag.all (vb1 l ag)
set_option maxRecDepth 4000 in
theorem vc9 (l:List aB) (ag:List aG) (v nv:Value) (w:World) (hT:fN w) (hv:aZ Any w v l) (hn:aJ Any w nv ag) (hfn:∀f∈l,f.ag.length≤100000) (hnl:ag.length≤100000):
 Calls Tryz.prog 33 #[v,nv] w λe w'=>e=.returned (.bool (vao l ag))∧Below w.heap.size w w':=by
 have HG:=λu (hu:u.length≤maxLen) W (hW:Below w.heap.size w W)=>rq l v ag nv true u W (hT.below hW (nl _)) (hv.below hW (nl _)) (hn.below hW (nl _)) hfn hnl hu
 obtain⟨p,c,rfl,_⟩:=hv.shape
 obtain⟨q,cq,rfl,_,hnm,_⟩:=hn.shape
 unfold maxLen at hnm
 clear hT hfn hnl hv
 go_enter Tryz.func33,Tryz.ntmps33
 go_wp2_with fail
 go_loopw [5] (λy wr=>∃i:Nat,i≤ag.length∧y=.int .i64 i∧Below w.heap.size w wr∧Hid (vao l ag=(ag.drop i).all (vb1 l ag))) (λy _=>ag.length - (intOf y).toNat)
 case atStart=>exact⟨0,Nat.zero_le _,by go_num,Below.refl _ _,rfl⟩
 case round=>
  obtain⟨i,hi,rfl,hB,hE⟩:=hrel
  by_cases hlt:i<ag.length
  case neg=>
   have HX:=Lib.hid (show vao l ag=true by rw[hE.out,List.drop_eq_nil_of_le (by omega)];rfl);clear hE;go_wp2_with fail;go_ret;exact⟨by rw[HX.out];rfl,hB⟩
  case pos =>
   obtain⟨x,hx⟩:∃x,ag[i]? =some x:=⟨_,List.getElem?_eq_getElem hlt⟩
   obtain⟨b1,o1,av,sv,rfl,_,hxl,dy,cQ,uR,kK,mR,qG,sN⟩:=(hn.below hB (nl _)).at hx;have hal:=Lib.hid dy.le;have hrl:=hxl.2;obtain⟨pa,ca,rfl,_,ha1,_⟩:=dy.shape;obtain⟨ps,cs,rfl,_⟩:=cQ.shape;unfold maxLen at ha1;have jE:=(Below.refl _ wr).alloc (nl _) (.cells #[.bool x.sig.iter,.slice pa x.sig.args.length ca,str x.sig.res,.slice ps x.sig.sigs.length cs] 36);have hg1:=heap_alloc_new wr (.cells #[.bool x.sig.iter,.slice pa x.sig.args.length ca,str x.sig.res,.slice ps x.sig.sigs.length cs] 36);have vZ:=dy.below jE (nl _);have HE:=Lib.hid (show vao l ag=(x.sig.args.all (vb2 l ag)&&((decide (x.sig.res=[])||vb2 l ag x.sig.res)&&(ag.drop (i+1)).all (vb1 l ag))) by rw[hE.out,bp hx,List.all_cons,vb1,Bool.and_assoc]);clear hE hx cQ dy hxl;go_wp2_with fail;clear uR kK mR qG sN;obtain⟨W0,Ss⟩:∃z,z=wr.alloc (.cells #[.bool x.sig.iter,.slice pa x.sig.args.length ca,str x.sig.res,.slice ps x.sig.sigs.length cs] 36):=⟨_,rfl⟩
   rw[←Ss] at jE hg1 vZ ⊢;have Sf:=hB.trans (af jE hB.size);have zB:wr.heap.size<W0.heap.size:=bH hg1;clear Ss jE;go_loopw [7] (λy wx=>∃k:Nat,k≤x.sig.args.length∧y=.int .i64 k∧Below W0.heap.size W0 wx∧Hid (vao l ag=((x.sig.args.drop k).all (vb2 l ag)&&((decide (x.sig.res=[])||vb2 l ag x.sig.res)&&(ag.drop (i+1)).all (vb1 l ag))))) (λy _=>x.sig.args.length - (intOf y).toNat)
   case atStart=>exact⟨0,Nat.zero_le _,by go_num,Below.refl _ _,HE.out⟩
   case round=>
    obtain⟨k,hk,rfl,dg,hA⟩:=hrel;have bx:=aU (ah hg1 dg);have CD:=Sf.trans (af dg Sf.size);clear HE
    by_cases hlk:k<x.sig.args.length
    case pos=>
     obtain⟨u,hu⟩:∃u,x.sig.args[k]? =some u:=⟨_,List.getElem?_eq_getElem hlk⟩
     obtain⟨b2,o2,rfl,_,hct⟩:=(vZ.below dg (nl _)).at hu;have HC:=HG u (hal.out u (List.mem_of_getElem? hu)) wr CD;rcases h2:vb2 l ag u with _|_
     · have HX:=Lib.hid (hA.out.trans (by rw[fF hu h2];first|done|rfl))
       obtain⟨g1,g2⟩:=bC (of_decide_eq_false h2);generalize oJ l ag true u=GL at *;clear hA hu;go_wp2_with (go_at_call 19;refine HC.mono ?_;clear HC;rintro e w1 ⟨rfl,ay⟩);go_ret;exact⟨by rw[HX.out];rfl,CD.trans (af ay CD.size)⟩
     · have HX:=Lib.hid (hA.out.trans (by rw[lM hu h2]))
       rw[show oJ l ag true u=0 from of_decide_eq_true h2] at HC;clear hA hu;go_wp2_with (go_at_call 19;refine HC.mono ?_;clear HC;rintro e w1 ⟨rfl,ay⟩);exact⟨⟨k+1,hlk,by go_num,dg.trans (af ay dg.size),HX⟩,by simp only[intOf];omega⟩
    case neg =>
     have hX:=hA.out;rw[List.drop_eq_nil_of_le (by omega),List.all_nil,Bool.true_and] at hX;clear hA
     by_cases hr:x.sig.res=[]
     · rw[decide_eq_true hr,Bool.true_or,Bool.true_and] at hX
       have HX:=Lib.hid hX;have e1:x.sig.res.isEmpty=true:=by rw[hr];rfl
       have e2:(x.sig.res==[])=true:=by rw[hr];rfl
       clear hX hr HG;go_wp2_with fail;exact⟨⟨i+1,hlt,by go_num,CD,HX⟩,by simp only[intOf];omega⟩
     · rw[decide_eq_false hr,Bool.false_or] at hX
       have e1:x.sig.res.isEmpty=false:=by simpa using hr
       have e2:(x.sig.res==[])=false:=by simpa using hr
       have HC:=HG x.sig.res hrl wr CD;clear hr HG;rcases h2:vb2 l ag x.sig.res with _|_
       · rw[h2,Bool.false_and] at hX
         have HX:=Lib.hid hX;obtain⟨g1,g2⟩:=bC (of_decide_eq_false h2);generalize oJ l ag true x.sig.res=GL at *;clear hX;go_wp2_with (go_at_call 19;refine HC.mono ?_;clear HC;rintro e w1 ⟨rfl,ay⟩);go_ret;exact⟨by rw[HX.out];first|done|rfl,CD.trans (af ay CD.size)⟩
       · rw[h2,Bool.true_and] at hX
         have HX:=Lib.hid hX;rw[show oJ l ag true x.sig.res=0 from of_decide_eq_true h2] at HC;clear hX;go_wp2_with (go_at_call 19;refine HC.mono ?_;clear HC;rintro e w1 ⟨rfl,ay⟩);exact⟨⟨i+1,hlt,by go_num,CD.trans (af ay CD.size),HX⟩,by simp only[intOf];omega⟩
end Go.Proofs.YtakgjcfkdemipaaGreatDoor
