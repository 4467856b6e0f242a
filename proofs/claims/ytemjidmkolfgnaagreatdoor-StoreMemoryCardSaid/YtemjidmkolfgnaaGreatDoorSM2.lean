/-
  Lemmas: the law StoreMemory of arguslaw19. Conditions: bounds of lengths; the variable strings.asciiSpace.
-/
import Derived.Test.YtemjidmkolfgnaaGreatDoorSBn
import Derived.Test.YtemjidmkolfgnaaGreatDoorSM1
set_option maxHeartbeats 25600000
namespace Go.Proofs.YtemjidmkolfgnaaGreatDoor
open Go Go.RowKit
set_option maxRecDepth 8000 in
theorem vb9 (l : List vbn) (x : vbn) (v va vb vc : Value) (w : World) (hv : vb0 (fun b => b < w.heap.size) w v l) (hx : vbb (fun b => b < w.heap.size) w va vb vc x) (ht : gx w) (hm : fe w) (hp : 0 < w.heap.size) :
 Calls Tryz.prog 4 #[v,.agg (vbp x va vb vc).toArray] w λe w'=>e=.returned (.bool true)∧Below w.heap.size w w':=by
 have MT:=hv
 obtain⟨p,c,rfl,-,-,-⟩:=hv
 obtain⟨pa,ca,rfl,-⟩:=hx.a.shape
 obtain⟨pb,cb,rfl,-⟩:=hx.b.shape
 obtain⟨pc,cc,rfl,-⟩:=hx.c.shape
 go_enter Tryz.func4,Tryz.ntmps4
 unfold vbp
 go_upto_region 1 with fail
 generalize rB:World.alloc _ _=W1
 have aP:Below w.heap.size w W1:=by rw[←rB];exact(zb w).alloc zr _
 have hg1:W1.heap[w.heap.size]? =some (.cells #[.int .u8 (x.kd:Int),str x.name,str x.src,str x.aO,.slice pa x.uses.length ca,.int .i64 x.n,.int .i64 x.vdt,.slice pb (aH x.code).length cb,.slice pc (vbv x.keep).length cc] 46 (0,0)):=by rw[←rB];exact heap_alloc_new w _
 clear rB
 have b9:=vc8 hg1
 have yF:=MT.agree (w':=W1) λb hb _=>aP.block b hb
 have vei:∀W,Below w.heap.size w W→vbb (λb=>b<w.heap.size) W (.slice pa x.uses.length ca) (.slice pb (aH x.code).length cb) (.slice pc (vbv x.keep).length cc) x:=λW hW=>hx.agree λb hb _=>hW.block b hb
 have vdz:=aP.size
 replace vei:=zh vei
 replace hx:=zh hx
 have vev:=vbj l (.slice p l.length c) W1 (yF.mono λb hb=>Nat.lt_of_lt_of_le hb aP.size)
 clear yF
 go_cut [34] from 26 to 35 (λq wx=>∃b:Bool,q=.bool b∧Below W1.heap.size W1 wx∧(b=false→((∀y∈l,vba y)∧l.length≤30)∧vba x))
 case first=>
  go_wp2_with (first
   | (go_at_call 11;refine vev.mono ?_;clear vev;rintro e w2 ⟨⟨q1,rfl,hq1⟩,bO⟩;have vh6:=vc8 (ag hg1 bO);replace hq1:=zh hq1))
  case isTrue=>
   have xR:=(zb w2).alloc zr (.cells #[.int .u8 (x.kd:Int),str x.name,str x.src,str x.aO,.slice pa x.uses.length ca,.int .i64 x.n,.int .i64 x.vdt,.slice pb (aH x.code).length cb,.slice pc (vbv x.keep).length cc] 46 (0,0));have vd5:=(aP.trans (aa bO vdz)).trans (aa xR (by have:=bO.size;omega));have hn:=heap_alloc_new w2 (.cells #[.int .u8 (x.kd:Int),str x.name,str x.src,str x.aO,.slice pa x.uses.length ca,.int .i64 x.n,.int .i64 x.vdt,.slice pb (aH x.code).length cb,.slice pc (vbv x.keep).length cc] 46 (0,0));generalize World.alloc _ _=W2 at *;refine(vbj [x] _ _ (vdu (vei.out _ vd5) hn vd5.size)).mono ?_;rintro e w3 ⟨⟨q2,rfl,KC⟩,cK⟩
   replace KC:=zh KC
   go_wp2_with fail
   go_meet
   exact⟨_,rfl,(aa (bO.trans (aa xR bO.size)) zr).trans (aa cK (by have:=bO.size;have:=xR.size;omega)),λe=>⟨hq1.out ‹_›,(KC.out (by simpa using e)).1 x (by simp)⟩⟩
  · go_meet
    exact⟨_,rfl,bO,λe=>by cases e⟩
 case rest =>
  obtain⟨b,rfl,hbc,vgb⟩:=hcut;cases b
  case true=>
   go_wp2_with (go_at_call 12;refine(s6 wc (ht.below (aP.trans (aa hbc vdz)) zr) (hm.below (aP.trans (aa hbc vdz))) (by have:=hbc.size;omega)).mono ?_;rintro e w5 ⟨rfl,oo⟩);refine bodyPost_ret (v:=.bool true) (by simp[results,Tryz.results4,go_sem]) rfl ⟨rfl,aP.trans (aa (hbc.trans (aa oo hbc.size)) vdz)⟩
  case false =>
   obtain⟨⟨hok,vee⟩,CK⟩:=vgb rfl;clear vgb;have Ab:=aP.trans (aa hbc vdz);have hlo:w.heap.size<wc.heap.size:=Nat.lt_of_lt_of_le (aj hg1) hbc.size
   rename World=>vim
   have vgd:=ht.below Ab zr;have vaf:=hm.below Ab;have HR:=vcz l (.slice p l.length c) vim ((MT.agree λb hb _=>Ab.block b hb).mono λb hb=>by have:=Ab.size;omega) hok vee vgd vaf (by have:=Ab.size;omega);go_upto_region 4 with(go_at_call 13;refine HR.mono ?_;clear HR;rintro e w3 ⟨lo,rfl,NS⟩);have rA:vim.heap.size≤w3.heap.size:=NS.cV.size;generalize hL:ven l=L at *;clear hL;have rA:vim.heap.size≤w3.heap.size:=NS.cV.size;have Hv:=hbc.trans (aa NS.cV hbc.size);have vet:=aP.trans (aa Hv vdz);have hg3:=ag hg1 Hv;have vds:=(vei.out _ vet).a;have vej:=(vei.out _ vet).b;have ve9:vah (λb=>vim.heap.size≤b) w w3 lo L 30:=NS.vdv Ab ht hm hp;have Gp:x.uses.length≤22:=CK.vco.nu;have vgi:x.code.length≤3010:=CK.code;have vew:=vc8 hg3;clear NS hbc Ab vgd vaf hok vee hg1 aP MT vev b9;go_upto_region 6 with fail;have d4:=vew.2.2.2.2.1;have d7:=vew.2.2.2.2.2.2.2.1;refine gM (D:=Any) (w:=w3) 7 [(3,.eq (.pointer (some ⟨w.heap.size,0,none⟩)))] [(.eq (.pointer (some ⟨w.heap.size,4,none⟩))),(.eq (.slice pa x.uses.length ca)),(.prop λW v=>W.ownsRow w3.heap.size 9 1 v x.uses.length (aA x.uses)),(.eq (.pointer (some ⟨w.heap.size,7,none⟩))),(.eq (.slice pb (aH x.code).length cb)),(.prop λW v=>W.ownsRow w3.heap.size 5 1 v (aH x.code).length (aH x.code)),(.prop λW v=>W.ownsRow w3.heap.size 9 1 v x.uses.length (aA x.uses)),(.prop λW v=>W.ownsRow w3.heap.size 5 1 v (aH x.code).length (aH x.code))] (λw'=>eD [(⟨w.heap.size,4,none⟩,.slice pa x.uses.length ca),(⟨w.heap.size,7,none⟩,.slice pb (aH x.code).length cb)] w'∧SS (λb=>b<w.heap.size) w' (.slice pa x.uses.length ca) x.uses∧CV (λb=>b<w.heap.size) w' (.slice pb (aH x.code).length cb) (aH x.code)∧w3.heap.size≤w'.heap.size) (by kernel_rfl) (by kernel_rfl) (by kernel_rfl) (by kernel_rfl) (by kernel_rfl) (λ_ _ h hb=>⟨h.1.below hb,h.2.1.below hb zr,h.2.2.1.below hb zr,Nat.le_trans h.2.2.2 hb.size⟩) ⟨(λp hp=>by simp only[List.mem_cons,List.not_mem_nil,or_false] at hp;rcases hp with rfl|rfl<;>exact Below.keep (zb w3).drew (by assumption)),vds.below (zb w3).drew zr,vej.below (zb w3).drew zr,(Below.refl 0 w3).drew.size⟩ ?_ ?_ ?_
   · intro p hp
     simp only[List.mem_cons,List.not_mem_nil,or_false] at hp;rcases hp with rfl
     · exact rfl
   · iterate 8
      refine And.intro ?_ ?_
      · first
        | exact nS (by kernel_rfl) rfl
        | exact Oc (.inl rfl) (by kernel_rfl) rfl (by kernel_rfl)
        | exact Oc (.inr rfl) (by kernel_rfl) rfl (by kernel_rfl)
        | exact E1 rfl (by kernel_rfl) rfl rfl (by kernel_rfl)
        | exact Iz rfl (by kernel_rfl) rfl rfl rfl
        | exact td rfl (by kernel_rfl) (by kernel_rfl) rfl rfl
        | exact gQ rfl (by kernel_rfl) rfl rfl (λw=>by simp[go_sem])
        | exact iQ rfl (by kernel_rfl) rfl rfl rfl (λw=>by simp[go_sem])
        | exact dV rfl (by kernel_rfl) rfl rfl (λw hS=>by simp[go_sem,(hS.1.get 0 rfl),(hS.1.get 1 rfl)])
        | exact uS (s1:=.eq (.slice pa x.uses.length ca)) rfl (enters_of Tryz.func19 (by kernel_rfl) rfl) (by kernel_rfl) rfl rfl (λv wx hS h1=>by rw[show v=.slice pa x.uses.length ca from h1];exact(Dj _ x.uses wx hS.2.1 (by have:=Gp;omega)).mono (by rintro e w' ⟨v',rfl,ho,hb⟩;exact⟨_,rfl,(λw2 bO=>aT (ef ho hS.2.2.2) bO zr),hb⟩))
        | exact uS (s1:=.eq (.slice pb (aH x.code).length cb)) rfl (enters_of Tryz.func20 (by kernel_rfl) rfl) (by kernel_rfl) rfl rfl (λv wx hS h1=>by rw[show v=.slice pb (aH x.code).length cb from h1];exact(vr _ (aH x.code) wx hS.2.2.1 (bF.u8 x.code) (by rw[ak];have:=vgi;omega)).mono (by rintro e w' ⟨v',rfl,ho,hb⟩;exact⟨_,rfl,(λw2 bO=>aT (ef ho hS.2.2.2) bO zr),hb⟩))
        | exact gJ rfl (by kernel_rfl) rfl rfl rfl (λw=>by simp[go_sem])
     exact trivial
   · intro aE vE wE Pp Jp R5 vg4 U5
     have wg:=vg4 6 _ 8 (by decide) rfl (by kernel_rfl);have KB:=U5 _ rfl
     replace wg:wE.ownsRow w3.heap.size 9 1 (aE.tmps.getD 8 undef) x.uses.length (aA x.uses):=wg wE (zb _)
     replace KB:wE.ownsRow w3.heap.size 5 1 vE (aH x.code).length (aH x.code):=KB wE (zb _)
     rw[R5];clear R5 vg4 U5 Pp;simp only[List.take_succ_cons,List.take_zero,bD,pz,pw];generalize aE.tmps.getD 8 undef=vii at *;obtain⟨vi6,c8,rfl⟩:=aJ wg;obtain⟨p9,c9,rfl⟩:=aJ KB;obtain⟨vhx,vfy,JC,-,-⟩:=ve9.fenced Jp;have HH:=ag hg3 Jp;have vgk:=vc8 HH;have hxl:=vds.le;have HP:=vfy.vem (by decide) x.name x.src x.aO x.uses _ (SS.eZ wg hxl (D:=Any) λ_ _=>trivial) CK.vco;obtain⟨E,hE⟩:∃E,jg L x.name x.src x.aO x.uses=E:=⟨_,rfl⟩
     rw[hE] at HP;generalize (if E=0 then ep L x.name x.src x.aO (aU 44 x.uses) else L)=vhj at HP;generalize (if E=0 then(vdx L x.name:Int) else 0)=n1 at HP;clear hE ve9 vds vej vew hg3 vfy;go_upto_region 8 with(go_at_call 21;refine HP.mono ?_;clear HP;rintro e w7 ⟨⟨rfl,vf3⟩,Rz⟩);have vg5:=(Rz.row ⟨_,_,HH,by decide⟩).trans HH;have vgl:=vc8 vg5;obtain⟨qe,vfg⟩:∃q,((E:Int)==0)=q:=⟨_,rfl⟩
     replace vfg:=zh vfg
     go_upto_if 63 with fail
     rw[vfg.out]
     go_cut [68] from 64 to 69 (λ_ wx=>∃vhk,vah vhx w wx lo vhk 32∧dI w7 wx)
     case first=>
      cases qe
      case true=>
       have HB:=vbc vf3 (by decide) x.name x.code CK.vco.ln _ (CV.eZ (Rz.own KB (by decide)) (D:=Any) λ_ _=>trivial) CK.code;go_wp2_with (go_at_call 22;refine HB.mono ?_;clear HB;rintro e w8 ⟨⟨rfl,ve0⟩,RA⟩)
       go_meet
       exact⟨_,ve0,RA⟩
      case false=>
       go_wp2_with fail
       go_meet
       exact⟨_,vf3.mono (by decide),dI.refl _⟩
     case rest =>
      obtain⟨vhk,ve0,RA⟩:=hcut;have vfi:=RA.own (Rz.own wg (by decide)) (by decide);have vfa:=RA.own (Rz.own KB (by decide)) (by decide);have HU:=vbl ve0;obtain⟨vhh,ve4⟩:∃vhh,(bZ vhk.units).map (vam vhk.units)=vhh:=⟨_,rfl⟩
      rw[ve4] at HU
      rename World=>w8
      go_upto_region 11 with(go_at_call 17;refine HU.mono ?_;clear HU;rintro e w9 ⟨⟨uv,rfl,vf5⟩,kM⟩;obtain⟨up,uc,rfl,N4,-⟩:=(show vak _ _ _ _ from vf5));obtain⟨R2,vf4,hn2,hl2,vdj⟩:=ve0.fenced kM;have hinv:=vf4.inv;have vfx:∀b,(Value.slice vi6 x.uses.length c8).ownBlock=some b→w.heap.size≤b∧¬R2 b:=λb hb=>by
       have h1:=wg.lt b hb;have h2:=aW vfi hb;have:=vet.size;exact⟨by omega,λh=>JC b h1.1 h1.2 ((hl2 b h2).1 h)⟩
      have vfw:∀b,(Value.slice p9 (aH x.code).length c9).ownBlock=some b→w.heap.size≤b∧¬R2 b:=λb hb=>by
       have h1:=KB.lt b hb;have h2:=aW vfa hb;have:=vet.size;exact⟨by omega,λh=>JC b h1.1 h1.2 ((hl2 b h2).1 h)⟩
      have vfj:=aT vfi kM zr;have vfb:=aT vfa kM zr;have vft:SS (λb=>(w.heap.size≤b∧¬R2 b)∧vai w9 b) w9 (.slice vi6 x.uses.length c8) x.uses:=SS.eZ vfj hxl λb hb=>⟨vfx b hb,(vai.own vfj (by decide) b hb).2⟩
      have vfq:CV (λb=>(w.heap.size≤b∧¬R2 b)∧vai w9 b) w9 (.slice p9 (aH x.code).length c9) (aH x.code):=CV.eZ vfb λb hb=>⟨vfw b hb,(vai.own vfb (by decide) b hb).2⟩
      have vh4:w.heap.size≤w8.heap.size:=ve0.cV.size;have RX:=vf5.mono (D':=λb=>(w.heap.size≤b∧¬R2 b)∧vai w9 b) λb hb=>⟨⟨Nat.le_trans vh4 hb.1,hn2 b hb.1 hb.2.lt⟩,hb.2⟩
      have hnm:∀u∈(bZ vhk.units).map (vam vhk.units),vcr u.name u:=λu hu=>by
       obtain⟨n,hn,rfl⟩:=List.mem_map.1 hu;rw[vcm] at hn;obtain⟨v,hv⟩:=Option.isSome_iff_exists.1 hn;have hi:=hinv.units n v hv;unfold vam;rw[hv]
       show vcr v.name v
       rw[hi.name];exact hi
      replace hnm:=zh hnm
      have vf0:((bZ vhk.units).map (vam vhk.units)).length≤20:=by
       have:=hinv.vi4;unfold bZ;rw[List.length_map,iP,List.length_map];exact this
      rw[ve4] at hnm vf0
      replace ve4:=zh ve4
      clear vfi vfa vfj vfb wg KB Rz RA ve0 kM vf3 HH vg5 vgk vgl vfx vfw JC hn2 hl2 hinv Jp;generalize ve7:vhh.length=NB at *
      replace ve7:=zh ve7
      obtain⟨Z,vg3,vgx⟩:=vcd NB (by omega) w9;go_upto_region 13 with fail;generalize Gb:World.alloc _ _=W10;have L8:Below w9.heap.size w9 W10:=by rw[←Gb];exact(zb w9).alloc zr _
      have vdp:W10.heap[w9.heap.size]? =some (.cells Z 41 (0,0)):=by rw[←Gb];exact heap_alloc_new w9 _
      have veg:w9.heap.size<W10.heap.size:=aj vdp;clear Gb vgx;have vdd:vb4 w9.heap.size W10 (.slice (some ⟨w9.heap.size,0,none⟩) 0 NB) []:=⟨⟨rfl,.inr ⟨_,NB,Z,rfl,nl _,vdp,Nat.zero_le _,by unfold maxLen;omega,vg3,by simp[vaw]⟩⟩,λx hx=>by cases hx⟩;clear vdp vg3;go_loopw [13,76] (λcv y wx=>∃(i:Nat) (us:List vao),i≤NB∧y=.int .i64 i∧us.length=i∧us.map (·.u)=vhh.take i∧vb4 w9.heap.size wx cv us∧Below w9.heap.size w9 wx∧w9.heap.size<wx.heap.size) (λ_ y _=>NB - (intOf y).toNat)
      case atStart=>exact⟨0,[],Nat.zero_le _,by go_num,rfl,by simp,vdd,L8,veg⟩
      case round =>
       obtain⟨i,us,hi,rfl,CJ,vbg,hown,gN,N3⟩:=hrel;obtain⟨qv,vi8,vfh⟩:=aJ hown.1;subst vfh;clear L8 vdd veg
       by_cases hlt:i<NB
       case pos =>
        obtain⟨u,hu⟩:∃u,vhh[i]? =some u:=⟨_,List.getElem?_eq_getElem (by rw[ve7.out];exact hlt)⟩
        obtain⟨b,o,rfl,va,vc,vd,U1,xU⟩:=(RX.below gN zr).at hu;obtain⟨wm,Fw,JJ,Qt⟩:u.le∧SS _ _ va u.uses∧CV _ _ vc (aH u.code)∧ck _ _ vd u.used:=⟨U1.le,U1.a,U1.c,U1.d⟩;clear U1;obtain⟨t1,t2,rfl,-⟩:=Fw.shape;obtain⟨t3,t4,rfl,-⟩:=JJ.shape;obtain⟨t5,t6,rfl,-⟩:=Qt.shape;have c8:=vav xU;have ve1:=hnm.out u (List.mem_of_getElem? hu);have hlen:u.uses.length≤100000∧u.code.length≤100000∧u.used.length≤100000:=by
         have h1:=ve1.nu;have h2:=ve1.le.2.2;refine⟨by omega,by omega,?_⟩;rcases hb:u.built with _|_
         · rw[(ve1.nb hb).1]
           exact Nat.zero_le _
         · have:=congrArg List.length (ve1.vi1 hb)
           rw[List.length_map] at this;omega
        have hil:(i:Int)<(NB:Int):=by omega
        replace vbg:us.map (·.u)++[u]=vhh.take (i+1):=by
         rw[List.take_add_one,hu,vbg]
         rfl
        replace vbg:=zh vbg
        replace ve1:=zh ve1
        clear xU;go_upto_region 15 with fail;generalize vbm:World.alloc _ _=W2;have bO:Below wr.heap.size wr W2:=by rw[←vbm];exact(zb wr).alloc zr _
        have Fu:W2.heap[wr.heap.size]? =some (.cells #[.string ⟨u.name.toArray⟩,.int .i64 (u.version:Int),.string ⟨u.source.toArray⟩,.string ⟨u.aO.toArray⟩,.slice t1 u.uses.length t2,.bool u.built,.slice t3 (aH u.code).length t4,.slice t5 u.used.length t6] 41 (0,0)):=by rw[←vbm];exact heap_alloc_new wr _
        have nC:wr.heap.size<W2.heap.size:=aj Fu;have vdo:(aH u.code).length=u.code.length:=ak _;clear vbm c8;have veo:=enters_of Tryz.func19 (by kernel_rfl) rfl;have vep:=enters_of Tryz.func20 (by kernel_rfl) rfl;have veq:=enters_of Tryz.func23 (by kernel_rfl) rfl;have hK:wr.heap.size<W2.heap.size:=by omega
        let T:Array Bool→(Nat→Value)→World→Prop:=λlisted vals W=>vaj W2.heap.size wr.heap.size W2 (.string ⟨u.name.toArray⟩) (.int .i64 (u.version:Int)) (.string ⟨u.source.toArray⟩) (.string ⟨u.aO.toArray⟩) (.bool u.built) (.slice t1 u.uses.length t2) (.slice t3 (aH u.code).length t4) (.slice t5 u.used.length t6) u (listed.getD 10 false) (listed.getD 12 false) (listed.getD 14 false) (listed.getD 2 false) (listed.getD 5 false) (listed.getD 8 false) (vals 2) (vals 5) (vals 8) W
        have hT:∀i,(i≠2∧i≠5∧i≠8∧i≠10∧i≠12∧i≠14)→∀(listed:Array Bool) (vals:Nat→Value) (W:World) (z:Value),T listed vals W→T (listed.setIfInBounds i true) (Fa vals i z) W:=λi hi listed vals W z h=>by
         simp only[T] at *;rw[getD_set_ne false hi.1,getD_set_ne false hi.2.1,getD_set_ne false hi.2.2.1,getD_set_ne false hi.2.2.2.1,getD_set_ne false hi.2.2.2.2.1,getD_set_ne false hi.2.2.2.2.2,fE vals z (λe=>hi.1 e.symm),fE vals z (λe=>hi.2.1 e.symm),fE vals z (λe=>hi.2.2.1 e.symm)];exact h
        refine rT (vdy [some (.pointer (some ⟨wr.heap.size,4,none⟩)),some (.slice t1 u.uses.length t2),none,some (.pointer (some ⟨wr.heap.size,6,none⟩)),some (.slice t3 (aH u.code).length t4),none,some (.pointer (some ⟨wr.heap.size,7,none⟩)),some (.slice t5 u.used.length t6),none,some (.pointer (some ⟨wr.heap.size,4,none⟩)),none,some (.pointer (some ⟨wr.heap.size,6,none⟩)),none,some (.pointer (some ⟨wr.heap.size,7,none⟩)),none] T) (by kernel_rfl) (by kernel_rfl) (by kernel_rfl) ⟨λj v _ h=>(kI h).elim,?_⟩ ⟨?_,?_,?_,?_,?_,?_,?_,?_,?_,?_,?_,?_,?_,?_,?_,trivial⟩ ?_
        · have hdr:Below W2.heap.size W2 W2.drew:=(zb W2).drew
          simp only[T];rw[vau,vau,vau,vau,vau,vau];exact⟨aa hdr (by omega),by have:=hdr.size;omega,ag Fu hdr,(λh=>by cases h),(λh=>by cases h),(λh=>by cases h)⟩
        · exact vas 15 (by kernel_rfl) rfl rfl (hT 0 (by decide)) λev w h=>by unfold execOp;simp only[h];simp[go_sem]
        · intro listed vals ax wx hsz hl hS hcl DR hd ho next hnx
          have e:=(vF hd 0 (by kernel_rfl) rfl).trans (hS.c 0 _ rfl (wR DR 0 (by kernel_rfl)));have hq:listed.getD 10 false=false:=by
           rcases hq:listed.getD 10 false with _|_
           · rfl
           · have:=bl hcl (i:=2) (j:=1) rfl (by kernel_rfl) (bl hcl (i:=10) (j:=2) rfl (by kernel_rfl) hq)
             rw[qz hl] at this;cases this
          have xQ:=(van hS.t.head).1.2.2.2.2.1;rw[hq,if_neg (by decide)] at xQ;refine aR (v:=.slice t1 u.uses.length t2) ?_ (hnx _ _ (hS.step (λu h=>Option.some.inj (Option.some.inj h)) (hT 1 (by decide) _ _ _ _ hS.t)));unfold execOp;simp only[e];simp[go_sem,xQ]
        · intro listed vals ax wx hsz hl hS hcl DR hd ho next hnx
          have vbf:listed.size=15:=hsz;have e:=(vF hd 1 (by kernel_rfl) rfl).trans (hS.c 1 _ rfl (wR DR 1 (by kernel_rfl)));have hq:listed.getD 10 false=false:=by
           rcases hq:listed.getD 10 false with _|_
           · rfl
           · have:=bl hcl (i:=10) (j:=2) rfl (by kernel_rfl) hq
             rw[qz hl] at this;cases this
          have RW:vaj _ _ _ _ _ _ _ _ _ _ _ _ _ _ _ _ _ _ _ _ _ _:=hS.t;have gN:=bO.trans (aa RW.cV (by omega));refine xK (R:=λv w'=>w'.ownsRow wx.heap.size 9 1 v u.uses.length (aA u.uses)∧Below wx.heap.size wx w') rfl veo e ((Dj _ u.uses wx (Fw.below gN zr) hlen.1).mono λe w' ⟨v',h1,h2,h3⟩=>⟨v',h1,h2,h3⟩) λv w' hu=>hnx v w' (hS.step (λu h=>by cases h) ?_)
          have h2:=RW.below hu.2 hK;simp only[T];rw[getD_set_ne false (by decide),getD_set_ne false (by decide),getD_set_ne false (by decide),vag (by omega),getD_set_ne false (by decide),getD_set_ne false (by decide),hq,iR,fE vals _ (by decide),fE vals _ (by decide)];rw[hq] at h2;exact⟨h2.cV,h2.le,h2.head,λ_=>ef hu.1 RW.le,h2.o5,h2.vi5⟩
        · exact vas 15 (by kernel_rfl) rfl rfl (hT 3 (by decide)) λev w h=>by unfold execOp;simp only[h];simp[go_sem]
        · intro listed vals ax wx hsz hl hS hcl DR hd ho next hnx
          have e:=(vF hd 3 (by kernel_rfl) rfl).trans (hS.c 3 _ rfl (wR DR 3 (by kernel_rfl)));have hq:listed.getD 12 false=false:=by
           rcases hq:listed.getD 12 false with _|_
           · rfl
           · have:=bl hcl (i:=5) (j:=4) rfl (by kernel_rfl) (bl hcl (i:=12) (j:=5) rfl (by kernel_rfl) hq)
             rw[qz hl] at this;cases this
          have xQ:=(van hS.t.head).1.2.2.2.2.2.2.1;rw[hq,if_neg (by decide)] at xQ;refine aR (v:=.slice t3 (aH u.code).length t4) ?_ (hnx _ _ (hS.step (λu h=>Option.some.inj (Option.some.inj h)) (hT 4 (by decide) _ _ _ _ hS.t)));unfold execOp;simp only[e];simp[go_sem,xQ]
        · intro listed vals ax wx hsz hl hS hcl DR hd ho next hnx
          have vbf:listed.size=15:=hsz;have e:=(vF hd 4 (by kernel_rfl) rfl).trans (hS.c 4 _ rfl (wR DR 4 (by kernel_rfl)));have hq:listed.getD 12 false=false:=by
           rcases hq:listed.getD 12 false with _|_
           · rfl
           · have:=bl hcl (i:=12) (j:=5) rfl (by kernel_rfl) hq
             rw[qz hl] at this;cases this
          have RW:vaj _ _ _ _ _ _ _ _ _ _ _ _ _ _ _ _ _ _ _ _ _ _:=hS.t;have gN:=bO.trans (aa RW.cV (by omega));refine xK (R:=λv w'=>w'.ownsRow wx.heap.size 5 1 v u.code.length (aH u.code)∧Below wx.heap.size wx w') rfl vep e ((vr _ _ wx (JJ.below gN zr) (bF.u8 _) (by rw[vdo];exact hlen.2.1)).mono λe w' ⟨v',h1,h2,h3⟩=>⟨v',h1,by rw[vdo] at h2;exact h2,h3⟩) λv w' hu=>hnx v w' (hS.step (λu h=>by cases h) ?_)
          have h2:=RW.below hu.2 hK;simp only[T];rw[getD_set_ne false (by decide),getD_set_ne false (by decide),getD_set_ne false (by decide),vag (by omega),getD_set_ne false (by decide),getD_set_ne false (by decide),hq,iR,fE vals _ (by decide),fE vals _ (by decide)];rw[hq] at h2;exact⟨h2.cV,h2.le,h2.head,h2.o2,λ_=>ef hu.1 RW.le,h2.vi5⟩
        · exact vas 15 (by kernel_rfl) rfl rfl (hT 6 (by decide)) λev w h=>by unfold execOp;simp only[h];simp[go_sem]
        · intro listed vals ax wx hsz hl hS hcl DR hd ho next hnx
          have e:=(vF hd 6 (by kernel_rfl) rfl).trans (hS.c 6 _ rfl (wR DR 6 (by kernel_rfl)));have hq:listed.getD 14 false=false:=by
           rcases hq:listed.getD 14 false with _|_
           · rfl
           · have:=bl hcl (i:=8) (j:=7) rfl (by kernel_rfl) (bl hcl (i:=14) (j:=8) rfl (by kernel_rfl) hq)
             rw[qz hl] at this;cases this
          have xQ:=(van hS.t.head).1.2.2.2.2.2.2.2;rw[hq,if_neg (by decide)] at xQ;refine aR (v:=.slice t5 u.used.length t6) ?_ (hnx _ _ (hS.step (λu h=>Option.some.inj (Option.some.inj h)) (hT 7 (by decide) _ _ _ _ hS.t)));unfold execOp;simp only[e];simp[go_sem,xQ]
        · intro listed vals ax wx hsz hl hS hcl DR hd ho next hnx
          have vbf:listed.size=15:=hsz;have e:=(vF hd 7 (by kernel_rfl) rfl).trans (hS.c 7 _ rfl (wR DR 7 (by kernel_rfl)));have hq:listed.getD 14 false=false:=by
           rcases hq:listed.getD 14 false with _|_
           · rfl
           · have:=bl hcl (i:=14) (j:=8) rfl (by kernel_rfl) hq
             rw[qz hl] at this;cases this
          have RW:vaj _ _ _ _ _ _ _ _ _ _ _ _ _ _ _ _ _ _ _ _ _ _:=hS.t;have gN:=bO.trans (aa RW.cV (by omega));refine xK (R:=λv w'=>w'.ownsRow wx.heap.size 55 2 v u.used.length (l9 u.used)∧Below wx.heap.size wx w') rfl veq e ((vbd _ u.used wx (Qt.below gN zr) hlen.2.2).mono λe w' ⟨v',h1,h2,h3⟩=>⟨v',h1,h2,h3⟩) λv w' hu=>hnx v w' (hS.step (λu h=>by cases h) ?_)
          have h2:=RW.below hu.2 hK;simp only[T];rw[getD_set_ne false (by decide),getD_set_ne false (by decide),getD_set_ne false (by decide),vag (by omega),getD_set_ne false (by decide),getD_set_ne false (by decide),hq,iR,fE vals _ (by decide),fE vals _ (by decide)];rw[hq] at h2;exact⟨h2.cV,h2.le,h2.head,h2.o2,h2.o5,λ_=>ef hu.1 RW.le⟩
        · exact vas 15 (by kernel_rfl) rfl rfl (hT 9 (by decide)) λev w h=>by unfold execOp;simp only[h];simp[go_sem]
        · intro listed vals ax wx hsz hl hS hcl DR hd ho next hnx
          have vbf:listed.size=15:=hsz;have e:=(vF hd 9 (by kernel_rfl) rfl).trans (hS.c 9 _ rfl (wR DR 9 (by kernel_rfl)));have e2:=vF hd 2 (by kernel_rfl) rfl;have RW:vaj _ _ _ _ _ _ _ _ _ _ _ _ _ _ _ _ _ _ _ _ _ _:=hS.t;have cc:=van RW.head;obtain⟨q,cq,hq⟩:=aJ (RW.o2 (wR DR 2 (by kernel_rfl)));refine aY rfl e e2 (w':=wx.setCell ⟨wr.heap.size,4,none⟩ (vals 2)) (by rw[hq];simp[go_sem,cc]) (hnx _ _ (hS.step (λu h=>by cases h) ?_));have h2:=RW.put hK (r4:=true) (vib:=listed.getD 12 false) (vic:=listed.getD 14 false) 4 (vals 2) rfl;simp only[T];rw[vag (by omega),getD_set_ne false (by decide),getD_set_ne false (by decide),getD_set_ne false (by decide),getD_set_ne false (by decide),getD_set_ne false (by decide),fE vals _ (by decide),fE vals _ (by decide),fE vals _ (by decide)];exact h2
        · exact vas 15 (by kernel_rfl) rfl rfl (hT 11 (by decide)) λev w h=>by unfold execOp;simp only[h];simp[go_sem]
        · intro listed vals ax wx hsz hl hS hcl DR hd ho next hnx
          have vbf:listed.size=15:=hsz;have e:=(vF hd 11 (by kernel_rfl) rfl).trans (hS.c 11 _ rfl (wR DR 11 (by kernel_rfl)));have e2:=vF hd 5 (by kernel_rfl) rfl;have RW:vaj _ _ _ _ _ _ _ _ _ _ _ _ _ _ _ _ _ _ _ _ _ _:=hS.t;have cc:=van RW.head;obtain⟨q,cq,hq⟩:=aJ (RW.o5 (wR DR 5 (by kernel_rfl)));refine aY rfl e e2 (w':=wx.setCell ⟨wr.heap.size,6,none⟩ (vals 5)) (by rw[hq];simp[go_sem,cc]) (hnx _ _ (hS.step (λu h=>by cases h) ?_));have h2:=RW.put hK (r4:=listed.getD 10 false) (vib:=true) (vic:=listed.getD 14 false) 6 (vals 5) rfl;simp only[T];rw[getD_set_ne false (by decide),vag (by omega),getD_set_ne false (by decide),getD_set_ne false (by decide),getD_set_ne false (by decide),getD_set_ne false (by decide),fE vals _ (by decide),fE vals _ (by decide),fE vals _ (by decide)];exact h2
        · exact vas 15 (by kernel_rfl) rfl rfl (hT 13 (by decide)) λev w h=>by unfold execOp;simp only[h];simp[go_sem]
        · intro listed vals ax wx hsz hl hS hcl DR hd ho next hnx
          have vbf:listed.size=15:=hsz;have e:=(vF hd 13 (by kernel_rfl) rfl).trans (hS.c 13 _ rfl (wR DR 13 (by kernel_rfl)));have e2:=vF hd 8 (by kernel_rfl) rfl;have RW:vaj _ _ _ _ _ _ _ _ _ _ _ _ _ _ _ _ _ _ _ _ _ _:=hS.t;have cc:=van RW.head;obtain⟨q,cq,hq⟩:=aJ (RW.vi5 (wR DR 8 (by kernel_rfl)));refine aY rfl e e2 (w':=wx.setCell ⟨wr.heap.size,7,none⟩ (vals 8)) (by rw[hq];simp[go_sem,cc]) (hnx _ _ (hS.step (λu h=>by cases h) ?_));have h2:=RW.put hK (r4:=listed.getD 10 false) (vib:=listed.getD 12 false) (vic:=true) 7 (vals 8) rfl;simp only[T];rw[getD_set_ne false (by decide),getD_set_ne false (by decide),vag (by omega),getD_set_ne false (by decide),getD_set_ne false (by decide),getD_set_ne false (by decide),fE vals _ (by decide),fE vals _ (by decide),fE vals _ (by decide)];exact h2
        intro ax w5 hdf iw hout ⟨listed,vals,hall,Pr,_⟩;have RW:vaj _ _ _ _ _ _ _ _ _ _ _ _ _ _ _ _ _ _ _ _ _ _:=Pr.t;rw[hall 10 (by decide),hall 12 (by decide),hall 14 (by decide),hall 2 (by decide),hall 5 (by decide),hall 8 (by decide)] at RW;rw[dO hdf iw hout];simp only[JW,pz,pw];generalize vals 2=v2 at RW;generalize vals 5=v5 at RW;generalize vals 8=vii at RW;clear hdf iw hout hall Pr;obtain⟨r2,s2,rfl⟩:=aJ (RW.o2 rfl);obtain⟨vi9,vie,rfl⟩:=aJ (RW.o5 rfl);obtain⟨vid,vig,rfl⟩:=aJ (RW.vi5 rfl);have Uc:=RW.head;rw[if_pos rfl,if_pos rfl,if_pos rfl] at Uc;have b6:=(van Uc).1;clear hT veo vep veq;obtain⟨i0,kN,hz0,hz1,hz2⟩:=aV vbh;have vcl:=bO.trans (aa RW.cV zr);have vbe:=gN.trans (aa vcl gN.size);have vb7:=hown.below vcl zr;have vef:∀b,(Value.slice qv i vi8).ownBlock=some b→w9.heap.size≤b∧b<wr.heap.size:=λb hb=>hown.1.lt b (by rw[CJ];exact hb)
        have hnew:vao.ok (λb=>((Value.slice qv i vi8).ownBlock≠some b∧w9.heap.size≤b)∧vai w5 b) w5 ⟨u,.slice r2 u.uses.length s2,.slice vi9 u.code.length vie,.slice vid u.used.length vig⟩:=by
         have hD:∀b,W2.heap.size≤b→vai w5 b→((Value.slice qv i vi8).ownBlock≠some b∧w9.heap.size≤b)∧vai w5 b:=λb hb hr=>⟨⟨λe=>by have:=(vef b e).2;omega,by omega⟩,hr⟩
         exact⟨wm,SS.eZ (RW.o2 rfl) Fw.le λb hb=>hD b (((RW.o2 rfl).lt b hb).1) (vai.own (RW.o2 rfl) (by decide) b hb).2,CV.eZ (by rw[vdo];exact RW.o5 rfl) λb hb=>hD b (((RW.o5 rfl).lt b hb).1) (vai.own (RW.o5 rfl) (by decide) b hb).2,ck.eZ (RW.vi5 rfl) Qt.le λb hb=>hD b (((RW.vi5 rfl).lt b hb).1) (vai.own (RW.vi5 rfl) (by decide) b hb).2⟩
        have CA:Below w5.heap.size w5 (w5.alloc (.cells #[.string ⟨u.name.toArray⟩,.int .i64 (u.version:Int),.string ⟨u.source.toArray⟩,.string ⟨u.aO.toArray⟩,.slice r2 u.uses.length s2,.bool u.built,.slice vi9 u.code.length vie,.slice vid u.used.length vig] 41)):=(zb w5).alloc zr _;have veb:=heap_alloc_new w5 (.cells #[.string ⟨u.name.toArray⟩,.int .i64 (u.version:Int),.string ⟨u.source.toArray⟩,.string ⟨u.aO.toArray⟩,.slice r2 u.uses.length s2,.bool u.built,.slice vi9 u.code.length vie,.slice vid u.used.length vig] 41);have MB:=aT vb7.1 CA zr;rw[CJ] at MB;have xR:=vbe.trans (aa CA vbe.size);clear Fw JJ Qt hown Fu RW Uc;rw[CJ];go_wp2_with (at_builtin;refine gK _ rfl _ _ 36 rfl w9.heap.size 41 i0 _ 8 136 (by kernel_rfl) kN hz0 hz1 hz2 rfl (by decide) _ i _ rfl MB ⟨w5.heap.size,0,none⟩ 1 1 (vap u (.slice r2 u.uses.length s2) (.slice vi9 u.code.length vie) (.slice vid u.used.length vig)) rfl rfl (λj u hj=>by rw[eH];exact(af veb (0+j)).trans (by simpa[vap] using hj)) (λu hu=>by unfold vap at hu;simp only[List.mem_cons,List.not_mem_nil,or_false] at hu;rcases hu with rfl|rfl|rfl|rfl|rfl|rfl|rfl|rfl<;>rfl) (by decide) (by unfold maxLen;omega) (by omega) xR.size ?_;intro v' w7 vbr hgr Qd);have MJ:(w5.alloc (.cells #[.string ⟨u.name.toArray⟩,.int .i64 (u.version:Int),.string ⟨u.source.toArray⟩,.string ⟨u.aO.toArray⟩,.slice r2 u.uses.length s2,.bool u.built,.slice vi9 u.code.length vie,.slice vid u.used.length vig] 41)).heap.size=w5.heap.size+1:=by simp
        have hkeep:∀y:vao,y.ok (λb=>((Value.slice qv i vi8).ownBlock≠some b∧w9.heap.size≤b)∧vai w5 b) w5→y.ok (λb=>(v'.ownBlock≠some b∧w9.heap.size≤b)∧vai w7 b) w7:=λy hy=>by
         have e1:∀b,(Value.slice qv i vi8).ownBlock≠some b→b<w5.heap.size→w7.heap[b]? =w5.heap[b]? :=λb hb hl=>(hgr.block b (by rw[MJ];omega) (λe=>hb e.symm)).trans (CA.block b hl)
         have hy2:=hy.mono (D':=λb=>(((Value.slice qv i vi8).ownBlock≠some b∧w9.heap.size≤b)∧vai w5 b)∧b<w5.heap.size) λb hb hl=>⟨hb,hl⟩
         refine(hy2.agree λb hb hl=>e1 b hb.1.1.1 hl).mono λb hb _=>⟨⟨λe=>?_,hb.1.1.2⟩,hb.1.2.keep (e1 b hb.1.1.1 hb.2)⟩
         rcases Qd with Qd|Qd
         · rw[Qd] at e
           exact hb.1.1.1 e
         · rw[Qd,MJ] at e
           cases e;omega
        have Jp:=xR.grown hgr (by have:=xR.size;omega) λb e=>(vef b e).1
        refine⟨⟨i+1,us++[⟨u,.slice r2 u.uses.length s2,.slice vi9 u.code.length vie,.slice vid u.used.length vig⟩],hlt,by go_num,by simp[CJ],?_,⟨?_,λy hy=>hkeep y ?_⟩,Jp,by have:=hgr.size;have:=CA.size;have:=vcl.size;omega⟩,by simp only[intOf];omega⟩
        · rw[List.map_append,←vbg.out]
          rfl
        · rw[List.length_append,CJ]
          rw[show vaw (us++[⟨u,.slice r2 u.uses.length s2,.slice vi9 u.code.length vie,.slice vid u.used.length vig⟩])=vaw us++vap u (.slice r2 u.uses.length s2) (.slice vi9 u.code.length vie) (.slice vid u.used.length vig) by simp[vaw]];exact vbr
        · rcases List.mem_append.1 hy with hy|hy
          · have:=vb7.2 y hy
            rw[CJ] at this;exact this
          · rw[List.mem_singleton.1 hy]
            exact hnew
       case neg =>
        have hni:¬(i:Int)<(NB:Int):=by omega
        have vfl:us.map (·.u)=vhh:=by rw[vbg,show i=vhh.length by rw[ve7.out];omega,List.take_length]
        have vfu:vak (λb=>w9.heap.size≤b∧vai wr b) wr (.slice qv i vi8) vhh:=by
         rw[←vfl];have h:=hown.units (by rw[CJ];unfold maxLen;omega);rw[CJ] at h;exact h
        have vgv:=vf4.below gN;have ver:∀{w':World},Below w9.heap.size w9 w'→∀b,(w.heap.size≤b∧¬R2 b)∧vai w9 b→(w.heap.size≤b∧¬R2 b)∧vai w' b:=λhb' b hb=>⟨hb.1,hb.2.below hb' zr⟩
        have vfs:=(vft.below gN zr).mono (ver gN);have vfp:=(vfq.below gN zr).mono (ver gN);have Jj:=(RX.below gN zr).mono (ver gN);have vgn:=gN.size
        rename World=>wb
        clear vf4 vft vfq RX vf5 hown vbg ver;have T3:=vgv;have Ki:vaq (λb=>w.heap.size≤b∧¬R2 b) wb wb:=vaq.refl _ _;generalize vc7:x.uses.length=vhu at *
        replace vc7:=zh vc7
        have vgu:(aH x.code).length≤3010:=by rw[ak];exact vgi
        generalize vf1:(aH x.code).length=vht at *
        replace vf1:=zh vf1
        clear gN;go_upto_region 19 with fail;go_loopw [99] (λy wx=>∃k:Nat,k≤vhu∧y=.int .i64 k∧vah R2 w wx lo vhk 32∧vaq (λb=>w.heap.size≤b∧¬R2 b) wb wx) (λy _=>vhu - (intOf y).toNat)
        case atStart=>exact⟨0,Nat.zero_le _,by go_num,T3,Ki⟩
        case round =>
         obtain⟨k,hk,rfl,vb6,TS⟩:=hrel;clear T3 Ki
         by_cases sA:k<vhu
         case pos=>
          obtain⟨s,hs⟩:∃s,x.uses[k]? =some s:=⟨_,List.getElem?_eq_getElem (by rw[vc7.out];exact sA)⟩
          obtain⟨b,o,rfl,hb,d0⟩:=vfs.at hs;obtain⟨y,hy,hf,Mr⟩:=TS.cell hb.2 d0;obtain⟨t,rfl⟩:=Mr.str;have hT:=vb6.turn TS (λ_ hb=>hb) hb.1 hb.2 d0 (vb3.toStr (t:=⟨#[]⟩));have vct:(k:Int)<(vhu:Int):=by omega
          go_wp2_with fail;exact⟨⟨k+1,sA,by go_num,hT.1,hT.2⟩,by simp only[intOf];omega⟩
         case neg =>
          have hnk:¬(k:Int)<(vhu:Int):=by omega
          clear vfs;go_upto_region 24 with fail
          rename World=>wk
          have T3:=vb6;have Ki:=TS;clear vb6 TS;go_loopw [108] (λy wx=>∃k:Nat,k≤vht∧y=.int .i64 k∧vah R2 w wx lo vhk 32∧vaq (λb=>w.heap.size≤b∧¬R2 b) wb wx) (λy _=>vht - (intOf y).toNat)
          case atStart=>exact⟨0,Nat.zero_le _,by go_num,T3,Ki⟩
          case round =>
           obtain⟨j,hj,rfl,vb6,TS⟩:=hrel;clear T3 Ki
           by_cases hjl:j<vht
           case pos=>
            obtain⟨s,hs⟩:∃s,(aH x.code)[j]? =some s:=⟨_,List.getElem?_eq_getElem (by rw[vf1.out];exact hjl)⟩
            obtain⟨b,o,rfl,hb,d0⟩:=vfp.at hs;rw[jo,Option.map_eq_some_iff] at hs;obtain⟨s0,_,rfl⟩:=hs;obtain⟨y,hy,hf,Mr⟩:=TS.cell hb.2 d0;obtain⟨t,rfl⟩:=Mr.u8;have vct:(j:Int)<(vht:Int):=by omega
            replace d0:=zh d0
            go_wp2_with fail;exact⟨⟨j+1,hjl,by go_num,(vb6.turn TS (λ_ hb=>hb) hb.1 hb.2 d0.out vb3.vdb).1,(vb6.turn TS (λ_ hb=>hb) hb.1 hb.2 d0.out vb3.vdb).2⟩,by simp only[intOf];omega⟩
           case neg =>
            have vh8:¬(j:Int)<(vht:Int):=by omega
            clear vfp;go_upto_region 29 with fail
            rename World=>vik
            have T3:=vb6;have Ki:=TS;clear vb6 TS;go_loopw [120] (λy wx=>∃q:Nat,q≤NB∧y=.int .i64 q∧vah R2 w wx lo vhk 32∧vaq (λb=>w.heap.size≤b∧¬R2 b) wb wx) (λy _=>NB - (intOf y).toNat)
            case atStart=>exact⟨0,Nat.zero_le _,by go_num,T3,Ki⟩
            case round =>
             obtain⟨q,hq,rfl,vd1,vck⟩:=hrel;clear T3 Ki
             by_cases hql:q<NB
             case pos =>
              obtain⟨u,hu⟩:∃u,vhh[q]? =some u:=⟨_,List.getElem?_eq_getElem (by rw[ve7.out];exact hql)⟩
              obtain⟨b0,o0,rfl,vdc⟩:=Jj.row hu;obtain⟨b,o,eb,va,vc,vd,U1,xU⟩:=Jj.at hu;injection eb with eb;injection eb with vgm eb2;subst vgm eb2;obtain⟨Fw,JJ,Qt⟩:SS _ _ va u.uses∧CV _ _ vc (aH u.code)∧ck _ _ vd u.used:=⟨U1.a,U1.c,U1.d⟩;clear U1;obtain⟨t1,t2,rfl,-,hl1,-⟩:=Fw.shape;obtain⟨t3,t4,rfl,-,hl2⟩:=JJ.shape;obtain⟨t5,t6,rfl,-,NZ⟩:=Qt.shape;unfold maxLen at hl1 hl2 NZ;have c8:=vav xU;obtain⟨y0,h0,-,k0⟩:=vck.cell vdc.2 c8.1;obtain⟨z0,rfl⟩:=k0.str;obtain⟨y1,h1,-,k1⟩:=vck.cell vdc.2 c8.2.1;obtain rfl:=k1.i64;obtain⟨y2,h2,-,k2⟩:=vck.cell vdc.2 c8.2.2.1;obtain⟨z2,rfl⟩:=k2.str;obtain⟨y3,h3,-,k3⟩:=vck.cell vdc.2 c8.2.2.2.1;obtain⟨z3,rfl⟩:=k3.str;obtain⟨y4,h4,-,k4⟩:=vck.cell vdc.2 c8.2.2.2.2.1;obtain rfl:=k4.slice;obtain⟨vin,h5,-,k5⟩:=vck.cell vdc.2 c8.2.2.2.2.2.1;obtain rfl:=k5.bool;obtain⟨y6,h6,-,k6⟩:=vck.cell vdc.2 c8.2.2.2.2.2.2.1;obtain rfl:=k6.slice;obtain⟨vio,h7,-,k7⟩:=vck.cell vdc.2 c8.2.2.2.2.2.2.2;obtain rfl:=k7.slice;have vh1:(q:Int)<(NB:Int):=by omega
              clear c8 xU k0 k1 k2 k3 k4 k5 k6 k7;go_upto_region 31 with fail;generalize vbm:World.alloc _ _=W2;have bO:Below wr.heap.size wr W2:=by rw[←vbm];exact(zb wr).alloc zr _
              have Fu:W2.heap[wr.heap.size]? =some (.cells #[.string z0,.int .i64 (u.version:Int),.string z2,.string z3,.slice t1 u.uses.length t2,.bool u.built,.slice t3 (aH u.code).length t4,.slice t5 u.used.length t6] 41 (0,0)):=by rw[←vbm];exact heap_alloc_new wr _
              clear vbm h0 h1 h2 h3 h4 h5 h6 h7;have LZ:=vd1.below bO;have hM2:=vck.below bO zr;have vgp:¬(w.heap.size≤wr.heap.size∧¬R2 wr.heap.size):=λh=>h.2 (vdj _ (Nat.le_trans vgn vck.size))
              generalize wr.heap.size=vhi at *;have vfe:∀wx,vaq (λb=>w.heap.size≤b∧¬R2 b) W2 wx→wx.heap[vhi]? =W2.heap[vhi]? :=λwx hm=>hm.out _ (aj Fu) vgp
              generalize hN1:u.uses.length=vhq at *;generalize Pf:(aH u.code).length=vhr at *;generalize vez:u.used.length=vhs at *
              replace hN1:=zh hN1
              replace Pf:=zh Pf
              replace vez:=zh vez
              have Ki:=vaq.refl (λb=>w.heap.size≤b∧¬R2 b) W2;have T3:=LZ;clear bO vd1 LZ;have b2:=(van Fu).1;go_upto_region 32 with fail;clear b2;go_loopw [127] (λy wx=>∃k:Nat,k≤vhq∧y=.int .i64 k∧vah R2 w wx lo vhk 32∧vaq (λb=>w.heap.size≤b∧¬R2 b) W2 wx) (λy _=>vhq - (intOf y).toNat)
              case atStart=>exact⟨0,Nat.zero_le _,by go_num,T3,Ki⟩
              case round =>
               obtain⟨k,hk,rfl,vb6,TS⟩:=hrel;clear T3 Ki;have b2:=(van ((vfe _ TS).trans Fu)).1
               by_cases sA:k<vhq
               case pos=>
                obtain⟨s,hs⟩:∃s,u.uses[k]? =some s:=⟨_,List.getElem?_eq_getElem (by rw[hN1.out];exact sA)⟩
                obtain⟨b1,o1,rfl,aP,d0⟩:=Fw.at hs;obtain⟨y,hy,-,Mr⟩:=hM2.cell aP.2 d0;obtain⟨t,rfl⟩:=Mr.str;obtain⟨y',hy',hf,vcu⟩:=TS.cell (hM2.vbo aP.2) hy;obtain⟨t',rfl⟩:=vcu.str;have hT:=vb6.turn TS (λ_ hb=>hb) aP.1 (hM2.vbo aP.2) hy (vb3.toStr (t:=⟨#[]⟩));have vct:(k:Int)<(vhq:Int):=by omega
                replace hy:=zh hy
                replace d0:=zh d0
                go_wp2_with fail;exact⟨⟨k+1,sA,by go_num,hT.1,hT.2⟩,by simp only[intOf];omega⟩
               case neg =>
                have hnk:¬(k:Int)<(vhq:Int):=by omega
                go_upto_region 37 with fail;have T3:=vb6;have Ki:=TS;clear vb6 TS b2 Fw;go_loopw [138] (λy wx=>∃k:Nat,k≤vhr∧y=.int .i64 k∧vah R2 w wx lo vhk 32∧vaq (λb=>w.heap.size≤b∧¬R2 b) W2 wx) (λy _=>vhr - (intOf y).toNat)
                case atStart=>exact⟨0,Nat.zero_le _,by go_num,T3,Ki⟩
                case round=>
                 obtain⟨k,hk,rfl,vb6,TS⟩:=hrel;clear T3 Ki;have b2:=(van ((vfe _ TS).trans Fu)).1
                 by_cases sA:k<vhr
                 case pos=>
                  obtain⟨s,hs⟩:∃s,(aH u.code)[k]? =some s:=⟨_,List.getElem?_eq_getElem (by rw[Pf.out];exact sA)⟩
                  obtain⟨b1,o1,rfl,aP,d0⟩:=JJ.at hs;rw[jo,Option.map_eq_some_iff] at hs;obtain⟨s0,_,rfl⟩:=hs;obtain⟨y,hy,-,Mr⟩:=hM2.cell aP.2 d0;obtain⟨t,rfl⟩:=Mr.u8;obtain⟨y',hy',hf,vcu⟩:=TS.cell (hM2.vbo aP.2) hy;obtain⟨t',rfl⟩:=vcu.u8;have vct:(k:Int)<(vhr:Int):=by omega
                  replace hy:=zh hy
                  replace d0:=zh d0
                  go_wp2_with fail;exact⟨⟨k+1,sA,by go_num,(vb6.turn TS (λ_ hb=>hb) aP.1 (hM2.vbo aP.2) hy.out vb3.vdb).1,(vb6.turn TS (λ_ hb=>hb) aP.1 (hM2.vbo aP.2) hy.out vb3.vdb).2⟩,by simp only[intOf];omega⟩
                 case neg=>
                  have hnk:¬(k:Int)<(vhr:Int):=by omega
                  go_upto_region 42 with fail;have T3:=vb6;have Ki:=TS;clear vb6 TS b2 JJ;go_loopw [152] (λy wx=>∃k:Nat,k≤vhs∧y=.int .i64 k∧vah R2 w wx lo vhk 32∧vaq (λb=>w.heap.size≤b∧¬R2 b) W2 wx) (λy _=>vhs - (intOf y).toNat)
                  case atStart=>exact⟨0,Nat.zero_le _,by go_num,T3,Ki⟩
                  case round=>
                   obtain⟨k,hk,rfl,vb6,TS⟩:=hrel;clear T3 Ki;have b2:=(van ((vfe _ TS).trans Fu)).1
                   by_cases sA:k<vhs
                   case pos=>
                    obtain⟨s,hs⟩:∃s,u.used[k]? =some s:=⟨_,List.getElem?_eq_getElem (by rw[vez.out];exact sA)⟩
                    obtain⟨b1,o1,rfl,aP,d0,d1⟩:=Qt.at hs;obtain⟨y,hy,-,Mr⟩:=hM2.cell aP.2 d0;obtain⟨t,rfl⟩:=Mr.str;obtain⟨viq,veu,-,vff⟩:=hM2.cell aP.2 d1;obtain⟨tb,rfl⟩:=vff.str;obtain⟨y',hy',hf,vcu⟩:=TS.cell (hM2.vbo aP.2) hy;obtain⟨t',rfl⟩:=vcu.str;obtain⟨vhg,vh5,hf',ved⟩:=TS.cell (hM2.vbo aP.2) veu;obtain⟨t'',rfl⟩:=ved.str;have hT:=vb6.turn TS (λ_ hb=>hb) aP.1 (hM2.vbo aP.2) hy (vb3.toStr (t:=⟨#[]⟩));have F8:=hT.1.turn hT.2 (λ_ hb=>hb) aP.1 (hM2.vbo aP.2) veu (vb3.toStr (t:=⟨#[]⟩));have vct:(k:Int)<(vhs:Int):=by omega
                    replace hy:=zh hy
                    replace veu:=zh veu
                    replace d0:=zh d0
                    replace d1:=zh d1
                    go_wp2_with fail;exact⟨⟨k+1,sA,by go_num,F8.1,F8.2⟩,by simp only[intOf];omega⟩
                   case neg=>
                    have hnk:¬(k:Int)<(vhs:Int):=by omega
                    go_wp2_with fail;exact⟨⟨q+1,hql,by go_num,vb6,hM2.trans TS⟩,by simp only[intOf];omega⟩
             case neg =>
              have vh9:¬(q:Int)<(NB:Int):=by omega
              have vgc:=vd1.names;have hmn:=vd0 vd1.inv;have HN:=zy _ vd1.read;go_upto_region 48 with(first
               | (go_at_call 15;refine HM.mono ?_;clear HM;rintro e ve2 ⟨mv,rfl,vcw,L9⟩;obtain⟨mp,mc,rfl⟩:=aJ vcw)
               | (go_at_call 24;refine HS.mono ?_;clear HS;rintro e Od ⟨⟨sv,rfl,vdr⟩,PE⟩;obtain⟨sp,sc,rfl,-⟩:=vdr.shape;have HM:=uR _ (vd1.below (L8.trans (aa PE L8.size))).read)
               | (go_at_call 16;refine HN.mono ?_;clear HN;rintro e CL ⟨nv,rfl,vcv,L8⟩;obtain⟨np,nc,rfl⟩:=aJ vcv;have HS:=(vd1.below L8).IA))
              generalize vdi:World.alloc _ _=W13;have Ge:Below ve2.heap.size ve2 W13:=by rw[←vdi];exact(zb ve2).alloc zr _
              have vd6:W13.heap[ve2.heap.size]? =some (.cells #[.slice np (bZ vhk.units).length nc,.slice sp (lZ vhk.units).length sc,.slice mp (sN vhk.units).length mc] 31 (0,0)):=by rw[←vdi];exact heap_alloc_new ve2 _
              clear vdi;have xR:=L8.trans (aa PE L8.size);have R6:=xR.trans (aa L9 xR.size);have vf9:=R6.trans (aa Ge R6.size);have vdl:=PE.trans (aa (L9.trans (aa Ge L9.size)) PE.size);have vdm:=L9.trans (aa Ge L9.size);obtain⟨vhy,ve8,Qc,NZ,-⟩:=vd1.fenced vf9;have Fl:∀b,wr.heap.size≤b→vai W13 b→(w.heap.size≤b∧¬vhy b)∧vai W13 b:=λb h1 h2=>⟨⟨Nat.le_trans vd1.cV.size h1,Qc b h1 h2.lt⟩,h2⟩
              have vhz:SS (λb=>(w.heap.size≤b∧¬vhy b)∧vai W13 b) W13 (.slice np (bZ vhk.units).length nc) (bZ vhk.units):=SS.eZ (aT vcv vdl zr) (λn hn=>by have:=(vgc n hn).2;unfold maxLen;omega) λb hb=>Fl b (vcv.lt b hb).1 (vai.own (aT vcv vdl zr) (by decide) b hb).2
              have S2:SS (λb=>(w.heap.size≤b∧¬vhy b)∧vai W13 b) W13 (.slice sp (lZ vhk.units).length sc) (lZ vhk.units):=(vdr.below vdm zr).mono λb hb=>Fl b (Nat.le_trans L8.size hb.1) (hb.2.below vdm zr)
              have S3:SS (λb=>(w.heap.size≤b∧¬vhy b)∧vai W13 b) W13 (.slice mp (sN vhk.units).length mc) (sN vhk.units):=SS.eZ (aT vcw Ge zr) (λn hn=>by have:=hmn n hn;unfold maxLen;omega) λb hb=>Fl b (Nat.le_trans xR.size (vcw.lt b hb).1) (vai.own (aT vcw Ge zr) (by decide) b hb).2
              have vfv:=vfu.agree (w':=wr) λb hb hl=>vck.out b hl λh=>h.2 (vdj b hb.1)
              have ve5:=(vfv.below vf9 zr).mono (D':=vhy) λb hb=>(NZ b (Nat.lt_of_lt_of_le hb.2.lt vck.size)).2 (vdj b hb.1)
              have ve6:=vaq.refl (λb=>w.heap.size≤b∧¬vhy b) W13;generalize ve2.heap.size=G13 at *;clear vgc hmn vcv vdr vcw L8 PE L9 Ge xR R6 vf9 vdl vdm vfv vfu Fl Qc vd1 vck;go_loopw [170] (λy wx=>∃k:Nat,k≤3∧y=.int .i64 k∧vah vhy w wx lo vhk 32∧vaq (λb=>w.heap.size≤b∧¬vhy b) W13 wx) (λy _=>3 - (intOf y).toNat)
              case atStart=>exact⟨0,by omega,by go_num,ve8,ve6⟩
              case round=>
               obtain⟨k,hk,rfl,vb6,TS⟩:=hrel;clear ve8 ve6
               by_cases sA:k<3
               case pos=>
                obtain⟨pl,cl,ll,vea,T6⟩:∃p c,∃ll:List (List UInt8),W13.cell? ⟨G13,k,none⟩=some (.slice p ll.length c)∧SS (λb=>(w.heap.size≤b∧¬vhy b)∧vai W13 b) W13 (.slice p ll.length c) ll:=by
                 rcases(show k=0∨k=1∨k=2 by omega) with rfl|rfl|rfl
                 · exact⟨_,_,_,(af vd6 0).trans rfl,vhz⟩
                 · exact⟨_,_,_,(af vd6 1).trans rfl,S2⟩
                 · exact⟨_,_,_,(af vd6 2).trans rfl,S3⟩
                obtain⟨y,hy,-,Mr⟩:=TS.cell ⟨_,_,vd6,by decide⟩ vea;obtain rfl:=Mr.slice;clear vea Mr;have hlk:ll.length≤9223372036854775807:=by
                 obtain⟨_,_,_,_,h,_⟩:=T6.shape;unfold maxLen at h;exact h
                generalize vf2:ll.length=vhv at *
                replace vf2:=zh vf2
                have vct:(k:Int)<3:=by omega
                go_upto_region 51 with fail
                rename World=>vil
                have T3:=vb6;have Ki:=TS;clear vb6 TS hy;go_loopw [176] (λy wx=>∃m:Nat,m≤vhv∧y=.int .i64 m∧vah vhy w wx lo vhk 32∧vaq (λb=>w.heap.size≤b∧¬vhy b) W13 wx) (λy _=>vhv - (intOf y).toNat)
                case atStart=>exact⟨0,Nat.zero_le _,by go_num,T3,Ki⟩
                case round=>
                 obtain⟨m,CH,rfl,vfz,vey⟩:=hrel;clear T3 Ki
                 by_cases hml:m<vhv
                 case pos=>
                  obtain⟨s,hs⟩:∃s,ll[m]? =some s:=⟨_,List.getElem?_eq_getElem (by rw[vf2.out];exact hml)⟩
                  obtain⟨b,o,rfl,hb,d0⟩:=T6.at hs;obtain⟨y,hy,hf,Mr⟩:=vey.cell hb.2 d0;obtain⟨t,rfl⟩:=Mr.str;have hT:=vfz.turn vey (λ_ hb=>hb) hb.1 hb.2 d0 (vb3.toStr (t:=⟨#[]⟩));have vh0:(m:Int)<(vhv:Int):=by omega
                  replace d0:=zh d0
                  go_wp2_with fail;exact⟨⟨m+1,hml,by go_num,hT.1,hT.2⟩,by simp only[intOf];omega⟩
                 case neg=>
                  have hnm:¬(m:Int)<(vhv:Int):=by omega
                  go_wp2_with fail;exact⟨⟨k+1,sA,by go_num,vfz,vey⟩,by simp only[intOf];omega⟩
               case neg=>
                have hnk:¬(k:Int)<3:=by omega
                have vgo:=ve5.agree (w':=wr) λb hb hl=>TS.out b hl λh=>h.2 hb
                have vfr:=s6 wr (ht.below vb6.cV zr) (hm.below vb6.cV) (by have:=vb6.cV.size;omega);clear vhz S2 S3 ve5;go_wp2_with (first
                 | (go_at_call 25;refine HQ.mono ?_;clear HQ;rintro e w16 ⟨rfl,vf8⟩)
                 | (go_at_call 17;refine HU.mono ?_;clear HU;rintro e w15 ⟨⟨VD,rfl,vga⟩,Ma⟩;rw[ve4.out] at vga;have HQ:=vbz vhh _ _ w15 vga ((vgo.below vdk zr).below Ma zr))
                 | (go_at_call 12;refine vfr.mono ?_;clear vfr;rintro e w14 ⟨rfl,vdk⟩;have HU:=vbl (vb6.below vdk)))
                exact bodyPost_ret (v:=.bool true) (by simp[results,Tryz.results4,go_sem]) rfl ⟨rfl,(((vb6.below vdk).below Ma).below vf8).cV⟩
