/-
  Lemmas: worlds in which cells of some variables are turned into others of their kind. Conditions: bounds of lengths; the variable strings.asciiSpace.
-/
import Derived.Test.YtemjidmkolfgnaaGreatDoorSBn
import Derived.Test.YtemjidmkolfgnaaGreatDoorSF1
import Derived.Test.YtemjidmkolfgnaaGreatDoorSF2
set_option maxHeartbeats 25600000
namespace Go.Proofs.YtemjidmkolfgnaaGreatDoor
section
open Go Go.RowKit Go.Sort
theorem vbc (v:Value) (ss:List (List UInt8)) (B k:Nat) (W:World) (h:W.ownsRow B 9 1 v ss.length (aA ss)) (hk:k<ss.length):
 Calls Tryz.prog 34 #[v,.int .i64 (k:Int),.int .i64 ((k:Int)+1)] W λe w'=>∃v',e=.returned v'∧w'.ownsRow B 9 1 v' (ss.take k++ss.drop (k+1)).length (aA (ss.take k++ss.drop (k+1)))∧W.grownBy w' v.ownBlock∧v'.ownBlock=v.ownBlock:=by
 rcases h.2 with⟨rfl,h0⟩|⟨g,cap,cur,rfl,hb,hh,h1,h2,h3,h4⟩
 · omega
 · have hH:Holds encStr W g 0 ss.toArray:=holds_of_block hh (by simpa[aA] using h4)
   have hD:=Tryz.slices_Delete_string g 0 cap k (k+1) ss W hH h1 (by unfold maxLen at h2;exact h2) (Nat.le_succ k) hk;rw[show(((k+1:Nat)):Int)=(k:Int)+1 by omega] at hD;refine hD.mono ?_;rintro e w' ⟨rfl,q,rfl⟩;have hT:(ss.take k++ss.drop (k+1)).length=ss.length - (k+1 - k):=by simp;omega
   have hL:(ss.take k++ss.drop (k+1)++List.replicate (k+1 - k) []).length=ss.length:=by rw[List.length_append,hT,List.length_replicate];omega
   have ht:=take_putCells cur (ss.take k++ss.drop (k+1)++List.replicate (k+1 - k) []) (by rw[hL,h3];omega);generalize ss.take k++ss.drop (k+1)=T at *;generalize List.replicate (k+1 - k) []=Z at *;have hn:(putRow encStr (Sort.ahead W q) g 0 (T++Z).toArray).heap[g]? =some (.cells (putCells encStr 0 (T++Z).toArray cur) 9 (0,0)):=by
    simp[putRow,mapBlock,Sort.ahead,Array.getElem?_modify,hh,onCells]
   refine⟨_,rfl,?_,⟨rfl,rfl,rfl,by simp[Sort.ahead],λj _ hne=>?_⟩,rfl⟩
   · rw[←hT]
     refine⟨by simp[aA],.inr ⟨g,cap,_,rfl,hb,hn,by omega,h2,by simp[putCells,h3],?_⟩⟩;rw[Nat.mul_one];have h5:=congrArg (List.take T.length) ht;rw[List.take_take,Nat.min_eq_left (by rw[List.length_append];omega),List.map_append,List.take_left' (by simp)] at h5;exact h5
   · have:g≠j:=λe=>hne (by rw[e];rfl)
     simp[putRow,mapBlock,Sort.ahead,Array.getElem?_modify,this]
end
open Go Go.RowKit
theorem vaw.mono {D D':Nat→Prop} {w:World} {v:Value} {l:List vbj} (h:vaw D w v l) (hD:∀b,D b→D' b):vaw D' w v l:=by
 obtain⟨p,c,h1,h2,h3,h4⟩:=h
 refine⟨p,c,h1,h2,h3,?_⟩
 rcases h4 with h4|⟨b,o,e,h5,h6,h7⟩
 · exact .inl h4
 · refine .inr ⟨b,o,e,hD b h5,h6,λj x hj=>?_⟩
   obtain⟨va,vb,vc,k1,k2⟩:=h7 j x hj;exact⟨va,vb,vc,⟨k1.a.mono hD,k1.b.mono hD,k1.c.mono hD,k1.kd,k1.le⟩,k2⟩
theorem vap.qK {w:World} {b:Nat} (h:vap w b):∃x,w.heap[b]? =some x∧qK x:=by
 obtain⟨cs,t,e,_,ht⟩:=h
 exact⟨_,e,cs,t,_,rfl,ht⟩
theorem dI.row {w w':World} {b:Nat} (hk:dI w w') (h:vap w b):w'.heap[b]? =w.heap[b]? :=by
 obtain⟨x,e,hx⟩:=h.qK
 exact(hk b x e hx).trans e.symm
theorem dI.own {w w':World} {K n m:Nat} {t:TypeId} {v:Value} {cs:List Value} (hk:dI w w') (h:w.ownsRow K t n v m cs) (ht:t≠111∧t≠133∧t≠145∧t≠147∧t≠198):w'.ownsRow K t n v m cs:=aG h λb hb=>hk.row (vap.own h ht b hb).2
theorem vag.fenced {R:Nat→Prop} {w W W':World} {l:Loc} {L:bh} {j:Nat} (h:vag R w W l L j) (hb:Below W.heap.size W W'):
 ∃vhu:Nat→Prop,vag vhu w W' l L j∧(∀b,W.heap.size≤b→b<W'.heap.size→¬vhu b)∧(∀b,b<W.heap.size→(vhu b↔R b))∧∀b,W'.heap.size≤b→vhu b:=
 ⟨_, h.fence hb, fun b h1 h2 h3 => by rcases h3 with ⟨_, h3⟩ | h3 <;> omega, fun b h1 => ⟨fun h3 => by
  rcases h3 with⟨h3,_⟩|h3
  · exact h3
  · have:=hb.size
    omega,λh3=>.inl ⟨h3,h1⟩⟩,λb h1=>.inr h1⟩
theorem vda (s:Int) (n:Nat) (hn:0<n) (h:n≤100):∃k:Nat,k<n∧wrap64 ((IntKind.u64.wrap s).tmod (n:Int))=(k:Int):=by
 have hw:∀s,IntKind.u64.wrap s=s % 18446744073709551616:=λs=>by simp[IntKind.wrap,IntKind.bits,IntKind.signed]
 have h0:0≤IntKind.u64.wrap s:=by rw[hw];exact Int.emod_nonneg _ (by decide)
 obtain⟨u,hu⟩:∃u:Nat,IntKind.u64.wrap s=(u:Int):=⟨(IntKind.u64.wrap s).toNat,by omega⟩
 rw[hu]
 have e1:((u:Int).tmod (n:Int))=((u % n:Nat):Int):=by
  rw[Int.tmod_eq_emod_of_nonneg (by omega)];omega
 rw[e1]
 have hr:u % n<n:=Nat.mod_lt _ hn
 generalize u % n=r at *
 exact⟨r,hr,by unfold wrap64;omega⟩
theorem CV.tail {D:Nat→Prop} {w:World} {b o m c:Nat} {x:Value} {cs:List Value} (h:CV D w (.slice (some ⟨b,o,none⟩) m c) (x::cs)) (p:Option Addr) (hp:cs≠[]→p=some ⟨b,o+1,none⟩):CV D w (.slice p (m - 1) (c - 1)) cs:=by
 obtain⟨p',c',e,h1,h2,h3⟩:=h
 injection e with e1 e2 e3
 subst e1 e2 e3
 rw[List.length_cons] at h1 h2
 refine⟨p,c - 1,by rw[List.length_cons,Nat.add_sub_cancel],by omega,by omega,?_⟩
 by_cases hc:cs=[]
 · exact .inl hc
 · rw[hp hc]
   rcases h3 with h3|⟨b',o',e,h4,h5,h6⟩
   · cases h3
   · injection e with e
     injection e with e1 e2 _;subst e1 e2;refine .inr ⟨b,o+1,rfl,h4,h5,λj u hj=>?_⟩;have:=h6 (j+1) u (by simpa using hj)
     rwa [show o+(j+1)=o+1+j by omega] at this
theorem vag.vds {R:Nat→Prop} {w W W':World} {l:Loc} {L:bh} {j n K:Nat} {v:Value} {cs:List Value} (h:vag R w W l L j) (ho:W.ownsRow K 9 1 v n cs) (hn:0<n) (hg:W.grownBy W' v.ownBlock) (hR:∀b,v.ownBlock=some b→w.heap.size≤b∧¬R b):vag R w W' l L j:=by
 rcases ho.2 with⟨_,h0⟩|⟨g,cap,cur,rfl,_,hh,_⟩
 · omega
 · exact h.vfv hg (hR g rfl).2 (hR g rfl).1 hh (by decide)
theorem vck {l:List (List UInt8)} {m:Nat} (h:m<l.length):(l.take m++l.drop (m+1)).length+1=l.length:=by
 rw[List.length_append,List.length_take,List.length_drop]
 omega
theorem ve7 (W:World) (s:List UInt8) (hs:s.length≤maxLen):SS Any (W.alloc (.cells #[str s] 9)) (.slice (some ⟨W.heap.size,0,none⟩) 1 1) [s]:=by
 refine⟨_,1,rfl,nl _,by show 1≤maxLen;unfold maxLen;decide,λx hx=>by rw[List.mem_singleton.1 hx];exact hs,.inr ⟨_,0,rfl,trivial,by simp,λj h=>?_⟩⟩
 obtain rfl:j=0:=by simp at h;omega
 exact(af (heap_alloc_new W _) 0).trans rfl
set_option maxRecDepth 8000 in
theorem vbf (l : List vbj) (ns : List Int) (last : Int) (v v2 : Value) (w : World) (hv : vaw (fun b => b < w.heap.size) w v l) (rH : CV (fun b => b < w.heap.size) w v2 (vb2 ns)) (ht : gx w) (hm : fe w) (hp : 0 < w.heap.size) :
 Calls Tryz.prog 7 #[v,v2,.int .i64 last] w λe w'=>e=.returned (.bool true)∧Below w.heap.size w w':=by
 have MT:=hv
 have hn0:=rH
 obtain⟨p,c,rfl,-,-,-⟩:=hv
 obtain⟨p2,c2,rfl,-,-⟩:=rH.shape
 have vdg:=vcf l (.slice p l.length c) w MT
 generalize vfz:(vb2 ns).length=vhp at *
 replace vfz:=zh vfz
 go_enter Tryz.func7,Tryz.ntmps7
 go_upto_region 1 with fail
 go_cut [28] from 21 to 29 (λq wx=>∃b:Bool,q=.bool b∧Below w.heap.size w wx∧(b=false→((∀y∈l,vbk y)∧l.length≤30)∧vhp≤20))
 case first =>
  by_cases hN:20<vhp
  · have Pf:(20:Int)<(vhp:Int):=by omega
    go_wp2_with (go_at_call 11;refine vdg.mono ?_;clear vdg;rintro e w2 ⟨⟨q1,rfl,hq1⟩,bO⟩;replace hq1:=zh hq1)
    · go_meet
      exact⟨_,rfl,bO,λe=>by cases e⟩
    · go_meet
      exact⟨_,rfl,bO,λe=>by cases e⟩
  · have Pf:¬(20:Int)<(vhp:Int):=by omega
    go_wp2_with (go_at_call 11;refine vdg.mono ?_;clear vdg;rintro e w2 ⟨⟨q1,rfl,hq1⟩,bO⟩;replace hq1:=zh hq1)
    · go_meet
      exact⟨_,rfl,bO,λ_=>⟨hq1.out ‹_›,by omega⟩⟩
    · go_meet
      exact⟨_,rfl,bO,λe=>by cases e⟩
 case rest =>
  obtain⟨b,rfl,hbc,vga⟩:=hcut;have vfq:=ht.below hbc zr;have vaf:=hm.below hbc;cases b
  case true=>
   go_wp2_with (go_at_call 12;refine(s6 wc vfq vaf (by have:=hbc.size;omega)).mono ?_;rintro e w5 ⟨rfl,oo⟩);refine bodyPost_ret (v:=.bool true) (by simp[results,Tryz.results7,go_sem]) rfl ⟨rfl,hbc.trans (aa oo hbc.size)⟩
  case false =>
   obtain⟨⟨hok,ven⟩,hNs⟩:=vga rfl;clear vga
   rename World=>vin
   have HR:=vd9 l (.slice p l.length c) vin ((MT.agree λb hb _=>hbc.block b hb).mono λb hb=>by have:=hbc.size;omega) hok ven vfq vaf (by have:=hbc.size;omega);go_upto_region 4 with(go_at_call 13;refine HR.mono ?_;clear HR;rintro e w3 ⟨lo,rfl,NS⟩)
   replace NS:vag (λb=>vin.heap.size≤b) w w3 lo (ve9 l) 30:=NS.ve8 hbc ht hm hp
   have rA:w.heap.size≤vin.heap.size:=hbc.size;generalize hL:ve9 l=L at *;clear hL hok ven vfq vaf hbc vdg MT;have HS:=NS.IA;have hinv:=NS.inv;have hBm:((bZ L.units).map (vaj L.units)).length≤20:=by
    have:=hinv.vi2;unfold bZ;rw[List.length_map,iP,List.length_map];exact this
   obtain⟨vhd,vey⟩:∃vhd,(bZ L.units).map (vaj L.units)=vhd:=⟨_,rfl⟩
   rw[vey] at hBm;go_upto_region 8 with(first
    | (go_at_call 17;refine HU.mono ?_;clear HU;rintro e w5 ⟨⟨uv,rfl,vfe⟩,oo⟩;have vfc:=vfb.below oo;obtain⟨up,uc,rfl,N4,-⟩:=(show vau _ _ _ _ from vfe))
    | (go_at_call 24;refine HS.mono ?_;clear HS;rintro e w4 ⟨⟨sv,rfl,Hu⟩,hb4⟩;have vfb:=NS.below hb4;obtain⟨sp,sc,rfl,-⟩:=Hu.shape;have HU:=vch vfb;rw[vey] at HU))
   have Kn:=Hu.below oo zr;have hnm:∀u∈vhd,vd1 u.name u∧aq L.units u.name=some u:=λu hu=>by
    rw[←vey] at hu;obtain⟨n,hn,rfl⟩:=List.mem_map.1 hu;rw[vbo] at hn;obtain⟨v,hv⟩:=Option.isSome_iff_exists.1 hn;have hi:=hinv.units n v hv;unfold vaj;rw[hv]
    show vd1 v.name v∧aq L.units v.name=some v
    rw[hi.name];exact⟨hi,hv⟩
   replace hnm:=zh hnm
   clear NS vfb Hu hb4 oo rA vey N4;generalize vfa:vhd.length=NB at *
   replace vfa:=zh vfa
   go_loopw [43] (λy wx=>∃i:Nat,i≤NB∧y=.int .i64 i∧Below w5.heap.size w5 wx) (λy _=>NB - (intOf y).toNat)
   case atStart=>exact⟨0,Nat.zero_le _,by go_num,zb _⟩
   case round =>
    obtain⟨i,hi,rfl,gN⟩:=hrel
    by_cases hlt:i<NB
    case pos =>
     obtain⟨u,hu⟩:∃u,vhd[i]? =some u:=⟨_,List.getElem?_eq_getElem (by rw[vfa.out];exact hlt)⟩
     obtain⟨b,o,rfl,va,vc,vd,U1,xU⟩:=(vfe.below gN zr).at hu;obtain⟨wm,Fw,JJ,Qt⟩:u.le∧SS _ _ va u.uses∧CV _ _ vc (aH u.code)∧ck _ _ vd u.used:=⟨U1.le,U1.a,U1.c,U1.d⟩;clear U1;obtain⟨t1,t2,rfl,-⟩:=Fw.shape;obtain⟨t3,t4,rfl,-⟩:=JJ.shape;obtain⟨t5,t6,rfl,-,N4⟩:=Qt.shape;have c8:=vcg xU;obtain⟨vf3,CJ⟩:=hnm.out u (List.mem_of_getElem? hu);have hil:(i:Int)<(NB:Int):=by omega
     go_upto_region 10 with fail;generalize vbs:World.alloc _ _=W2;have bO:Below wr.heap.size wr W2:=by rw[←vbs];exact(zb wr).alloc zr _
     have Fu:W2.heap[wr.heap.size]? =some (.cells #[.string ⟨u.name.toArray⟩,.int .i64 (u.version:Int),.string ⟨u.source.toArray⟩,.string ⟨u.aO.toArray⟩,.slice t1 u.uses.length t2,.bool u.built,.slice t3 (aH u.code).length t4,.slice t5 u.used.length t6] 41 (0,0)):=by rw[←vbs];exact heap_alloc_new wr _
     clear vbs c8;have vcp:=gN.trans (aa bO gN.size);have c2:=(vax Fu).1;have HC:=vw _ u.name _ W2 (Kn.below vcp zr);have vcr:=Fw.below bO zr;have UZ:=Qt.below bO zr;generalize wr.heap.size=vhe at *;clear gN bO xU JJ wm Fw Qt
     by_cases hst:u.name∈lZ L.units
     · rw[vcj,decide_eq_true hst] at HC
       replace vf3:=trivial
       replace CJ:=trivial
       clear hst;go_wp2_with (go_at_call 18;refine HC.mono ?_;clear HC;rintro e CL ⟨rfl,L8⟩);exact⟨⟨i+1,hlt,by go_num,vcp.trans (aa L8 vcp.size)⟩,by simp only[intOf];omega⟩
     · rw [vcj, decide_eq_false hst] at HC
       obtain⟨f1,f2,f3⟩:=vd2 hinv CJ hst;have hlen:u.used.length=u.uses.length:=by rw[←f2,List.length_map]
       replace vf3:=zh vf3
       replace CJ:=trivial
       clear hst
       replace f2:=zh f2
       replace f3:=zh f3
       rw[f1,←hlen] at Fu;rw[←hlen] at vcr;rw[f1,←hlen] at c2;clear f1
       replace hlen:=zh hlen
       generalize vd0:u.used.length=vhs at *
       replace vd0:=zh vd0
       have vgn:vhs≤9223372036854775807:=by unfold maxLen at N4;exact N4
       replace N4:=trivial
       have vgz:((vhs:Int) != (vhs:Int))=false:=by simp
       go_upto_region 11 with(go_at_call 18;refine HC.mono ?_;clear HC;rintro e CL ⟨rfl,L8⟩);have vem:=ag Fu L8;have c10:=(vax vem).1;have vdp:=vcp.trans (aa L8 vcp.size);have vdq:=vcr.below L8 zr;have ves:=UZ.below L8 zr;clear c2 vcr UZ vcp L8;go_upto_region 14 with fail;go_loopw [66] (λy wx=>∃k:Nat,k≤vhs∧y=.int .i64 k∧Below CL.heap.size CL wx) (λy _=>vhs - (intOf y).toNat)
       case atStart=>exact⟨0,Nat.zero_le _,by go_num,zb _⟩
       case round =>
        obtain⟨k,hk,rfl,hby⟩:=hrel;have vdz:=vdp.trans (aa hby vdp.size)
        by_cases sA:k<vhs
        case neg=>
         have hnk:¬(k:Int)<(vhs:Int):=by omega
         go_wp2_with fail;exact⟨⟨i+1,hlt,by go_num,vdz⟩,by simp only[intOf];omega⟩
        case pos=>
         obtain⟨vio,vfu⟩:∃x,u.used[k]? =some x:=⟨_,List.getElem?_eq_getElem (by rw[vd0.out];exact sA)⟩
         obtain⟨b1,o1,rfl,_,d0,d1⟩:=(ves.below hby zr).at vfu;obtain⟨vim,yF,rH⟩:=f3.out k vio vfu;have vfs:u.uses[k]? =some vio.1:=by
          rw[←f2.out,List.getElem?_map,vfu]
          rfl
         obtain⟨bu,ou,rfl,_,du⟩:=(vdq.below hby zr).at vfs;have vgt:(k:Int)<(vhs:Int):=by omega
         have Gp:=(vf3.out.un vio.1 (List.mem_of_getElem? vfs)).1;go_upto_region 16 with fail;generalize rC:World.alloc _ _=W5;have vel:Below wr.heap.size wr W5:=by rw[←rC];exact(zb wr).alloc zr _
         have vfl:W5.heap[wr.heap.size]? =some (.cells #[.string ⟨vio.1.toArray⟩,.string ⟨vio.2.toArray⟩] 55 (0,0)):=by rw[←rC];exact heap_alloc_new wr _
         clear rC d0 d1;have vdy:=vdz.trans (aa vel vdz.size);have vfd:=vfc.below vdy;have HX:=vfd.vdd vio.1 (by have:=(vah Gp).2.1;unfold maxLen;omega);rw[show vat L.units vio.1=0 by unfold vat;rw[yF];rfl,show vaj L.units vio.1=vim by unfold vaj;rw[yF];rfl] at HX;have c5:=vdu vfl;have vge:=hby.trans (aa vel hby.size);generalize wr.heap.size=vhf at *;go_upto_region 17 with(go_at_call 27;refine HX.mono ?_;clear HX;rintro e w6 ⟨⟨xv,rfl,va,vc,vd,rfl,Vb,veu,vgd,Fz⟩,rE⟩;obtain⟨s1,s2,rfl,_⟩:=veu.shape;obtain⟨s3,s4,rfl,_⟩:=vgd.shape;obtain⟨vig,vih,rfl,_⟩:=Fz.shape);generalize PA:World.alloc _ _=W7;have vdk:Below w6.heap.size w6 W7:=by rw[←PA];exact(zb w6).alloc zr _
         have vgs:W7.heap[w6.heap.size]? =some (.cells #[.string ⟨vim.name.toArray⟩,.int .i64 (vim.version:Int),.string ⟨vim.source.toArray⟩,.string ⟨vio.2.toArray⟩,.slice s1 vim.uses.length s2,.bool vim.built,.slice s3 (aH vim.code).length s4,.slice vig vim.used.length vih] 41 (0,0)):=by rw[←PA];exact heap_alloc_new w6 _
         clear PA veu vgd Fz;have vdj:=rE.trans (aa vdk rE.size);have e1:=(vax vgs).1.2.2.2.1;have e2:=(vdu (ag vfl vdj)).2;have e3:=(vdu (ag vfl vdj)).1;have vf4:=vge.trans (aa vdj vge.size);have e4:=(vax (ag vem vf4)).1.2.2.2.2.1;have e5:=((vdq.below vf4 zr).at vfs);obtain⟨_,_,e6,_,e5⟩:=e5;injection e6 with e6;injection e6 with e6 e7;subst e6 e7;have vgq:=vdy.trans (aa vdj vdy.size);generalize w6.heap.size=vhg at *;clear c5 c10 du;refine gM (D:=Any) (w:=W7) 18 [(12,.eq (.pointer (some ⟨vhe,0,none⟩))),(13,.eq (.int .i64 k)),(14,.eq (.pointer (some ⟨vhf,0,none⟩))),(15,.eq (.pointer (some ⟨vhg,0,none⟩))),(16,.eq (.int .i64 0))] [(.eq (.int .i64 0)),(.eq (.bool false)),(.eq (.bool false)),(.eq (.pointer (some ⟨vhg,3,none⟩))),(.eq (str vio.2)),(.eq (.pointer (some ⟨vhf,1,none⟩))),(.eq (str vio.2)),(.eq (.bool false)),(.eq (.bool false)),(.eq (.bool false)),(.eq (.pointer (some ⟨vhf,0,none⟩))),(.eq (str vio.1)),(.eq (.pointer (some ⟨vhe,4,none⟩))),(.eq (.slice (some ⟨bu,ou,none⟩) vhs t2)),(.eq (.int .i64 k)),(.eq (.pointer (some ⟨bu,ou+k,none⟩))),(.eq (str vio.1)),(.eq (.bool false)),(.eq (.bool false))] (eD [(⟨vhg,3,none⟩,str vio.2),(⟨vhf,1,none⟩,str vio.2),(⟨vhf,0,none⟩,str vio.1),(⟨vhe,4,none⟩,.slice (some ⟨bu,ou,none⟩) vhs t2),(⟨bu,ou+k,none⟩,str vio.1)]) (by kernel_rfl) (by kernel_rfl) (by kernel_rfl) (by kernel_rfl) (by kernel_rfl) (λ_ _ h hb=>h.below hb) (λp hp=>by simp only[List.mem_cons,List.not_mem_nil,or_false] at hp;rcases hp with rfl|rfl|rfl|rfl|rfl<;>exact Below.keep (zb W7).drew (by assumption)) ?_ ?_ ?_
         · intro p hp
           simp only[List.mem_cons,List.not_mem_nil,or_false] at hp;rcases hp with rfl|rfl|rfl|rfl|rfl
           · exact rfl
           · exact rfl
           · exact rfl
           · exact rfl
           · exact rfl
         · iterate 19
            refine And.intro ?_ ?_
            · first
              | exact nS (by kernel_rfl) rfl
              | exact Oc (.inl rfl) (by kernel_rfl) rfl (by kernel_rfl)
              | exact Oc (.inr rfl) (by kernel_rfl) rfl (by kernel_rfl)
              | exact E1 rfl (by kernel_rfl) rfl rfl (by kernel_rfl)
              | exact Iz rfl (by kernel_rfl) rfl rfl rfl
              | exact td rfl (by kernel_rfl) (by kernel_rfl) rfl rfl
              | exact gQ rfl (by kernel_rfl) rfl rfl (λw=>by simp[go_sem])
              | exact iQ rfl (by kernel_rfl) rfl rfl rfl (λw=>by simp[go_sem,sA])
              | exact dV rfl (by kernel_rfl) rfl rfl (λw hS=>by simp[go_sem,(hS.get 0 rfl),(hS.get 1 rfl),(hS.get 2 rfl),(hS.get 3 rfl),(hS.get 4 rfl)])
              | exact gJ rfl (by kernel_rfl) rfl rfl rfl (λw=>by simp[go_sem])
           exact trivial
         · intro aE vE wE Pp Jp R5 _ U5
           obtain rfl:vE=.bool false:=U5 _ rfl;rw[R5];clear R5;simp only[List.take_succ_cons,List.take_zero,bD,pz,pw];go_wp2_with fail;exact⟨⟨k+1,sA,by go_num,vf4.trans (aa Jp vf4.size)⟩,by simp only[intOf];omega⟩
    case neg =>
     have hni:¬(i:Int)<(NB:Int):=by omega
     have veb:=vfc.below gN;have DA:=Kn.below gN zr;have vfn:=veb.names;have HM:=uR _ veb.read;clear vfc Kn vfe gN hnm;obtain⟨vho,hNM⟩:∃n,(sN L.units).length=n:=⟨_,rfl⟩
     obtain⟨vhq,vcn⟩:∃n,(lZ L.units).length=n:=⟨_,rfl⟩
     have veh:=vcx hinv;rw[hNM] at HM;rw[vcn] at veh;rw[vcn]
     by_cases hz:vho=0∧0<vhq
     case neg=>
      by_cases hM:vho=0
      · have yo:vhq=0:=by omega
        have g1:¬(0:Int)<(vho:Int):=by omega
        have g2:((vhq:Int)==0)=true:=by rw[yo];rfl
        replace hz:=trivial
        replace hM:=trivial
        replace yo:=trivial
        replace hNM:=trivial
        replace vcn:=trivial
        go_wp2_with (first
         | (go_at_call 12;refine(s6 w7 (ht.below vco.cV zr) (hm.below vco.cV) (by have:=vco.cV.size;omega)).mono ?_;rintro e w8 ⟨rfl,xQ⟩)
         | (go_at_call 15;refine HM.mono ?_;clear HM;rintro e w7 ⟨mv,rfl,hmo,vdk⟩;obtain⟨mp,mc,rfl⟩:=aJ hmo;have vco:=veb.below vdk))
        exact bodyPost_ret (v:=.bool true) (by simp[results,Tryz.results7,go_sem]) rfl ⟨rfl,(vco.below xQ).cV⟩
      · have g1:(0:Int)<(vho:Int):=by omega
        replace hz:=trivial
        replace hM:=trivial
        replace hNM:=trivial
        replace vcn:=trivial
        go_wp2_with (first
         | (go_at_call 12;refine(s6 w7 (ht.below vco.cV zr) (hm.below vco.cV) (by have:=vco.cV.size;omega)).mono ?_;rintro e w8 ⟨rfl,xQ⟩)
         | (go_at_call 15;refine HM.mono ?_;clear HM;rintro e w7 ⟨mv,rfl,hmo,vdk⟩;obtain⟨mp,mc,rfl⟩:=aJ hmo;have vco:=veb.below vdk))
        exact bodyPost_ret (v:=.bool true) (by simp[results,Tryz.results7,go_sem]) rfl ⟨rfl,(vco.below xQ).cV⟩
     case pos =>
      obtain⟨Ki,yo⟩:=hz;have g1:¬(0:Int)<(vho:Int):=by omega
      have g2:((vhq:Int)==0)=false:=by simp;omega
      have vd4:sN L.units=[]:=List.length_eq_zero_iff.1 (hNM.trans Ki);obtain⟨k,hk,hke⟩:=vda last vhq yo (by omega)
      replace Ki:=zh Ki
      replace hNM:=zh hNM
      replace vcn:=zh vcn
      replace vd4:=zh vd4
      go_upto_region 23 with(go_at_call 15;refine HM.mono ?_;clear HM;rintro e w7 ⟨mv,rfl,hmo,vdk⟩;obtain⟨mp,mc,rfl⟩:=aJ hmo;have vco:=veb.below vdk);go_upto_region 24 with fail;rw[hke];clear hke g1 g2;obtain⟨one,ho⟩:∃s,(lZ L.units)[k]? =some s:=⟨_,List.getElem?_eq_getElem (by rw[vcn.out];exact hk)⟩
      have DB:=DA.below vdk zr;obtain⟨vhw,oS,rfl,_,dk⟩:=DB.at ho;have sA:(k:Int)<(vhq:Int):=by omega
      have vh0:wrap64 ((k:Int)+1)=(k:Int)+1:=by unfold wrap64;omega
      have hfr:=vdf.start hinv vd4.out ho;have QX:=Dj _ (lZ L.units) w7 DB (by rw[vcn.out];omega);rw[vcn.out] at QX;have vf6:=λv W hv=>vbc v (lZ L.units) w7.heap.size k W hv (by rw[vcn.out];exact hk)
      rw[vcn.out] at vf6
      replace hfr:=zh hfr
      replace ho:=zh ho
      clear DA DB hmo;go_upto_region 25 with fail;go_upto_region 26 with(first
       | (go_at_call 34;refine HD.mono ?_;clear HD;rintro e w9 ⟨v9,rfl,vg7,UB,vg8⟩)
       | (go_at_call 19;refine QX.mono ?_;clear QX;rintro e w8 ⟨vil,rfl,vep,xQ⟩;obtain⟨vi6,c8,rfl⟩:=aJ vep;have HD:=vf6 _ _ vep))
      obtain⟨vhu,vg0,JC,-,-⟩:=vco.fenced xQ;have vez:∀b,(Value.slice vi6 vhq c8).ownBlock=some b→w.heap.size≤b∧¬vhu b:=λb hb=>by
       have h1:=vep.lt b hb;have h2:=vco.cV.size;exact⟨by omega,JC b h1.1 h1.2⟩
      have vg1:=vg0.vds vep yo UB vez;rw[←vg8] at vez
      replace hfr:=hfr.out
      have vgu:(((lZ L.units).take k++(lZ L.units).drop (k+1))).length+1=vhq:=(vck (by rw[vcn.out];exact hk)).trans vcn.out;generalize (lZ L.units).take k++(lZ L.units).drop (k+1)=T0 at *;generalize w7.heap.size=vhh at *;clear vf6 vep xQ UB vg8 vg0 vco veb vdk dk JC hinv;generalize Value.slice p2 vhp c2=ov0 at *;go_loopw [1,19] (λov vij wx=>∃(ms:List Int) (todo:List (List UInt8)) (L':bh) (j:Nat),CV (λb=>b<w.heap.size) w ov (vb2 ms)∧todo.length≤20∧j+todo.length≤50∧wx.ownsRow vhh 9 1 vij todo.length (aA todo)∧(∀b,vij.ownBlock=some b→w.heap.size≤b∧¬vhu b)∧vag vhu w wx lo L' j∧vdf L' todo one) (λ_ vij _=>GB vij)
      case atStart=>exact⟨ns,T0,L,30,hn0,by omega,by omega,vg7,vez,vg1,hfr⟩
      case round=>
       obtain⟨ms,todo,L',j,hcv,htl,hjt,hown,vfy,vd3,vf1⟩:=hrel;clear vg1 vg7 vez hfr;obtain⟨q,vi8,rfl⟩:=aJ hown;obtain⟨q1,vi9,rfl,_,_⟩:=hcv.shape;generalize vde:todo.length=vhr at *
       by_cases hz:0<vhr
       case neg=>
        have hz2:¬(0:Int)<(vhr:Int):=by omega
        have hz0:vhr=0:=by omega
        obtain rfl:todo=[]:=List.length_eq_zero_iff.1 (vde.trans hz0);subst hz0
        replace vde:=trivial
        obtain⟨e1,e2,e3⟩:=vf1.last vd3.inv;have hon:one∈lZ L'.units:=by rw[e1];simp
        have hol:one.length≤12:=(vd3.names one (List.mem_filter.1 hon).1).2;have vfx:=s6 wr (ht.below vd3.cV zr) (hm.below vd3.cV) (by have:=vd3.cV.size;omega)
        replace hz:=trivial
        replace hon:=trivial
        replace e3:=zh e3
        replace e2:=zh e2
        replace e1:=zh e1
        go_wp2_with (first
         | (go_at_call 24;refine vf7.mono ?_;clear vf7;rintro e w14 ⟨⟨vhc,rfl,vfp⟩,vfg⟩;obtain⟨vha,vh8,rfl,-⟩:=vfp.shape)
         | (go_at_call 22;refine HB.mono ?_;clear HB;rintro e w13 ⟨rfl,vej⟩;have vf7:=vej.IA;rw[e3.out] at vf7)
         | (go_at_call 29;refine(vce [one] [one] _ _ _ (veq.below ((zb Od).alloc zr _) zr) (ve7 Od one (by unfold maxLen;omega))).mono ?_;rintro e w12 ⟨rfl,L9⟩;have vdx:=(vdw.below ((zb Od).alloc zr _)).below L9;have HB:=vbl vdx (by omega) one [] (by omega) (.slice none 0 0) (CV.nil (λ_=>True) _ _ _) (by decide);rw[e2.out] at HB)
         | (go_at_call 24;refine vdg.mono ?_;clear vdg;rintro e Od ⟨⟨vhb,rfl,veq⟩,PE⟩;obtain⟨vh9,vh7,rfl,-⟩:=veq.shape;have vdw:=vei.below PE)
         | (go_at_call 12;refine vfx.mono ?_;clear vfx;rintro e CL ⟨rfl,L8⟩;have vei:=vd3.below L8;have vdg:=vei.IA;rw[e1.out] at vdg))
        exact bodyPost_ret (v:=.bool true) (by simp[results,Tryz.results7,go_sem]) rfl ⟨rfl,(vej.below vfg).cV⟩
       case pos =>
        have hz2:(0:Int)<(vhr:Int):=by omega
        replace vde:=zh vde
        go_upto_region 28 with fail;generalize RG:(vb2 ms).length=vf8 at *
        replace RG:=zh RG
        obtain⟨vib,vf2⟩:∃q,decide (0<vf8)=q:=⟨_,rfl⟩
        replace vf2:=zh vf2
        go_upto_if 131 with fail
        rw[vf2.out]
        go_cut [1,20] from 132 to 143 (λov y wx=>∃(m:Nat) (ms':List Int),m<vhr∧y=.int .i64 m∧CV (λb=>b<w.heap.size) w ov (vb2 ms')∧wx=wr)
        case first=>
         cases vib
         case false=>
          go_wp2_with fail
          go_meet
          exact⟨0,ms,hz,rfl,hcv,rfl⟩
         case true =>
          have g0:=of_decide_eq_true vf2.out;rcases ms with _|⟨m0,mr⟩
          · have h0:=RG.out
            simp[vb2] at h0;omega
          · obtain⟨m,CH,hme⟩:=vda m0 vhr hz (by omega)
            obtain⟨vhx,vi4,rfl,_,dq⟩:=(hcv.agree (w':=wr) λb hb _=>vd3.cV.block b hb).at (k:=0) (x:=.int .i64 m0) rfl;have g1:(0:Int)<(vf8:Int):=by omega
            have g2:(1:Int)≤(vf8:Int):=by omega
            have ve1:=hcv.tail (cs:=vb2 mr) (x:=.int .i64 m0);rw[Nat.add_zero] at dq
            by_cases hq1:vi9=1
            · subst hq1
              have hnil:vb2 mr=[]:=by
               obtain⟨_,cc,e,h2,_⟩:=hcv.shape;injection e with _ _ e3;rw[←e3] at h2;have h3:(vb2 mr).length+1≤1:=h2;exact List.length_eq_zero_iff.1 (by omega)
              go_wp2_with fail
              go_meet
              exact⟨m,mr,CH,by first|rfl|rw[hme],by rw[hnil];exact CV.nil _ _ _ _,rfl⟩
            · have KC:¬vi9 - 1=0:=by omega
              have UQ:1≤vi9:=by
               have h1:=hcv.shape;obtain⟨_,_,e,h2,_⟩:=h1;injection e with _ _ e3;rw[←e3] at h2;rw[RG.out] at h2;omega
              go_wp2_with fail
              go_meet
              exact⟨m,mr,CH,by first|rfl|rw[hme],ve1 _ (λ_=>rfl),rfl⟩
        case rest=>
         obtain⟨m,ms',CH,rfl,ve1,vet⟩:=hcut;subst vet;obtain⟨nm,hnm⟩:∃s,todo[m]? =some s:=⟨_,List.getElem?_eq_getElem (by rw[vde.out];exact CH)⟩
         have hst:=(vf1.st nm).2 (.inl (List.mem_of_getElem? hnm));have hnl:nm.length≤12:=(vd3.names nm (List.mem_filter.1 hst).1).2;have hall:∀s∈todo,s.length≤maxLen:=λs hs=>by
          have h1:=(vd3.names s (List.mem_filter.1 ((vf1.st s).2 (.inl hs))).1).2;unfold maxLen;omega
         have vgp:SS Any wc (.slice q vhr vi8) todo:=SS.eZ (by rw[vde.out];exact hown) hall λ_ _=>trivial
         obtain⟨vhy,vi5,rfl,_,dt⟩:=vgp.at hnm;obtain⟨hq1,xT⟩:=vf1.step vd3.inv hnm;have HB:=vbb vd3 (by omega) nm [] (by omega) (.slice none 0 0) (CV.nil (λ_=>True) _ _ _) (by decide);rw[hq1] at HB;have vgv:(m:Int)<(vhr:Int):=by omega
         have vh2:wrap64 ((m:Int)+1)=(m:Int)+1:=by unfold wrap64;omega
         have sB:(todo.take m++todo.drop (m+1)).length+1=vhr:=(vck (by rw[vde.out];exact CH)).trans vde.out
         replace hst:=trivial
         replace hall:=trivial
         replace hnm:=zh hnm
         replace xT:=zh xT
         replace sB:=zh sB
         go_upto_region 33 with(go_at_call 22;refine HB.mono ?_;clear HB;rintro e Od ⟨⟨rfl,vdw⟩,Lx⟩);have Mz:=Lx.own hown (by decide);have HD:=vbc _ todo vhh m Od (by rw[vde.out];exact Mz) (by rw[vde.out];exact CH);go_wp2_with (go_at_call 34;refine HD.mono ?_;clear HD;rintro e w12 ⟨v12,rfl,veo,vfj,vfo⟩);have vdx:=vdw.vds Mz hz vfj vfy;have vcq:GB v12=(todo.take m++todo.drop (m+1)).length:=by
          obtain⟨vh4,c12,rfl⟩:=aJ veo
          rfl
         exact⟨⟨ms',_,_,j+1,ve1,by have:=sB.out;omega,by have:=sB.out;omega,veo,by rw[vfo];exact vfy,vdx,xT.out⟩,by rw[vcq];have:=sB.out;show _<vhr;omega⟩
