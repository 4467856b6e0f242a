/-
  Lemmas: contract of the reference argusref04: Read. Conditions: bounds of lengths; the variable strings.asciiSpace.
-/
import Derived.Test.YtakgjcfkdemipaaGreatDoorZBn
import Derived.Test.YtakgjcfkdemipaaGreatDoorZT10
import Derived.Test.YtakgjcfkdemipaaGreatDoorZT12
set_option maxHeartbeats 25600000
namespace Go.Proofs.YtakgjcfkdemipaaGreatDoor
open Go Go.RowKit
def vh5:Value→Nat
 | .string b=>b.data.size
 | _=>0
set_option maxRecDepth 8000 in
theorem vfi (s : List UInt8) (w : World) (hs : s.length ≤ 100000) :
 Calls Tryz.prog 54 #[str s] w λe w'=>∃v,e=.returned (.tuple #[v,.int .i64 (vae vbe s).2])∧dO (λb=>w.heap.size≤b) w' v (vae vbe s).1∧Below w.heap.size w w':=by
 obtain⟨vl2,vex⟩:∃vl2,vbe s=vl2:=⟨_,rfl⟩
 obtain⟨RS,hRS⟩:∃RS,vae vbe s=RS:=⟨_,rfl⟩
 rw[hRS]
 unfold vae at hRS
 rw[vex] at hRS
 have hRS:=zh hRS
 unfold vbe vey at vex
 dsimp only at vex
 have n1:=va4 (p:=[10]) s
 have vkg:=λW=>vaa s [10] W (by omega) (by simp) (by simp)
 generalize va0 [10] s=H1 at *
 obtain⟨h1,h2,h3⟩:=H1
 dsimp only at n1 vkg vex
 have n2:=va4 (p:=[32]) h1
 have vkh:=λW=>vaa h1 [32] W (by omega) (by simp) (by simp)
 generalize va0 [32] h1=H2 at *
 obtain⟨a1,a2,a3⟩:=H2
 dsimp only at n2 vkh vex
 have n3:=va4 (p:=[91,116,93]) a2
 have vki:=λW=>vaa a2 [91,116,93] W (by omega) (by simp) (by simp)
 generalize va0 [91,116,93] a2=H3 at *
 obtain⟨b1,b2,b3⟩:=H3
 dsimp only at n3 vki vex
 obtain⟨kd,vg4⟩:∃kd,(if a1=[112,114,111,99] then 1 else if a1=[105,116,101,114] then 2 else 3)=kd:=⟨_,rfl⟩
 rw[vg4] at vex
 have vex:=zh vex
 have vg4:=zh vg4
 have nl:h2.length≤s.length:=by omega
 have DM:b1.length≤maxLen:=by unfold maxLen;omega
 clear n1 n2 n3
 have hA:=(zb w).alloc zr (.cells #[.string ⟨#[]⟩,.int .u8 0,.bool false,.slice none 0 0,.slice none 0 0] 58)
 have vez:=heap_alloc_new w (.cells #[.string ⟨#[]⟩,.int .u8 0,.bool false,.slice none 0 0,.slice none 0 0] 58)
 go_enter Tryz.func54,Tryz.ntmps54
 go_upto_region 2 with(go_at_call 114;refine(vkg _).mono ?_;clear vkg;rintro e w1 ⟨rfl,au⟩;have B1:=hA.trans (af au hA.size);have vlk:=ah vez au)
 go_upto_region 3 with(go_at_call 114;refine(vkh _).mono ?_;clear vkh;rintro e w2 ⟨rfl,aC⟩;have B2:=B1.trans (af aC B1.size);have vll:=ah vlk aC)
 go_upto_block 0 with fail
 have hE:=(zb w2).alloc zr (.cells #[.string ⟨#[]⟩,.int .u8 3,.bool false,.slice none 0 0,.slice none 0 0] 58)
 have R4:=heap_alloc_new w2 (.cells #[.string ⟨#[]⟩,.int .u8 3,.bool false,.slice none 0 0,.slice none 0 0] 58)
 have vlm:=ah vll hE
 have B3:=B2.trans (af hE B2.size)
 have vgr:=bA vll
 clear hE vlk B1 vll B2 au aC hA vez
 generalize hO:w2.heap.size=O at *
 generalize w2.alloc (.cells #[.string ⟨#[]⟩,.int .u8 3,.bool false,.slice none 0 0,.slice none 0 0] 58)=W3 at *
 clear hO
 go_cut [] from 32 to 38 (λwx=>wx.heap[O]? =some (.cells #[.string ⟨#[]⟩,.int .u8 kd,.bool false,.slice none 0 0,.slice none 0 0] 58)∧wx.heap[w.heap.size]? =some (.cells #[.string ⟨#[]⟩,.int .u8 0,.bool false,.slice none 0 0,.slice none 0 0] 58)∧Below w.heap.size w wx)
 case first =>
  have bx:=bz R4
  by_cases e1:a1=[112,114,111,99]
  · obtain rfl:kd=1:=by rw[←vg4.out,if_pos e1]
    subst e1;clear vg4;go_wp2_with fail
    go_meet
    exact⟨heap_setCell_same W3 O 1 _ _ _ R4,(heap_setCell_other _ ⟨O,1,none⟩ w.heap.size _ (by simp only;omega)).trans vlm,B3.setCell (p:=⟨O,1,none⟩) (Nat.le_of_lt vgr) _⟩
  · have hx1:(a1==[112,114,111,99])=false:=by simp[e1]
    by_cases e2:a1=[105,116,101,114]
    · obtain rfl:kd=2:=by rw[←vg4.out,if_neg e1,if_pos e2]
      subst e2;clear vg4;go_wp2_with fail
      go_meet
      exact⟨heap_setCell_same W3 O 1 _ _ _ R4,(heap_setCell_other _ ⟨O,1,none⟩ w.heap.size _ (by simp only;omega)).trans vlm,B3.setCell (p:=⟨O,1,none⟩) (Nat.le_of_lt vgr) _⟩
    · have hx2:(a1==[105,116,101,114])=false:=by simp[e2]
      obtain rfl:kd=3:=by rw[←vg4.out,if_neg e1,if_neg e2]
      clear vg4;go_wp2_with fail
      go_meet
      exact⟨R4,vlm,B3⟩
 case rest =>
  obtain⟨vhi,R',B'⟩:=hcut;clear R4 vlm B3 vg4;go_wp2_with (go_at_call 114;refine(vki _).mono ?_;clear vki;rintro e w4 ⟨rfl,hb4⟩;have B4:=B'.trans (af hb4 B'.size);have k4:=ah vhi hb4;have vln:=ah R' hb4;have O0:=bz k4);have k5:=heap_setCell_same _ _ 0 _ _ (.string ⟨b1.toArray⟩) k4;have k6:=heap_setCell_same _ _ 2 _ _ (.bool b3) k5;have vlp:=(heap_setCell_other (w4.setCell ⟨O,0,none⟩ (.string ⟨b1.toArray⟩)) ⟨O,2,none⟩ w.heap.size (.bool b3) (by simp only;omega)).trans ((heap_setCell_other w4 ⟨O,0,none⟩ w.heap.size (.string ⟨b1.toArray⟩) (by simp only;omega)).trans vln);have B6:=(B4.setCell (p:=⟨O,0,none⟩) (Nat.le_of_lt vgr) (.string ⟨b1.toArray⟩)).setCell (p:=⟨O,2,none⟩) (Nat.le_of_lt vgr) (.bool b3);clear vhi R' B' B4 k4 vln O0 k5 hb4;generalize (w4.setCell ⟨O,0,none⟩ (.string ⟨b1.toArray⟩)).setCell ⟨O,2,none⟩ (.bool b3)=W5 at *
  replace k6:W5.heap[O]? =some (.cells #[.string ⟨b1.toArray⟩,.int .u8 kd,.bool b3,.slice none 0 0,.slice none 0 0] 58):=k6
  have vh9:=bA k6;go_loopw [5] (λa wx=>∃(rest:List UInt8) (n:Nat) (N M:List aL) (nv ov:Value),a=str rest∧rest.length≤s.length∧Hid (vbc n rest ⟨b1,kd,b3,N,M⟩=vl2)∧n+N.length+M.length=30∧Below O W5 wx∧wx.heap[O]? =some (.cells #[.string ⟨b1.toArray⟩,.int .u8 kd,.bool b3,nv,ov] 58)∧va5 79 50 W5.heap.size wx nv ov N M) (λa _=>vh5 a)
  case atStart=>exact⟨h2,30,[],[],_,_,rfl,nl,vex,rfl,zb _,k6,va5.nil _ _ _ _⟩
  case round =>
   obtain⟨rest,n,N,M,nv,ov,rfl,hrl,hF,hn,hb,hO,vfd⟩:=hrel;obtain⟨pn,cn,po,co,rfl,rfl⟩:=vfd.shape;have bO:=bz hO
   by_cases he:rest=[]
   case pos=>
    subst he;have vie:vl2=⟨b1,kd,b3,N,M⟩:=by rw[←hF.out];cases n<;>simp[vbc]
    go_upto_region 17 with fail;have veh:=vfd.x9;have hV:dO (λb=>W5.heap.size≤b) wr (.agg #[.string ⟨b1.toArray⟩,.int .u8 kd,.bool b3,.slice pn N.length cn,.slice po M.length co]) ⟨b1,kd,b3,N,M⟩:=⟨_,_,rfl,DM,veh.1,veh.2⟩;have vhg:=(hb.block _ vgr).trans vlp;have T7:=B6.trans (af hb (Nat.le_of_lt vgr));subst vie;clear hF vfd;go_upto_region 18 with(go_at_call 52;refine(vbv _ _ _ hV).mono ?_;rintro e w9 ⟨rfl,Me⟩);have B9:=T7.trans (af Me T7.size);have vm5:=bz (ah vhg Me);have c9:=bz (ah hO Me);have m9:=veh.1.below Me zr;have m10:=veh.2.below Me zr;clear Me T7 vhg veh hV hO bO hb B6 vlp;generalize su ⟨b1,kd,b3,N,M⟩=WK at *;obtain⟨wt,vmo⟩:=WK
    by_cases hw:vmo=0
    case pos=>
     subst hw
     by_cases SL:wt=s
     case pos=>
      subst SL;go_wp2_with fail;refine bodyPost_ret (v:=.tuple #[.agg #[.string ⟨b1.toArray⟩,.int .u8 kd,.bool b3,.slice pn N.length cn,.slice po M.length co],.int .i64 0]) (by simp[results,Tryz.results54,go_sem,vm5.1]) rfl ?_;rw[←hRS.out,if_pos (by simp)];refine⟨_,rfl,⟨_,_,rfl,DM,?_,?_⟩,Below.va9 B9 (b:=w.heap.size) zr _ _ _ _ _⟩
      · exact(aY.va9 m9 (b:=w.heap.size) (λb hb=>by omega) _ _ _ _ _).mono λb hb=>by omega
      · exact(aY.va9 m10 (b:=w.heap.size) (λb hb=>by omega) _ _ _ _ _).mono λb hb=>by omega
     case neg=>
      have hq:(wt==s)=false:=by simp[SL]
      go_wp2_with fail;refine bodyPost_ret (v:=.tuple #[.agg #[.string ⟨#[]⟩,.int .u8 0,.bool false,.slice none 0 0,.slice none 0 0],.int .i64 4]) (by simp[results,Tryz.results54,go_sem,vm5.1]) rfl ?_;rw[←hRS.out,if_neg (λh=>SL h.2)];exact⟨_,rfl,⟨_,_,rfl,Nat.zero_le _,aY.nil _ _ _ _,aY.nil _ _ _ _⟩,Below.va9 B9 (b:=w.heap.size) zr _ _ _ _ _⟩
    case neg=>
     have hq:((vmo:Int)==0)=false:=by simp;omega
     go_wp2_with fail;refine bodyPost_ret (v:=.tuple #[.agg #[.string ⟨#[]⟩,.int .u8 0,.bool false,.slice none 0 0,.slice none 0 0],.int .i64 4]) (by simp[results,Tryz.results54,go_sem,vm5.1]) rfl ?_;rw[←hRS.out,if_neg (λh=>hw h.1)];exact⟨_,rfl,⟨_,_,rfl,Nat.zero_le _,aY.nil _ _ _ _,aY.nil _ _ _ _⟩,Below.va9 B9 (b:=w.heap.size) zr _ _ _ _ _⟩
   case neg =>
    have hem:rest.isEmpty=false:=by cases rest<;>simp at he ⊢
    by_cases h0:n=0
    case pos=>
     subst h0;have Rl:¬(N.length:Int)+(M.length:Int)<30:=by omega
     have vie:vl2=⟨b1,kd,b3,N,M⟩:=hF.out.symm;go_upto_region 17 with fail;have veh:=vfd.x9;have hV:dO (λb=>W5.heap.size≤b) wr (.agg #[.string ⟨b1.toArray⟩,.int .u8 kd,.bool b3,.slice pn N.length cn,.slice po M.length co]) ⟨b1,kd,b3,N,M⟩:=⟨_,_,rfl,DM,veh.1,veh.2⟩;have vhg:=(hb.block _ vgr).trans vlp;have T7:=B6.trans (af hb (Nat.le_of_lt vgr));subst vie;clear hF vfd;go_upto_region 18 with(go_at_call 52;refine(vbv _ _ _ hV).mono ?_;rintro e w9 ⟨rfl,Me⟩);have B9:=T7.trans (af Me T7.size);have vm5:=bz (ah vhg Me);have c9:=bz (ah hO Me);have m9:=veh.1.below Me zr;have m10:=veh.2.below Me zr;clear Me T7 vhg veh hV hO bO hb B6 vlp;generalize su ⟨b1,kd,b3,N,M⟩=WK at *;obtain⟨wt,vmo⟩:=WK
     by_cases hw:vmo=0
     case pos=>
      subst hw
      by_cases SL:wt=s
      case pos=>
       subst SL;go_wp2_with fail;refine bodyPost_ret (v:=.tuple #[.agg #[.string ⟨b1.toArray⟩,.int .u8 kd,.bool b3,.slice pn N.length cn,.slice po M.length co],.int .i64 0]) (by simp[results,Tryz.results54,go_sem,vm5.1]) rfl ?_;rw[←hRS.out,if_pos (by simp)];refine⟨_,rfl,⟨_,_,rfl,DM,?_,?_⟩,Below.va9 B9 (b:=w.heap.size) zr _ _ _ _ _⟩
       · exact(aY.va9 m9 (b:=w.heap.size) (λb hb=>by omega) _ _ _ _ _).mono λb hb=>by omega
       · exact(aY.va9 m10 (b:=w.heap.size) (λb hb=>by omega) _ _ _ _ _).mono λb hb=>by omega
      case neg=>
       have hq:(wt==s)=false:=by simp[SL]
       go_wp2_with fail;refine bodyPost_ret (v:=.tuple #[.agg #[.string ⟨#[]⟩,.int .u8 0,.bool false,.slice none 0 0,.slice none 0 0],.int .i64 4]) (by simp[results,Tryz.results54,go_sem,vm5.1]) rfl ?_;rw[←hRS.out,if_neg (λh=>SL h.2)];exact⟨_,rfl,⟨_,_,rfl,Nat.zero_le _,aY.nil _ _ _ _,aY.nil _ _ _ _⟩,Below.va9 B9 (b:=w.heap.size) zr _ _ _ _ _⟩
     case neg=>
      have hq:((vmo:Int)==0)=false:=by simp;omega
      go_wp2_with fail;refine bodyPost_ret (v:=.tuple #[.agg #[.string ⟨#[]⟩,.int .u8 0,.bool false,.slice none 0 0,.slice none 0 0],.int .i64 4]) (by simp[results,Tryz.results54,go_sem,vm5.1]) rfl ?_;rw[←hRS.out,if_neg (λh=>hw h.1)];exact⟨_,rfl,⟨_,_,rfl,Nat.zero_le _,aY.nil _ _ _ _,aY.nil _ _ _ _⟩,Below.va9 B9 (b:=w.heap.size) zr _ _ _ _ _⟩
    case neg =>
     have Rl:(N.length:Int)+(M.length:Int)<30:=by omega
     go_upto_region 11 with fail;obtain⟨n,rfl⟩:∃m,n=m+1:=⟨n - 1,by omega⟩
     have vdo:=hF.out;rw[vbc,if_neg he] at vdo;unfold vbq aA.vf8 aA.vf9 at vdo;dsimp only at vdo;have c1:=va4 (p:=[10]) rest;have lt:=vd6 (p:=[10]) (by simp) rest he;have D1:=λW=>vaa rest [10] W (by omega) (by simp) (by simp)
     generalize va0 [10] rest=vl3 at *;obtain⟨g1,r1,g3⟩:=vl3;dsimp only at c1 lt D1 vdo;have c2:=va4 (p:=[32]) g1;have vkq:=λW=>vaa g1 [32] W (by omega) (by simp) (by simp)
     generalize va0 [32] g1=vl4 at *;obtain⟨x1,x2,x3⟩:=vl4;dsimp only at c2 vkq vdo;have c3:=va4 (p:=[32]) x2;have vkr:=λW=>vaa x2 [32] W (by omega) (by simp) (by simp)
     generalize va0 [32] x2=vl5 at *;obtain⟨y1,y2,y3⟩:=vl5;dsimp only at c3 vkr vdo;have vks:=λW=>vdi y2 W (by omega)
     generalize ve9 y2=vm1 at *;have Mh:y1.length≤maxLen:=by unfold maxLen;omega
     have vjk:r1.length≤s.length:=by omega
     have vdo:=zh vdo;clear hF hem c1 c2 c3 hrl;go_upto_region 12 with(go_at_call 114;refine(D1 _).mono ?_;clear D1;rintro e Mp ⟨rfl,e1⟩);go_upto_region 13 with(go_at_call 114;refine(vkq _).mono ?_;clear vkq;rintro e w12 ⟨rfl,e2⟩);go_upto_region 14 with(go_at_call 114;refine(vkr _).mono ?_;clear vkr;rintro e w13 ⟨rfl,e3⟩);have E3:=(e1.trans (af e2 e1.size)).trans (af e3 (Nat.le_trans e1.size e2.size));have vhf:=ah hO E3;have vg9:=vfd.below E3 zr;have vdn:=Nat.le_trans hb.size E3.size;have hOr:=bA hO;have viw:=hb.trans (af E3 (Nat.le_of_lt hOr));clear e1 e2 e3 E3 hO vfd hb bO hOr vlp B6 k6 Rl he
     by_cases hx:x1=[104,97,115]
     case pos=>
      subst hx;have vdo:=zh vdo.out;rw[if_pos rfl] at vdo;go_upto_region 15 with fail;refine vbg (D:=λb=>w13.heap.size≤b) (w:=w13) (O:=O) (f:=3) 7 [(10,vP O 0),(14,vT y1),(15,vT y2)] [vP O 3,.eq (.slice pn N.length cn),vT y1,vT y2,.sig vm1,.op ⟨y1,vm1⟩,.prop λw v=>vbx 79 (λb=>w13.heap.size≤b) w13.heap.size w v [⟨y1,vm1⟩]] (λw'=>w'.heap[O]? =some (.cells #[.string ⟨b1.toArray⟩,.int .u8 kd,.bool b3,.slice pn N.length cn,.slice po M.length co] 58)∧va5 79 50 W5.heap.size w' (.slice pn N.length cn) (.slice po M.length co) N M∧Below w13.heap.size w13 w') (λv w'=>va5 79 50 W5.heap.size w' v (.slice po M.length co) (N++[⟨y1,vm1⟩]) M) (λw'=>w'.heap[O]? =some (.cells #[.string ⟨b1.toArray⟩,.int .u8 kd,.bool b3,.slice pn N.length cn,.slice po M.length co] 58)∧Below W5.heap.size w13 w') (λw'=>∃u,w'.heap[O]? =some (.cells #[.string ⟨b1.toArray⟩,.int .u8 kd,.bool b3,u,.slice po M.length co] 58)∧va5 79 50 W5.heap.size w' u (.slice po M.length co) (N++[⟨y1,vm1⟩]) M∧Below O w13 w') (by kernel_rfl) rfl rfl rfl rfl rfl rfl ⟨?_,?_⟩
       (λw1 w2 h hb=>⟨ah h.1 hb,h.2.1.below hb zr,h.2.2.trans (af hb h.2.2.size)⟩) (λv w1 w2 h hb=>h.below hb zr) (λw1 w2 h hb=>⟨ah h.1 hb,h.2.trans (af hb (Nat.le_trans vdn h.2.size))⟩)
       ⟨ah vhf (zb w13).drew,vg9.below (zb w13).drew zr,(zb w13).drew⟩ ⟨rfl,rfl,rfl,trivial⟩ ?_ ?_ (λv w h=>by obtain⟨p,c,q,d,e1,e2⟩:=h.shape;exact⟨p,_,c,e1⟩) (λw h=>⟨_,(bz h.1).1.2.2.2.1,rfl,az h.1 3⟩) (λv w h1 h2=>⟨v,vf4 h2.1 _,h1.set (a:=⟨O,3,none⟩) vh9 _,(af h2.2 (Nat.le_of_lt vh9)).setCell (p:=⟨O,3,none⟩) zr _⟩) ?_
      · intro a wx hout Q next hn
        have e:=aR (x:=.pointer (some ⟨O,0,none⟩)) (hout 10 (rI (by kernel_rfl)));unfold Oper.wp;simp only[execOp];simp[go_sem,e];exact hn
      · intro a wx p n c u e1 e2 e3 e4 e5 Q next hn
        have e1:=aR e1;have e2:=aR e2;unfold Oper.wp;simp only[execOp];simp[go_sem,e1,e2,e3,e5];exact hn
      · iterate 7
         refine And.intro ?_ ?_
         · first
           | exact oe rfl rfl (by kernel_rfl)
           | exact gN rfl (by kernel_rfl) rfl rfl (λw=>by simp[go_sem])
           | exact gv rfl (by kernel_rfl) rfl rfl (λw hS=>by have c1:=bz hS.1;simp[go_sem,c1])
           | exact er (s1:=vT y2) rfl (enters_of Tryz.func115 (by kernel_rfl) rfl) (by kernel_rfl) rfl rfl (λv wx hS h1=>by rw[show v=_ from h1];exact(vks wx).mono (by rintro e w3 ⟨u,rfl,hu,aH⟩;exact⟨_,rfl,hu.mono λb hb=>Nat.le_trans hS.2.2.size hb,aH⟩))
           | exact vdl rfl (.inr rfl) (by kernel_rfl) rfl rfl rfl Mh
           | exact vdm rfl (.inr ⟨rfl,rfl⟩) (by kernel_rfl) rfl rfl (λw hS=>hS.2.2.size)
        exact trivial
      · intro a wx hS hV next hn
        have eL:a.eval (.tmp 80)=.slice pn N.length cn:=hV 1 _ 80 (by decide) rfl rfl;have hR:vbx 79 (λb=>w13.heap.size≤b) w13.heap.size wx (a.eval (.tmp 85)) [⟨y1,vm1⟩]:=hV 6 _ 85 (by decide) rfl rfl wx (zb _);exact vag vd9 (by decide) (.tmp 80) (.tmp 85) rfl eL rfl hS.2.1 hR (by simp) (λb hb=>vg9.apart vdn hb) (by simp;omega) (Nat.le_trans vdn hS.2.2.size) (by decide) (λv' w' h1 h2 _ _=>hn v' w' h1 ⟨(h2.block O vh9).trans hS.1,(af hS.2.2 vdn).trans h2⟩)
      · intro a wx hS
        obtain⟨u,hg',hr',hb'⟩:=hS;simp only[pq,pz,pw];go_wp2_with fail;exact⟨⟨r1,n,(N++[⟨y1,vm1⟩]),M,_,_,rfl,by omega,vdo,by simp only[List.length_append,List.length_singleton];omega,viw.trans hb',hg',hr'⟩,by simpa[vh5] using lt⟩
     case neg=>
      have hx2:(x1==[104,97,115])=false:=by simp[hx]
      rw[if_neg hx] at vdo;go_upto_region 16 with fail;refine vbg (D:=λb=>w13.heap.size≤b) (w:=w13) (O:=O) (f:=4) 7 [(10,vP O 0),(14,vT y1),(15,vT y2)] [vP O 4,.eq (.slice po M.length co),vT y1,vT y2,.sig vm1,.op ⟨y1,vm1⟩,.prop λw v=>vbx 50 (λb=>w13.heap.size≤b) w13.heap.size w v [⟨y1,vm1⟩]] (λw'=>w'.heap[O]? =some (.cells #[.string ⟨b1.toArray⟩,.int .u8 kd,.bool b3,.slice pn N.length cn,.slice po M.length co] 58)∧va5 79 50 W5.heap.size w' (.slice pn N.length cn) (.slice po M.length co) N M∧Below w13.heap.size w13 w') (λv w'=>va5 79 50 W5.heap.size w' (.slice pn N.length cn) v N (M++[⟨y1,vm1⟩])) (λw'=>w'.heap[O]? =some (.cells #[.string ⟨b1.toArray⟩,.int .u8 kd,.bool b3,.slice pn N.length cn,.slice po M.length co] 58)∧Below W5.heap.size w13 w') (λw'=>∃u,w'.heap[O]? =some (.cells #[.string ⟨b1.toArray⟩,.int .u8 kd,.bool b3,.slice pn N.length cn,u] 58)∧va5 79 50 W5.heap.size w' (.slice pn N.length cn) u N (M++[⟨y1,vm1⟩])∧Below O w13 w') (by kernel_rfl) rfl rfl rfl rfl rfl rfl ⟨?_,?_⟩
       (λw1 w2 h hb=>⟨ah h.1 hb,h.2.1.below hb zr,h.2.2.trans (af hb h.2.2.size)⟩) (λv w1 w2 h hb=>h.below hb zr) (λw1 w2 h hb=>⟨ah h.1 hb,h.2.trans (af hb (Nat.le_trans vdn h.2.size))⟩)
       ⟨ah vhf (zb w13).drew,vg9.below (zb w13).drew zr,(zb w13).drew⟩ ⟨rfl,rfl,rfl,trivial⟩ ?_ ?_ (λv w h=>by obtain⟨p,c,q,d,e1,e2⟩:=h.shape;exact⟨q,_,d,e2⟩) (λw h=>⟨_,(bz h.1).1.2.2.2.2,rfl,az h.1 4⟩) (λv w h1 h2=>⟨v,vf5 h2.1 _,h1.set (a:=⟨O,4,none⟩) vh9 _,(af h2.2 (Nat.le_of_lt vh9)).setCell (p:=⟨O,4,none⟩) zr _⟩) ?_
      · intro a wx hout Q next hn
        have e:=aR (x:=.pointer (some ⟨O,0,none⟩)) (hout 10 (rI (by kernel_rfl)));unfold Oper.wp;simp only[execOp];simp[go_sem,e];exact hn
      · intro a wx p n c u e1 e2 e3 e4 e5 Q next hn
        have e1:=aR e1;have e2:=aR e2;unfold Oper.wp;simp only[execOp];simp[go_sem,e1,e2,e3,e5];exact hn
      · iterate 7
         refine And.intro ?_ ?_
         · first
           | exact oe rfl rfl (by kernel_rfl)
           | exact gN rfl (by kernel_rfl) rfl rfl (λw=>by simp[go_sem])
           | exact gv rfl (by kernel_rfl) rfl rfl (λw hS=>by have c1:=bz hS.1;simp[go_sem,c1])
           | exact er (s1:=vT y2) rfl (enters_of Tryz.func115 (by kernel_rfl) rfl) (by kernel_rfl) rfl rfl (λv wx hS h1=>by rw[show v=_ from h1];exact(vks wx).mono (by rintro e w3 ⟨u,rfl,hu,aH⟩;exact⟨_,rfl,hu.mono λb hb=>Nat.le_trans hS.2.2.size hb,aH⟩))
           | exact vdl rfl (.inl rfl) (by kernel_rfl) rfl rfl rfl Mh
           | exact vdm rfl (.inl ⟨rfl,rfl⟩) (by kernel_rfl) rfl rfl (λw hS=>hS.2.2.size)
        exact trivial
      · intro a wx hS hV next hn
        have eL:a.eval (.tmp 89)=.slice po M.length co:=hV 1 _ 89 (by decide) rfl rfl;have hR:vbx 50 (λb=>w13.heap.size≤b) w13.heap.size wx (a.eval (.tmp 94)) [⟨y1,vm1⟩]:=hV 6 _ 94 (by decide) rfl rfl wx (zb _);exact vag vf3 (by decide) (.tmp 89) (.tmp 94) rfl eL rfl hS.2.1.swap hR (by simp) (λb hb=>vg9.swap.apart vdn hb) (by simp;omega) (Nat.le_trans vdn hS.2.2.size) (by decide) (λv' w' h1 h2 _ _=>hn v' w' h1.swap ⟨(h2.block O vh9).trans hS.1,(af hS.2.2 vdn).trans h2⟩)
      · intro a wx hS
        obtain⟨u,hg',hr',hb'⟩:=hS;simp only[pq,pz,pw];go_wp2_with fail;exact⟨⟨r1,n,N,(M++[⟨y1,vm1⟩]),_,_,rfl,by omega,vdo,by simp only[List.length_append,List.length_singleton];omega,viw.trans hb',hg',hr'⟩,by simpa[vh5] using lt⟩
