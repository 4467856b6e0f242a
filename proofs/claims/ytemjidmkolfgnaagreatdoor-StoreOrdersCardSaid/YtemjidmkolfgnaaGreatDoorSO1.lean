/-
  Lemmas: contract of arguslaw19: build. Conditions: bounds of lengths; the variable strings.asciiSpace.
-/
import Derived.Test.YtemjidmkolfgnaaGreatDoorSBn
import Derived.Test.YtemjidmkolfgnaaGreatDoorSO0
set_option maxHeartbeats 25600000
set_option maxRecDepth 8000
namespace Go.Proofs.YtemjidmkolfgnaaGreatDoor
section
open Go Go.RowKit
def vay (L:bh) (name code:List UInt8):Bool:=match aq L.units name with
 | none=>false
 | some u=>u.uses.all (λn=>(aq L.units n).isSome)&&decide (code.length≤3000)
def vaw (L:bh) (name code:List UInt8):bh:=if vay L name code=true then ez L name code else L
theorem vch {L:bh} {name code:List UInt8} {u:az} (hu:aq L.units name=some u) (hall:∀n∈u.uses,(aq L.units n).isSome=true):iu L name (u.version:Int) code (cM L u)=if code.length≤3000 then 0 else 2:=by
 unfold iu
 rw[hu]
 dsimp only
 rw[if_neg (by simp)]
 by_cases hc:code.length≤3000
 · rw[if_neg (by simp[hc]),if_pos hc,if_neg,if_neg]
   · rw[Bool.not_eq_false,List.all_eq_true]
     intro x hx;unfold cM at hx;obtain⟨n,hn,rfl⟩:=List.mem_map.1 hx;obtain⟨v,hv⟩:=Option.isSome_iff_exists.1 (hall n hn);unfold lK;dsimp only;rw[hv];simp
   · unfold cM
     simp[List.map_map,Function.comp_def]
 · rw[if_pos (by simp[hc]),if_neg hc]
theorem vdv {L:bh} {u:az} {i:Nat} {x:List UInt8} (h:u.uses[i]? =some x):(cM L u).take i++[(x,(van L.units x).aO)]=(cM L u).take (i+1):=by
 rw[List.take_add_one]
 unfold cM
 rw[List.getElem?_map,h]
 rfl
theorem vcg {D R : Nat → Prop} {w W : World} {l : Loc} {L : bh} {j : Nat} (h : vai R w W l L j) (hj : j ≤ 60) (name code : List UInt8) (hn : name.length ≤ 40) (cv : Value) (hc : CV D W cv (aH code)) (hcl : code.length ≤ 3010) :
 Calls Tryz.prog 22 #[.pointer (some ⟨l.sb,0,none⟩),str name,cv] W λe W'=>(e=.returned (.bool (vay L name code))∧vai R w W' l (vaw L name code) (j+1))∧dI W W':=by
 have HU:=h.unit name (by unfold maxLen;omega)
 obtain⟨pc,cc,rfl,_⟩:=hc.shape
 rcases hq:aq L.units name with _|u
 · have hQ:vay L name code=false:=by unfold vay;rw[hq]
   have hE:vav L.units name=5:=by unfold vav;rw[hq];rfl
   have hB:vaw L name code=L:=by unfold vaw;rw[hQ];rfl
   rw[hQ,hB];rw[hE] at HU;clear hq hE hQ hB;go_enter Tryz.func22,Tryz.ntmps22;go_upto_region 2 with(go_at_call 27;refine HU.mono ?_;clear HU;rintro e w1 ⟨⟨uv,rfl,va,vc,vd,rfl,wm,Fw,JJ,Qt⟩,aP⟩;obtain⟨q1,q2,rfl,_⟩:=Fw.shape;obtain⟨q3,q4,rfl,_⟩:=JJ.shape;obtain⟨q5,q6,rfl,_⟩:=Qt.shape);generalize vby:World.alloc _ _=W2;have bO:Below w1.heap.size w1 W2:=by rw[←vby];exact(zb w1).alloc zr _
   clear vby;have hF:=((h.below aP).below bO).mono (Nat.le_succ j);have vge:=dI.ai (aP.trans (aa bO aP.size)) zr;clear hc h;go_wp2_with fail;go_ret;exact⟨⟨rfl,hF⟩,vge⟩
 · have hE : vav L.units name = 0 := by unfold vav; rw [hq]; rfl
   have hK:van L.units name=u:=by unfold van;rw[hq];rfl
   rw[hE,hK] at HU;have hQ:vay L name code=(u.uses.all (λn=>(aq L.units n).isSome)&&decide (code.length≤3000)):=by unfold vay;rw[hq]
   have hi:=h.inv.units name u hq;clear hE hK;go_enter Tryz.func22,Tryz.ntmps22;go_upto_region 2 with(go_at_call 27;refine HU.mono ?_;clear HU;rintro e w1 ⟨⟨uv,rfl,va,vc,vd,rfl,wm,Fw,JJ,Qt⟩,aP⟩;obtain⟨q1,q2,rfl,_⟩:=Fw.shape;obtain⟨q3,q4,rfl,_⟩:=JJ.shape;obtain⟨q5,q6,rfl,_⟩:=Qt.shape);generalize vby:World.alloc _ _=W2;have bO:Below w1.heap.size w1 W2:=by rw[←vby];exact(zb w1).alloc zr _
   have Fu:W2.heap[w1.heap.size]? =some (.cells #[.string ⟨u.name.toArray⟩,.int .i64 (u.version:Int),.string ⟨u.source.toArray⟩,.string ⟨u.aO.toArray⟩,.slice q1 u.uses.length q2,.bool u.built,.slice q3 (aH u.code).length q4,.slice q5 u.used.length q6] 41 (0,0)):=by rw[←vby];exact heap_alloc_new w1 _
   clear vby;have h2:=(h.below aP).below bO;have vf1:=aP.trans (aa bO aP.size);have vg4:=Fw.below bO zr;have yp:=hc.below vf1 zr;have vh6:=aj Fu;have b2:=(vax Fu).1;have Ws:=hi.nu;generalize vd3:u.uses.length=vjy at *
   replace vd3:=zh vd3
   clear aP Fw JJ Qt hc h
   replace hQ:=zh hQ
   replace vd3:=vd3
   generalize w1.heap.size=t7 at *;go_upto_region 6 with fail;clear b2;go_loopw [9,25] (λuv y wx=>∃i:Nat,i≤vjy∧y=.int .i64 i∧wx.ownsRow W2.heap.size 55 2 uv i (l9 ((cM L u).take i))∧Below W2.heap.size W2 wx∧∀k x,k<i→u.uses[k]? =some x→(aq L.units x).isSome=true) (λ_ y _=>vjy - (intOf y).toNat)
   case atStart=>exact⟨0,Nat.zero_le _,by go_num,World.ownsRow_nil _ _ _ _,zb _,λk x h=>absurd h (Nat.not_lt_zero _)⟩
   case round =>
    obtain⟨i,hi1,rfl,hown,gN,hex⟩:=hrel;obtain⟨qv,vkq,rfl⟩:=aJ hown
    by_cases hlt:i<vjy
    case pos=>
     obtain⟨x,hx⟩:∃x,u.uses[i]? =some x:=⟨_,List.getElem?_eq_getElem (by rw[vd3.out];exact hlt)⟩
     obtain⟨pb,po,rfl,_,d0⟩:=(vg4.below gN zr).at hx;have Gp:=(hi.un x (List.mem_of_getElem? hx)).1;have h3:=h2.below gN;have HX:=h3.unit x (by have:=(vaj Gp).2.1;unfold maxLen;omega);have hil:(i:Int)<(vjy:Int):=by omega
     rcases H7:aq L.units x with _|X
     · have hE:vav L.units x=5:=by unfold vav;rw[H7];rfl
       rw[hE] at HX;have hF:vay L name code=false:=by
        rw[hQ.out,Bool.and_eq_false_iff]
        left
        rw[List.all_eq_false];exact⟨x,List.mem_of_getElem? hx,by rw[H7];decide⟩
       replace hF:=zh hF
       generalize van L.units x=X0 at HX
       replace hex:=trivial
       replace hi:=trivial
       clear hE H7 hown wm;go_wp2_with (go_at_call 27;refine HX.mono ?_;clear HX;rintro e w5 ⟨⟨uv,rfl,va,vc,vd,rfl,vdj,vc6,vc7,vc8⟩,oo⟩;obtain⟨s1,s2,rfl,_⟩:=vc6.shape;obtain⟨s3,s4,rfl,_⟩:=vc7.shape;obtain⟨vkv,vkw,rfl,_⟩:=vc8.shape);go_ret;refine⟨⟨by rw[hF.out];rfl,?_⟩,dI.ai ((vf1.trans (aa gN vf1.size)).trans (aa (oo.trans (aa ((zb w5).alloc zr _) oo.size)) (Nat.le_trans vf1.size gN.size))) zr⟩;rw[show vaw L name code=L by unfold vaw;rw[hF.out];rfl];exact((h3.below oo).below ((zb w5).alloc zr _)).mono (Nat.le_succ j)
     · have hE:vav L.units x=0:=by unfold vav;rw[H7];rfl
       rw[hE] at HX;have hag:=vdv (L:=L) hx
       replace hex:∀k y,k<i+1→u.uses[k]? =some y→(aq L.units y).isSome=true:=λk y hk hy=>by
        rcases Nat.lt_succ_iff_lt_or_eq.1 hk with h|rfl
        · exact hex k y h hy
        · rw[hx] at hy
          cases hy;rw[H7]
          rfl
       replace hex:=zh hex
       generalize van L.units x=X0 at HX hag
       replace hag:=zh hag
       replace hi:=zh hi
       obtain⟨i0,kN,hz0,hz1,hz2⟩:=aV Gq;clear hE H7;go_upto_region 9 with(go_at_call 27;refine HX.mono ?_;clear HX;rintro e w5 ⟨⟨uv,rfl,va,vc,vd,rfl,vdj,vc6,vc7,vc8⟩,oo⟩;obtain⟨s1,s2,rfl,_⟩:=vc6.shape;obtain⟨s3,s4,rfl,_⟩:=vc7.shape;obtain⟨vkv,vkw,rfl,_⟩:=vc8.shape);generalize Hw:World.alloc _ _=W6;have rE:Below w5.heap.size w5 W6:=by rw[←Hw];exact(zb w5).alloc zr _
       have vem:W6.heap[w5.heap.size]? =some (.cells #[.string ⟨X0.name.toArray⟩,.int .i64 (X0.version:Int),.string ⟨X0.source.toArray⟩,.string ⟨X0.aO.toArray⟩,.slice s1 X0.uses.length s2,.bool X0.built,.slice s3 (aH X0.code).length s4,.slice vkv X0.used.length vkw] 41 (0,0)):=by rw[←Hw];exact heap_alloc_new w5 _
       clear Hw vc6 vc7 vc8;have b6:=(vax vem).1;have vfp:=oo.trans (aa rE oo.size);have vc4:=gN.trans (aa vfp gN.size);have vc5:=aT hown vfp zr;have CA:Below W6.heap.size W6 (W6.alloc (.cells #[.string ⟨x.toArray⟩,.string ⟨X0.aO.toArray⟩] 55)):=(zb W6).alloc zr _;have MB:=aT vc5 CA zr;have vh7:=heap_alloc_new W6 (.cells #[.string ⟨x.toArray⟩,.string ⟨X0.aO.toArray⟩] 55);have Re:((cM L u).take i).length=i:=by unfold cM;rw[List.length_take,List.length_map,vd3.out];omega
       have xR:=vc4.trans (aa CA vc4.size);clear hown vc5;go_wp2_with (at_builtin;refine gK _ rfl _ _ 39 rfl W2.heap.size 55 i0 _ 2 32 (by kernel_rfl) kN hz0 hz1 hz2 rfl (by decide) _ i _ rfl MB ⟨W6.heap.size,0,none⟩ 1 1 [str x,str X0.aO] rfl rfl (λj u hj=>by rw[eH];exact(af vh7 (0+j)).trans (by simpa using hj)) (λu hu=>by simp only[List.mem_cons,List.not_mem_nil,or_false] at hu;rcases hu with rfl|rfl<;>rfl) (by decide) (by unfold maxLen;omega) (by omega) xR.size ?_;intro v' w7 vcy hgr Qd);have Jp:Below W2.heap.size W6 w7:=(aa CA vc4.size).grown hgr (by have:=CA.size;have:=vc4.size;omega) λb e=>(MB.lt b e).1
       rw[show l9 ((cM L u).take i)++[str x,str X0.aO]=l9 ((cM L u).take (i+1)) by rw[←hag.out,Cf]] at vcy;exact⟨⟨i+1,hlt,by go_num,vcy,vc4.trans Jp,hex.out⟩,by simp only[intOf];omega⟩
    case neg=>
     obtain rfl:i=vjy:=by omega
     have h3:=h2.below gN;have hall:∀n∈u.uses,(aq L.units n).isSome=true:=λn hn=>by
      obtain⟨k,hk⟩:=List.getElem?_of_mem hn;exact hex k n (by rw[←vd3.out];exact(List.getElem?_eq_some_iff.1 hk).1) hk
     have hE:=vch (code:=code) hq hall;have Ht:vay L name code=decide (code.length≤3000):=by
      rw[hQ.out,List.all_eq_true.2 hall]
      rfl
     have Re:(cM L u).length=i:=by unfold cM;rw[List.length_map,vd3.out]
     have Ib:wr.ownsRow W2.heap.size 55 2 (.slice qv i vkq) (cM L u).length (l9 (cM L u)):=by
      rw[List.take_of_length_le (by omega)] at hown;rw[Re];exact hown
     have hle:∀x∈cM L u,x.1.length≤maxLen∧x.2.length≤maxLen:=λx hx=>by
      unfold cM at hx;obtain⟨n,hn,rfl⟩:=List.mem_map.1 hx;obtain⟨v,hv⟩:=Option.isSome_iff_exists.1 (hall n hn);have vi9:=h3.inv.units n v hv;have h1:=(vaj vi9.nm).2.1;have h4:=vi9.le.2.1;dsimp only;rw[hv];unfold maxLen;exact⟨by omega,by show v.aO.length≤_;omega⟩
     have vhu:=ck.eZ Ib hle (D:=λ_=>True) (λ_ _=>trivial);have vge:=dI.ai (vf1.trans (aa gN vf1.size)) zr;have HB:=h3.vef hj name (u.version:Int) code (cM L u) _ _ (yp.below gN zr) vhu ⟨hn,hcl,by omega⟩;rw[hE] at HB;have hB:vaw L name code=if code.length≤3000 then ez L name code else L:=by unfold vaw;rw[Ht];simp
     have vf3:=(gN.block _ vh6).trans Fu;have b3:=(vax vf3).1
     replace Ht:=zh Ht
     replace hB:=zh hB
     clear hE hall hex hown Ib vhu hle hi hq vg4 yp Fu vf3 Re
     by_cases Kr:code.length≤3000
     · rw[if_pos Kr] at HB
       rw[if_pos rfl] at HB;go_wp2_with (go_at_call 45;refine HB.mono ?_;clear HB;rintro e w8 ⟨⟨rfl,hR⟩,RA⟩);go_ret;exact⟨⟨by rw[Ht.out,decide_eq_true Kr];rfl,by rw[hB.out,if_pos Kr];exact hR⟩,vge.trans RA⟩
     · rw[if_neg Kr] at HB
       rw[if_neg (by decide)] at HB;go_wp2_with (go_at_call 45;refine HB.mono ?_;clear HB;rintro e w8 ⟨⟨rfl,hR⟩,RA⟩);go_ret;exact⟨⟨by rw[Ht.out,decide_eq_false Kr];rfl,by rw[hB.out,if_neg Kr];exact hR⟩,vge.trans RA⟩
theorem vd0 {D R:Nat→Prop} {w W:World} {l:Loc} {L:bh} {j:Nat} (h:vai R w W l L j) (hj:j≤60) (name code:List UInt8) (hn:name.length≤40) (cv:Value) (hc:CV D W cv (aH code)) (hcl:code.length≤3010):
 Calls Tryz.prog 22 #[.pointer (some ⟨l.sb,0,none⟩),str name,cv] W λe W'=>e=.returned (.bool (vay L name code))∧vai R w W' l (vaw L name code) (j+1):=(vcg h hj name code hn cv hc hcl).mono λ_ _ h=>h.1
def vdl (l:List Int):List Value:=l.map λx=>.int .i64 x
structure vbp where
 kd:Nat
 name:List UInt8
 src:List UInt8
 aO:List UInt8
 uses:List (List UInt8)
 n:Int
 vgl:Int
 code:List UInt8
 keep:List Int
structure vce (D:Nat→Prop) (w:World) (va vb vc:Value) (x:vbp):Prop where
 a:SS D w va x.uses
 b:CV D w vb (aH x.code)
 c:CV D w vc (vdl x.keep)
 kd:x.kd<256
 le:x.name.length≤maxLen∧x.src.length≤maxLen∧x.aO.length≤maxLen
theorem vce.agree {D:Nat→Prop} {w w':World} {va vb vc:Value} {x:vbp} (h:vce D w va vb vc x) (hk:∀b,D b→b<w.heap.size→w'.heap[b]? =w.heap[b]?):vce D w' va vb vc x:=⟨h.a.agree hk,h.b.agree hk,h.c.agree hk,h.kd,h.le⟩
def vd8 (x:vbp) (va vb vc:Value):List Value:=[.int .u8 (x.kd:Int),str x.name,str x.src,str x.aO,va,.int .i64 x.n,.int .i64 x.vgl,vb,vc]
def vaz (D:Nat→Prop) (w:World) (v:Value) (l:List vbp):Prop:=
 ∃p c,v=.slice p l.length c∧l.length≤c∧l.length≤maxLen∧(l=[]∨∃b o,p=some ⟨b,o,none⟩∧D b∧b<w.heap.size∧∀j x,l[j]? =some x→∃va vb vc,vce D w va vb vc x∧w.rangeAt b (o+j * 9) (vd8 x va vb vc))
theorem vaz.agree {D:Nat→Prop} {w w':World} {v:Value} {l:List vbp} (h:vaz D w v l) (hk:∀b,D b→b<w.heap.size→w'.heap[b]? =w.heap[b]?):vaz D w' v l:=by
 obtain⟨p,c,h1,h2,h3,h4⟩:=h
 refine⟨p,c,h1,h2,h3,?_⟩
 rcases h4 with h4|⟨b,o,e,h5,h6,h7⟩
 · exact .inl h4
 · refine .inr ⟨b,o,e,h5,wT (hk b h5 h6) h6,λj x hj=>?_⟩
   obtain⟨va,vb,vc,k1,k2⟩:=h7 j x hj;refine⟨va,vb,vc,k1.agree hk,λi u hi=>?_⟩;rw[World.cell?_of_block (w:=w) (a:=⟨b,o+j * 9+i,none⟩) (hk b h5 h6)];exact k2 i u hi
theorem vaz.at {D:Nat→Prop} {w:World} {p:Option Addr} {n c:Nat} {l:List vbp} (h:vaz D w (.slice p n c) l) {j:Nat} {x:vbp} (hj:l[j]? =some x):∃b o,p=some ⟨b,o,none⟩∧∃va vb vc,vce D w va vb vc x∧w.rangeAt b (o+j * 9) (vd8 x va vb vc):=by
 obtain⟨p',c',e,_,_,h4⟩:=h
 injection e with e1 _ _
 subst e1
 rcases h4 with h4|⟨b,o,e,h5,h6,h7⟩
 · rw[h4] at hj
   simp at hj
 · exact⟨b,o,e,h7 j x hj⟩
theorem vbu {w:World} {b o:Nat} {x:vbp} {va vb vc:Value} (h:w.rangeAt b o (vd8 x va vb vc)):
 w.cell? ⟨b,o,none⟩=some (.int .u8 (x.kd:Int))∧w.cell? ⟨b,o+1,none⟩=some (str x.name)∧w.cell? ⟨b,o+2,none⟩=some (str x.src)∧w.cell? ⟨b,o+3,none⟩=some (str x.aO)∧w.cell? ⟨b,o+4,none⟩=some va∧w.cell? ⟨b,o+5,none⟩=some (.int .i64 x.n)∧w.cell? ⟨b,o+6,none⟩=some (.int .i64 x.vgl)∧w.cell? ⟨b,o+7,none⟩=some vb∧w.cell? ⟨b,o+8,none⟩=some vc:=
 ⟨h 0 _ rfl,h 1 _ rfl,h 2 _ rfl,h 3 _ rfl,h 4 _ rfl,h 5 _ rfl,h 6 _ rfl,h 7 _ rfl,h 8 _ rfl⟩
theorem vf7 {w:World} {b:Nat} {a0 a1 a2 a3 a4 a5 a6 a7 a8:Value} {t:TypeId} (h:w.heap[b]? =some (.cells #[a0,a1,a2,a3,a4,a5,a6,a7,a8] t (0,0))):
 w.cell? ⟨b,0,none⟩=some a0∧w.cell? ⟨b,1,none⟩=some a1∧w.cell? ⟨b,2,none⟩=some a2∧w.cell? ⟨b,3,none⟩=some a3∧w.cell? ⟨b,4,none⟩=some a4∧w.cell? ⟨b,5,none⟩=some a5∧w.cell? ⟨b,6,none⟩=some a6∧w.cell? ⟨b,7,none⟩=some a7∧w.cell? ⟨b,8,none⟩=some a8:=
 ⟨(af h 0).trans rfl,(af h 1).trans rfl,(af h 2).trans rfl,(af h 3).trans rfl,(af h 4).trans rfl,(af h 5).trans rfl,(af h 6).trans rfl,(af h 7).trans rfl,(af h 8).trans rfl⟩
structure vbq (x:vbp):Prop where
 veu:vee x.name x.src x.aO x.uses
 code:x.code.length≤3010
 keep:x.keep.length≤200
def vc9 (L:bh) (x:vbp):bh:=
 if x.kd % 10<3 then(if jg L x.name x.src x.aO x.uses=0 then ep L x.name x.src x.aO (aU 44 x.uses) else L)
 else if x.kd % 10=3 then(if vJ L x.name=0 then o8 L x.name else L)
 else if x.kd % 10<7 then vaw L x.name x.code else L
def vet (l:List vbp):bh:=l.foldl vc9 .new
theorem vdn (l:List vbp) (v:Value) (w:World) (hv:vaz (λb=>b<w.heap.size) w v l) (hok:∀x∈l,vbq x) (hl:l.length≤30) (ht:gx w) (hm:fe w) (hp:0<w.heap.size):
 Calls Tryz.prog 13 #[v] w λe W'=>∃lo:Loc,e=.returned (.tuple #[.pointer (some ⟨lo.a,0,none⟩),.pointer (some ⟨lo.sb,0,none⟩),.bool true])∧vc0 w W' lo (vet l) 30:=by
 have MT:=hv
 obtain⟨p,c,rfl,_,_,_⟩:=hv
 have HN:=wY 30000 (by decide) w
 go_enter Tryz.func13,Tryz.ntmps13
 go_upto_region 4 with(go_at_call 31;refine HN.mono ?_;clear HN;rintro e w1 ⟨⟨a,b1,b2,rfl,hD⟩,aP⟩)
 have HO:=EK (λb=>w.heap.size≤b) w1 hD (S:=oZ 30000) rfl rfl
 go_upto_region 7 with(go_at_call 35;refine HO.mono ?_;clear HO;rintro e w2 ⟨⟨sb,lg,ds,rfl,hh,hL,hG,h1,h2⟩,bO⟩)
 have T3:=vc0.new ht hm hp hD aP hh hL hG h1 h2 bO
 obtain⟨lo,hlo⟩:∃l:Loc,(⟨sb,w1.heap.size,w1.heap.size+1,lg,a,b1,b2,30000⟩:Loc)=l:=⟨_,rfl⟩
 obtain⟨hsb,vj6⟩:sb=lo.sb∧a=lo.a:=by rw[←hlo];exact⟨rfl,rfl⟩
 rw[hlo] at T3
 subst hsb vj6
 clear hD aP hh hL hG h1 h2 bO hlo
 generalize vcl:l.length=NL at *
 replace vcl:=zh vcl
 replace hok:=zh hok
 go_upto_region 8 with fail
 go_loopw [35] (λy wx=>∃i:Nat,i≤NL∧y=.int .i64 i∧vc0 w wx lo ((l.take i).foldl vc9 .new) i) (λy _=>NL - (intOf y).toNat)
 case atStart=>exact⟨0,Nat.zero_le _,by go_num,T3⟩
 case round=>
  obtain⟨i,hi,rfl,hR⟩:=hrel;clear T3
  by_cases hlt:i<NL
  case neg=>
   obtain rfl:i=NL:=by omega
   go_wp2_with fail;refine bodyPost_ret (v:=.tuple #[.pointer (some ⟨lo.a,0,none⟩),.pointer (some ⟨lo.sb,0,none⟩),.bool true]) (by simp[results,Tryz.results13,go_sem]) rfl ⟨lo,rfl,?_⟩;rw[List.take_of_length_le (Nat.le_of_eq vcl.out)] at hR;exact hR.mono hl
  case pos =>
   obtain⟨x,hx⟩:∃x,l[i]? =some x:=⟨_,List.getElem?_eq_getElem (by rw[vcl.out];exact hlt)⟩
   obtain⟨b,o,rfl,va,vb,vc,QB,xU⟩:=(MT.agree (w':=wr) λb hb _=>hR.cV.block b hb).at hx;obtain⟨pa,ca,rfl,_⟩:=QB.a.shape;obtain⟨pb,cb,rfl,_⟩:=QB.b.shape;obtain⟨pc,cc,rfl,_⟩:=QB.c.shape;have c9:=vbu xU;have CK:=hok.out x (List.mem_of_getElem? hx);have hil:(i:Int)<(NL:Int):=by omega
   have hst:(l.take (i+1)).foldl vc9 .new=vc9 ((l.take i).foldl vc9 .new) x:=by
    rw[List.take_add_one,hx,List.foldl_append]
    rfl
   replace hst:=zh hst
   clear xU;go_upto_region 10 with fail;generalize vby:World.alloc _ _=W2;have bO:Below wr.heap.size wr W2:=by rw[←vby];exact(zb wr).alloc zr _
   have Fu:W2.heap[wr.heap.size]? =some (.cells #[.int .u8 (x.kd:Int),.string ⟨x.name.toArray⟩,.string ⟨x.src.toArray⟩,.string ⟨x.aO.toArray⟩,.slice pa x.uses.length ca,.int .i64 x.n,.int .i64 x.vgl,.slice pb (aH x.code).length cb,.slice pc (vdl x.keep).length cc] 46 (0,0)):=by rw[←vby];exact heap_alloc_new wr _
   clear vby c9;have b9:=vf7 Fu;have LZ:=hR.below bO;have vib:=QB.a.below bO zr;have vic:=QB.b.below bO zr;obtain⟨r,hr⟩:∃r,x.kd % 10=r:=⟨_,rfl⟩
   have vjj:(x.kd:Int) % 10=(r:Int):=by omega
   have hk1:(i:Int)+1≤9223372036854775807:=by omega
   have hop:vc9 ((l.take i).foldl vc9 .new) x=if r<3 then(if jg ((l.take i).foldl vc9 .new) x.name x.src x.aO x.uses=0 then ep ((l.take i).foldl vc9 .new) x.name x.src x.aO (aU 44 x.uses) else(l.take i).foldl vc9 .new) else if r=3 then(if vJ ((l.take i).foldl vc9 .new) x.name=0 then o8 ((l.take i).foldl vc9 .new) x.name else(l.take i).foldl vc9 .new) else if r<7 then vaw ((l.take i).foldl vc9 .new) x.name x.code else(l.take i).foldl vc9 .new:=by
    unfold vc9;rw[hr]
   replace hop:=zh hop
   generalize (l.take i).foldl vc9 .new=L at *;have HP:=LZ.put (by omega) x.name x.src x.aO x.uses _ vib CK.veu;have HD:=LZ.drop (by omega) x.name CK.veu.ln;have HB:=vd0 LZ (by omega) x.name x.code CK.veu.ln _ vic CK.code
   replace hr:=zh hr
   clear Fu hR QB vib vic
   by_cases h3:r<3
   · have g1:(r:Int)<3:=by omega
     clear HD HB;go_wp2_with (go_at_call 21;refine HP.mono ?_;clear HP;rintro e w5 ⟨he,NS⟩;obtain⟨v1,v2,rfl⟩:∃v1 v2,e=.returned (.tuple #[v1,v2]):=⟨_,_,he⟩;clear he);exact⟨⟨i+1,hlt,by go_num,by rw[hst.out,hop.out,if_pos h3];exact NS⟩,by simp only[intOf];omega⟩
   · have g1:¬(r:Int)<3:=by omega
     clear HP
     by_cases h4:r=3
     · subst h4
       clear HB;go_wp2_with (go_at_call 28;refine HD.mono ?_;clear HD;rintro e w5 ⟨he,NS⟩;obtain⟨v1,rfl⟩:∃v1,e=.returned v1:=⟨_,he⟩;clear he);exact⟨⟨i+1,hlt,by go_num,by rw[hst.out,hop.out,if_neg h3,if_pos trivial];exact NS⟩,by simp only[intOf];omega⟩
     · have g2:((r:Int)==3)=false:=by simp;omega
       clear HD
       by_cases h7:r<7
       · have g3:(r:Int)<7:=by omega
         go_wp2_with (go_at_call 22;refine HB.mono ?_;clear HB;rintro e w5 ⟨he,NS⟩;obtain⟨v1,rfl⟩:∃v1,e=.returned v1:=⟨_,he⟩;clear he);exact⟨⟨i+1,hlt,by go_num,by rw[hst.out,hop.out,if_neg h3,if_neg h4,if_pos h7];exact NS⟩,by simp only[intOf];omega⟩
       · have g3:¬(r:Int)<7:=by omega
         clear HB;go_wp2_with fail;exact⟨⟨i+1,hlt,by go_num,by rw[hst.out,hop.out,if_neg h3,if_neg h4,if_neg h7];exact LZ.mono (Nat.le_succ i)⟩,by simp only[intOf];omega⟩
def vdu (l:List vbp) (e:Ending):Prop:=∃q:Bool,e=.returned (.bool q)∧(q=true→(∀x∈l,vbq x)∧l.length≤30)
theorem vcq (l : List vbp) (v : Value) (w : World) (hv : vaz (fun b => b < w.heap.size) w v l) :
 Calls Tryz.prog 11 #[v] w λe w'=>vdu l e∧Below w.heap.size w w':=by
 have MT:=hv
 obtain⟨p,c,rfl,_,hlm,_⟩:=hv
 go_enter Tryz.func11,Tryz.ntmps11
 go_upto_region 2 with fail
 generalize vcl:l.length=NL at *
 replace vcl:=zh vcl
 go_loopw [9] (λy wx=>∃i:Nat,i≤NL∧y=.int .i64 i∧(∀k x,k<i→l[k]? =some x→vbq x)∧Below w.heap.size w wx) (λy _=>NL - (intOf y).toNat)
 case atStart=>exact⟨0,Nat.zero_le _,by go_num,λk x h=>absurd h (Nat.not_lt_zero _),zb _⟩
 case round =>
  obtain⟨i,hi,rfl,hex,gN⟩:=hrel
  by_cases hlt:i<NL
  case neg=>
   obtain rfl:i=NL:=by omega
   replace hex:=zh hex
   by_cases Ra:i≤30
   · have g1:(i:Int)≤30:=by omega
     go_wp2_with fail;go_ret;refine⟨⟨true,rfl,λ_=>⟨λx hx=>?_,by rw[vcl.out];exact Ra⟩⟩,gN⟩;obtain⟨k,hk⟩:=List.getElem?_of_mem hx;exact hex.out k x (by rw[←vcl.out];exact(List.getElem?_eq_some_iff.1 hk).1) hk
   · have g1:¬(i:Int)≤30:=by omega
     go_wp2_with fail;go_ret;exact⟨⟨false,rfl,λh=>by cases h⟩,gN⟩
  case pos =>
   obtain⟨x,hx⟩:∃x,l[i]? =some x:=⟨_,List.getElem?_eq_getElem (by rw[vcl.out];exact hlt)⟩
   obtain⟨b,o,rfl,va,vb,vc,QB,xU⟩:=(MT.agree (w':=wr) λb hb _=>gN.block b hb).at hx;obtain⟨pa,ca,rfl,_⟩:=QB.a.shape;obtain⟨pb,cb,rfl,_⟩:=QB.b.shape;obtain⟨pc,cc,rfl,_⟩:=QB.c.shape;have c9:=vbu xU;have hil:(i:Int)<(NL:Int):=by omega
   have hcl:(aH x.code).length=x.code.length:=ak _;have sA:(vdl x.keep).length=x.keep.length:=by simp[vdl]
   rw[hcl] at c9;rw[sA] at c9
   replace hex:=zh hex
   have vhw:=QB.a;clear xU hcl sA QB;generalize vff:x.name.length=vju at *;generalize oN:x.src.length=vjv at *;generalize vim:x.aO.length=vjt at *;generalize vgr:x.uses.length=vjw at *;generalize vil:x.code.length=vjs at *;generalize vin:x.keep.length=Lk at *;go_upto_region 4 with fail;generalize vby:World.alloc _ _=W2;have bO:Below wr.heap.size wr W2:=by rw[←vby];exact(zb wr).alloc zr _
   have Fu:W2.heap[wr.heap.size]? =some (.cells #[.int .u8 (x.kd:Int),.string ⟨x.name.toArray⟩,.string ⟨x.src.toArray⟩,.string ⟨x.aO.toArray⟩,.slice pa vjw ca,.int .i64 x.n,.int .i64 x.vgl,.slice pb vjs cb,.slice pc Lk cc] 46 (0,0)):=by rw[←vby];exact heap_alloc_new wr _
   clear vby c9;have b9:=vf7 Fu
   go_cut [82] from 13 to 83 (λq wx=>∃ok:Bool,q=.bool ok∧wx=W2∧(ok=false→vju≤40∧vjv≤3010∧vjt≤3010∧vjw≤22∧vjs≤3010∧Lk≤200))
   case first =>
    by_cases n0:(40:Int)<(vju:Int)
    · skip
      go_wp2_with fail
      go_meet
      case rel=>exact⟨true,rfl,rfl,λh=>by cases h⟩
    · skip
      by_cases s0:(300:Int)<(vjv:Int)
      · by_cases s1 : (vjv : Int) ≤ 3000
        · skip
          go_wp2_with fail
          go_meet
          case rel=>exact⟨true,rfl,rfl,λh=>by cases h⟩
        · by_cases s2 : (3010 : Int) < (vjv : Int)
          · skip
            go_wp2_with fail
            go_meet
            case rel=>exact⟨true,rfl,rfl,λh=>by cases h⟩
          · skip
            by_cases f0:(300:Int)<(vjt:Int)
            · by_cases f1 : (vjt : Int) ≤ 3000
              · skip
                go_wp2_with fail
                go_meet
                case rel=>exact⟨true,rfl,rfl,λh=>by cases h⟩
              · by_cases f2 : (3010 : Int) < (vjt : Int)
                · skip
                  go_wp2_with fail
                  go_meet
                  case rel=>exact⟨true,rfl,rfl,λh=>by cases h⟩
                · skip
                  by_cases vkz:(22:Int)<(vjw:Int)
                  · skip
                    go_wp2_with fail
                    go_meet
                    case rel=>exact⟨true,rfl,rfl,λh=>by cases h⟩
                  · skip
                    by_cases c0:(300:Int)<(vjs:Int)
                    · by_cases c1:(vjs:Int)≤3000
                      · skip
                        go_wp2_with fail
                        go_meet
                        case rel=>exact⟨true,rfl,rfl,λh=>by cases h⟩
                      · by_cases c2:(3010:Int)<(vjs:Int)
                        · skip
                          go_wp2_with fail
                          go_meet
                          case rel=>exact⟨true,rfl,rfl,λh=>by cases h⟩
                        · skip
                          by_cases k0:(200:Int)<(Lk:Int)
                          · skip
                            go_wp2_with fail
                            go_meet
                            case rel=>exact⟨true,rfl,rfl,λh=>by cases h⟩
                          · skip
                            go_wp2_with fail
                            go_meet
                            case rel=>exact⟨false,rfl,rfl,λ_=>⟨by omega,by omega,by omega,by omega,by omega,by omega⟩⟩
                    · have c2:¬(3010:Int)<(vjs:Int):=by omega
                      by_cases k0:(200:Int)<(Lk:Int)
                      · skip
                        go_wp2_with fail
                        go_meet
                        case rel=>exact⟨true,rfl,rfl,λh=>by cases h⟩
                      · skip
                        go_wp2_with fail
                        go_meet
                        case rel=>exact⟨false,rfl,rfl,λ_=>⟨by omega,by omega,by omega,by omega,by omega,by omega⟩⟩
            · have f2 : ¬ (3010 : Int) < (vjt : Int) := by omega
              by_cases vkz:(22:Int)<(vjw:Int)
              · skip
                go_wp2_with fail
                go_meet
                case rel=>exact⟨true,rfl,rfl,λh=>by cases h⟩
              · skip
                by_cases c0:(300:Int)<(vjs:Int)
                · by_cases c1:(vjs:Int)≤3000
                  · skip
                    go_wp2_with fail
                    go_meet
                    case rel=>exact⟨true,rfl,rfl,λh=>by cases h⟩
                  · by_cases c2:(3010:Int)<(vjs:Int)
                    · skip
                      go_wp2_with fail
                      go_meet
                      case rel=>exact⟨true,rfl,rfl,λh=>by cases h⟩
                    · skip
                      by_cases k0:(200:Int)<(Lk:Int)
                      · skip
                        go_wp2_with fail
                        go_meet
                        case rel=>exact⟨true,rfl,rfl,λh=>by cases h⟩
                      · skip
                        go_wp2_with fail
                        go_meet
                        case rel=>exact⟨false,rfl,rfl,λ_=>⟨by omega,by omega,by omega,by omega,by omega,by omega⟩⟩
                · have c2:¬(3010:Int)<(vjs:Int):=by omega
                  by_cases k0:(200:Int)<(Lk:Int)
                  · skip
                    go_wp2_with fail
                    go_meet
                    case rel=>exact⟨true,rfl,rfl,λh=>by cases h⟩
                  · skip
                    go_wp2_with fail
                    go_meet
                    case rel=>exact⟨false,rfl,rfl,λ_=>⟨by omega,by omega,by omega,by omega,by omega,by omega⟩⟩
      · have s2 : ¬ (3010 : Int) < (vjv : Int) := by omega
        by_cases f0:(300:Int)<(vjt:Int)
        · by_cases f1 : (vjt : Int) ≤ 3000
          · skip
            go_wp2_with fail
            go_meet
            case rel=>exact⟨true,rfl,rfl,λh=>by cases h⟩
          · by_cases f2 : (3010 : Int) < (vjt : Int)
            · skip
              go_wp2_with fail
              go_meet
              case rel=>exact⟨true,rfl,rfl,λh=>by cases h⟩
            · skip
              by_cases vkz:(22:Int)<(vjw:Int)
              · skip
                go_wp2_with fail
                go_meet
                case rel=>exact⟨true,rfl,rfl,λh=>by cases h⟩
              · skip
                by_cases c0:(300:Int)<(vjs:Int)
                · by_cases c1:(vjs:Int)≤3000
                  · skip
                    go_wp2_with fail
                    go_meet
                    case rel=>exact⟨true,rfl,rfl,λh=>by cases h⟩
                  · by_cases c2:(3010:Int)<(vjs:Int)
                    · skip
                      go_wp2_with fail
                      go_meet
                      case rel=>exact⟨true,rfl,rfl,λh=>by cases h⟩
                    · skip
                      by_cases k0:(200:Int)<(Lk:Int)
                      · skip
                        go_wp2_with fail
                        go_meet
                        case rel=>exact⟨true,rfl,rfl,λh=>by cases h⟩
                      · skip
                        go_wp2_with fail
                        go_meet
                        case rel=>exact⟨false,rfl,rfl,λ_=>⟨by omega,by omega,by omega,by omega,by omega,by omega⟩⟩
                · have c2:¬(3010:Int)<(vjs:Int):=by omega
                  by_cases k0:(200:Int)<(Lk:Int)
                  · skip
                    go_wp2_with fail
                    go_meet
                    case rel=>exact⟨true,rfl,rfl,λh=>by cases h⟩
                  · skip
                    go_wp2_with fail
                    go_meet
                    case rel=>exact⟨false,rfl,rfl,λ_=>⟨by omega,by omega,by omega,by omega,by omega,by omega⟩⟩
        · have f2 : ¬ (3010 : Int) < (vjt : Int) := by omega
          by_cases vkz:(22:Int)<(vjw:Int)
          · skip
            go_wp2_with fail
            go_meet
            case rel=>exact⟨true,rfl,rfl,λh=>by cases h⟩
          · skip
            by_cases c0:(300:Int)<(vjs:Int)
            · by_cases c1:(vjs:Int)≤3000
              · skip
                go_wp2_with fail
                go_meet
                case rel=>exact⟨true,rfl,rfl,λh=>by cases h⟩
              · by_cases c2:(3010:Int)<(vjs:Int)
                · skip
                  go_wp2_with fail
                  go_meet
                  case rel=>exact⟨true,rfl,rfl,λh=>by cases h⟩
                · skip
                  by_cases k0:(200:Int)<(Lk:Int)
                  · skip
                    go_wp2_with fail
                    go_meet
                    case rel=>exact⟨true,rfl,rfl,λh=>by cases h⟩
                  · skip
                    go_wp2_with fail
                    go_meet
                    case rel=>exact⟨false,rfl,rfl,λ_=>⟨by omega,by omega,by omega,by omega,by omega,by omega⟩⟩
            · have c2:¬(3010:Int)<(vjs:Int):=by omega
              by_cases k0:(200:Int)<(Lk:Int)
              · skip
                go_wp2_with fail
                go_meet
                case rel=>exact⟨true,rfl,rfl,λh=>by cases h⟩
              · skip
                go_wp2_with fail
                go_meet
                case rel=>exact⟨false,rfl,rfl,λ_=>⟨by omega,by omega,by omega,by omega,by omega,by omega⟩⟩
   case rest =>
    obtain⟨ok,rfl,vg7,hbd⟩:=hcut;have vg7:=vg7.symm;subst vg7;have vei:=gN.trans (aa bO gN.size);rcases ok with _|_
    · obtain ⟨k1, k2, k3, k4, k5, k6⟩ := hbd rfl
      have NT:=vhw.below bO zr;clear hbd vhw Fu bO;go_upto_region 7 with fail;go_loopw [86] (λy wx=>∃m:Nat,m≤vjw∧y=.int .i64 m∧wx=W2∧∀k u,k<m→x.uses[k]? =some u→u.length≤40) (λy _=>vjw - (intOf y).toNat)
      case atStart=>exact⟨0,Nat.zero_le _,by go_num,rfl,λk u h=>absurd h (Nat.not_lt_zero _)⟩
      case round =>
       rename_i vl1
       obtain⟨m,CH,rfl,vhg,ve9⟩:=hrel;have vhg:=vhg.symm;subst vhg
       by_cases hml:m<vjw
       case neg=>
        obtain rfl:m=vjw:=by omega
        have hok:vbq x:=⟨⟨by rw[vff];exact k1,by rw[oN];exact k2,by rw[vim];exact k3,by rw[vgr];exact k4,λu hu=>by
         obtain⟨k,hk⟩:=List.getElem?_of_mem hu;exact ve9 k u (by rw[←vgr];exact(List.getElem?_eq_some_iff.1 hk).1) hk⟩,by rw[vil];exact k5,by rw[vin];exact k6⟩
        have vh5:=zh (show ∀k y,k<i+1→l[k]? =some y→vbq y from λk y hk hy=>by
         rcases Nat.lt_succ_iff_lt_or_eq.1 hk with h|rfl
         · exact hex.out k y h hy
         · rw[hx] at hy
           cases hy;exact hok)
        clear ve9 hok hex;have hk1:(i:Int)+1≤9223372036854775807:=by unfold maxLen at hlm;omega
        go_wp2_with fail;exact⟨⟨i+1,hlt,by go_num,vh5.out,vei⟩,by simp only[intOf];omega⟩
       case pos=>
        obtain⟨u,hu⟩:∃u,x.uses[m]? =some u:=⟨_,List.getElem?_eq_getElem (by rw[vgr];exact hml)⟩
        obtain⟨vjl,vjm,rfl,_,d0⟩:=NT.at hu;have vjh:(m:Int)<(vjw:Int):=by omega
        by_cases NC:u.length≤40
        · have g1:¬(40:Int)<(u.length:Int):=by omega
          have vhf:=zh (show ∀k y,k<m+1→x.uses[k]? =some y→y.length≤40 from λk y hk hy=>by
           rcases Nat.lt_succ_iff_lt_or_eq.1 hk with h|rfl
           · exact ve9 k y h hy
           · rw[hu] at hy
             cases hy;exact NC)
          clear ve9;have hk1:(m:Int)+1≤9223372036854775807:=by omega
          go_wp2_with fail;exact⟨⟨m+1,hml,by go_num,trivial,vhf.out⟩,by simp only[intOf];omega⟩
        · have g1:(40:Int)<(u.length:Int):=by omega
          clear ve9;go_wp2_with fail;go_ret;exact⟨⟨false,rfl,λh=>by cases h⟩,vei⟩
    · clear hbd
      go_wp2_with fail;go_ret;exact⟨⟨false,rfl,λh=>by cases h⟩,vei⟩
def vas (u:az) (a c d:Value):List Value:=[str u.name,.int .i64 (u.version:Int),str u.source,str u.aO,a,.bool u.built,c,d]
structure vao where
 u:az
 a:Value
 c:Value
 d:Value
structure vao.ok (D:Nat→Prop) (w:World) (x:vao):Prop where
 le:x.u.le
 a:SS D w x.a x.u.uses
 c:CV D w x.c (aH x.u.code)
 d:ck D w x.d x.u.used
theorem vao.ok.agree {D:Nat→Prop} {w w':World} {x:vao} (h:x.ok D w) (hk:∀b,D b→b<w.heap.size→w'.heap[b]? =w.heap[b]?):x.ok D w':=⟨h.le,h.a.agree hk,h.c.agree hk,h.d.agree hk⟩
theorem vao.ok.below {D:Nat→Prop} {w w':World} {x:vao} {K:Nat} (h:x.ok D w) (hb:Below K w w') (hK:w.heap.size≤K):x.ok D w':=h.agree λb _ hl=>hb.block b (by omega)
theorem ck.fresh {D:Nat→Prop} {w:World} {v:Value} {l:List (List UInt8×List UInt8)} (h:ck D w v l):ck (λb=>D b∧b<w.heap.size) w v l:=by
 obtain⟨p,c,h1,h2,h3,hl,h4⟩:=h
 refine⟨p,c,h1,h2,h3,hl,?_⟩
 rcases h4 with h4|⟨b,o,e1,h5,h6,h7⟩
 · exact .inl h4
 · exact .inr ⟨b,o,e1,⟨h5,h6⟩,h6,h7⟩
theorem vao.ok.mono {D D':Nat→Prop} {w:World} {x:vao} (h:x.ok D w) (hD:∀b,D b→b<w.heap.size→D' b):x.ok D' w:=
 ⟨h.le,h.a.fresh.mono λb hb=>hD b hb.1 hb.2,h.c.fresh.mono λb hb=>hD b hb.1 hb.2,h.d.fresh.mono λb hb=>hD b hb.1 hb.2⟩
def vb5 (L:List vao):List Value:=L.flatMap λx=>vas x.u x.a x.c x.d
def vbj (K:Nat) (w:World) (v:Value) (L:List vao):Prop:=w.ownsRow K 41 8 v L.length (vb5 L)∧∀x∈L,x.ok (λb=>(v.ownBlock≠some b∧K≤b)∧vat w b) w
theorem vbj.below {K K':Nat} {w w':World} {v:Value} {L:List vao} (h:vbj K w v L) (hb:Below K' w w') (hK:w.heap.size≤K'):vbj K w' v L:=⟨aT h.1 hb hK,λx hx=>((h.2 x hx).mono λb hbb hl=>⟨hbb.1,hbb.2.keep (hb.block b (Nat.lt_of_lt_of_le hl hK))⟩).below hb hK⟩
theorem vdk:(Tryz.prog.info? 41).map (λi=>(i.zero,i.size,i.bytes))=some (some (.agg #[str [],.int .i64 0,str [],str [],.slice none 0 0,.bool false,.slice none 0 0,.slice none 0 0]),8,136):=by kernel_rfl
theorem vda {R:Nat→Prop} {w W:World} {l:Loc} {L:bh} {j:Nat} (h:vai R w W l L j):
 Calls Tryz.prog 17 #[.pointer (some ⟨l.sb,0,none⟩)] W λe W'=>(∃v us,e=.returned v∧vbj W.heap.size W' v us∧us.map (·.u)=(bZ L.units).map (van L.units))∧Below W.heap.size W W':=by
 have HN:=zy W h.read
 have hnm:=h.names
 go_enter Tryz.func17,Tryz.ntmps17
 go_upto_region 3 with(go_at_call 16;refine HN.mono ?_;clear HN;rintro e w1 ⟨nv,rfl,JC,aP⟩;obtain⟨np,nc,rfl⟩:=aJ JC)
 have vdz:∀s∈bZ L.units,s.length≤maxLen:=λs hs=>by have:=(hnm s hs).2;unfold maxLen;omega
 have viq:=SS.row JC rfl vdz
 have h1:=h.below aP
 have hnl:(bZ L.units).length≤20:=by
  unfold bZ;rw[iP,List.length_map];exact h.inv.vkl
 clear JC
 generalize hNs:bZ L.units=vk0 at *
 generalize vcl:vk0.length=NL at *
 replace vcl:=zh vcl
 replace hNs:=zh hNs
 replace hnm:=zh hnm
 replace vdz:=zh vdz
 have Rx:W.heap.size≤w1.heap.size:=aP.size
 go_loopw [3,11] (λuv y wx=>∃(i:Nat) (us:List vao),i≤NL∧y=.int .i64 i∧us.length=i∧us.map (·.u)=(vk0.take i).map (van L.units)∧vbj w1.heap.size wx uv us∧Below w1.heap.size w1 wx) (λ_ y _=>NL - (intOf y).toNat)
 case atStart=>exact⟨0,[],Nat.zero_le _,by go_num,rfl,by simp,⟨World.ownsRow_nil _ _ _ _,λx hx=>by cases hx⟩,zb _⟩
 case round =>
  obtain⟨i,us,hi1,rfl,CJ,N4,hown,gN⟩:=hrel;obtain⟨qv,vkq,vj2⟩:=aJ hown.1;subst vj2
  by_cases hlt:i<NL
  case pos =>
   obtain⟨x,hx⟩:∃x,vk0[i]? =some x:=⟨_,List.getElem?_eq_getElem (by rw[vcl.out];exact hlt)⟩
   obtain⟨pb,po,rfl,_,d0⟩:=(viq.below gN zr).at hx;have h3:=h1.below gN;have HX:=h3.ved x (vdz.out x (List.mem_of_getElem? hx));have hil:(i:Int)<(NL:Int):=by omega
   have ve9:vav L.units x=0:=by unfold vav;rw[(hnm.out x (List.mem_of_getElem? hx)).1];rfl
   rw[ve9] at HX;have veq:us.map (·.u)++[van L.units x]=(vk0.take (i+1)).map (van L.units):=by
    rw[List.take_add_one,hx,N4];simp
   replace veq:=zh veq
   generalize vgz:van L.units x=X0 at HX
   replace vgz:=zh vgz
   obtain⟨i0,kN,hz0,hz1,hz2⟩:=aV vdk;clear ve9 N4;go_upto_region 6 with(go_at_call 27;refine HX.mono ?_;clear HX;rintro e w5 ⟨⟨uv,rfl,va,vc,vd,rfl,vdj,vc6,vc7,vc8⟩,oo⟩;obtain⟨s1,s2,rfl,_⟩:=vc6.shape;obtain⟨s3,s4,rfl,_⟩:=vc7.shape;obtain⟨vkv,vkw,rfl,_⟩:=vc8.shape);generalize Hw:World.alloc _ _=W6;have rE:Below w5.heap.size w5 W6:=by rw[←Hw];exact(zb w5).alloc zr _
   have vem:W6.heap[w5.heap.size]? =some (.cells #[.string ⟨X0.name.toArray⟩,.int .i64 (X0.version:Int),.string ⟨X0.source.toArray⟩,.string ⟨X0.aO.toArray⟩,.slice s1 X0.uses.length s2,.bool X0.built,.slice s3 (aH X0.code).length s4,.slice vkv X0.used.length vkw] 41 (0,0)):=by rw[←Hw];exact heap_alloc_new w5 _
   clear Hw;have b6:=(vax vem).1;have vfp:=oo.trans (aa rE oo.size);have vc4:=gN.trans (aa vfp gN.size);have vc5:=hown.below vfp zr;have vi3:∀b,(Value.slice qv i vkq).ownBlock=some b→w1.heap.size≤b∧b<wr.heap.size:=λb hb=>hown.1.lt b (by rw[CJ];exact hb)
   have hnew:vao.ok (λb=>((Value.slice qv i vkq).ownBlock≠some b∧w1.heap.size≤b)∧vat W6 b) W6 ⟨X0,.slice s1 X0.uses.length s2,.slice s3 (aH X0.code).length s4,.slice vkv X0.used.length vkw⟩:=by
    have hD:∀b,wr.heap.size≤b∧vat w5 b→((Value.slice qv i vkq).ownBlock≠some b∧w1.heap.size≤b)∧vat W6 b:=λb hb=>⟨⟨λe=>by have:=(vi3 b e).2;omega,Nat.le_trans gN.size hb.1⟩,hb.2.below rE zr⟩
    exact⟨vdj,(vc6.below rE zr).mono hD,(vc7.below rE zr).mono hD,(vc8.below rE zr).mono hD⟩
   have CA:Below W6.heap.size W6 (W6.alloc (.cells #[.string ⟨X0.name.toArray⟩,.int .i64 (X0.version:Int),.string ⟨X0.source.toArray⟩,.string ⟨X0.aO.toArray⟩,.slice s1 X0.uses.length s2,.bool X0.built,.slice s3 (aH X0.code).length s4,.slice vkv X0.used.length vkw] 41)):=(zb W6).alloc zr _;have vh7:=heap_alloc_new W6 (.cells #[.string ⟨X0.name.toArray⟩,.int .i64 (X0.version:Int),.string ⟨X0.source.toArray⟩,.string ⟨X0.aO.toArray⟩,.slice s1 X0.uses.length s2,.bool X0.built,.slice s3 (aH X0.code).length s4,.slice vkv X0.used.length vkw] 41);have MB:=aT vc5.1 CA zr;rw[CJ] at MB;have xR:=vc4.trans (aa CA vc4.size);clear vc6 vc7 vc8 hown vem;go_wp2_with (at_builtin;refine gK _ rfl _ _ 36 rfl w1.heap.size 41 i0 _ 8 136 (by kernel_rfl) kN hz0 hz1 hz2 rfl (by decide) _ i _ rfl MB ⟨W6.heap.size,0,none⟩ 1 1 (vas X0 (.slice s1 X0.uses.length s2) (.slice s3 (aH X0.code).length s4) (.slice vkv X0.used.length vkw)) rfl rfl (λj u hj=>by rw[eH];exact(af vh7 (0+j)).trans (by simpa[vas] using hj)) (λu hu=>by unfold vas at hu;simp only[List.mem_cons,List.not_mem_nil,or_false] at hu;rcases hu with rfl|rfl|rfl|rfl|rfl|rfl|rfl|rfl<;>rfl) (by decide) (by unfold maxLen;omega) (by omega) xR.size ?_;intro v' w7 vcy hgr Qd);have MJ:(W6.alloc (.cells #[.string ⟨X0.name.toArray⟩,.int .i64 (X0.version:Int),.string ⟨X0.source.toArray⟩,.string ⟨X0.aO.toArray⟩,.slice s1 X0.uses.length s2,.bool X0.built,.slice s3 (aH X0.code).length s4,.slice vkv X0.used.length vkw] 41)).heap.size=W6.heap.size+1:=by simp
   have hkeep:∀y:vao,y.ok (λb=>((Value.slice qv i vkq).ownBlock≠some b∧w1.heap.size≤b)∧vat W6 b) W6→y.ok (λb=>(v'.ownBlock≠some b∧w1.heap.size≤b)∧vat w7 b) w7:=λy hy=>by
    have e1:∀b,(Value.slice qv i vkq).ownBlock≠some b→b<W6.heap.size→w7.heap[b]? =W6.heap[b]? :=λb hb hl=>(hgr.block b (by rw[MJ];omega) (λe=>hb e.symm)).trans (CA.block b hl)
    have hy2:=hy.mono (D':=λb=>(((Value.slice qv i vkq).ownBlock≠some b∧w1.heap.size≤b)∧vat W6 b)∧b<W6.heap.size) λb hb hl=>⟨hb,hl⟩
    refine(hy2.agree λb hb hl=>e1 b hb.1.1.1 hl).mono λb hb _=>⟨⟨λe=>?_,hb.1.1.2⟩,hb.1.2.keep (e1 b hb.1.1.1 hb.2)⟩
    rcases Qd with Qd|Qd
    · rw[Qd] at e
      exact hb.1.1.1 e
    · rw[Qd,MJ] at e
      cases e;omega
   refine⟨⟨i+1,us++[⟨X0,.slice s1 X0.uses.length s2,.slice s3 (aH X0.code).length s4,.slice vkv X0.used.length vkw⟩],hlt,by go_num,by simp[CJ],?_,⟨?_,λy hy=>hkeep y ?_⟩,?_⟩,by simp only[intOf];omega⟩
   · rw[List.map_append,←veq.out,vgz.out]
     rfl
   · rw[List.length_append,CJ]
     rw[show vb5 (us++[⟨X0,.slice s1 X0.uses.length s2,.slice s3 (aH X0.code).length s4,.slice vkv X0.used.length vkw⟩])=vb5 us++vas X0 (.slice s1 X0.uses.length s2) (.slice s3 (aH X0.code).length s4) (.slice vkv X0.used.length vkw) by simp[vb5]];exact vcy
   · rcases List.mem_append.1 hy with hy|hy
     · have:=vc5.2 y hy
       rw[CJ] at this;exact this
     · rw[List.mem_singleton.1 hy]
       exact hnew
   · exact xR.grown hgr (by have:=xR.size;omega) λb e=>(vi3 b e).1
  case neg=>
   obtain rfl:i=NL:=by omega
   go_wp2_with fail;go_ret;refine⟨⟨_,us,rfl,⟨ef hown.1 Rx,λx hx=>(hown.2 x hx).mono λb hb _=>⟨⟨hb.1.1,Nat.le_trans Rx hb.1.2⟩,hb.2⟩⟩,?_⟩,aP.trans (aa gN Rx)⟩;rw[N4,List.take_of_length_le (Nat.le_of_eq vcl.out)];rw[hNs.out]
theorem vco {w:World} {B k n c:Nat} {t:TypeId} {p:Option Addr} {cs:List Value} (h:w.ownsRow B t k (.slice p n c) n cs) (h0:0<n):∃g,p=some ⟨g,0,none⟩∧∀j u,cs[j]? =some u→w.cell? ⟨g,j,none⟩=some u:=by
 rcases h.2 with⟨_,h1⟩|⟨g,cap,cur,e,_⟩
 · omega
 · injection e with e1 _ _
   subst e1;refine⟨g,rfl,λj u hj=>?_⟩;have:=h.cells (g:=g) rfl j u hj
   rwa [eH,Nat.zero_add] at this
def vb0 (D:Nat→Prop) (w:World) (v:Value) (l:List az):Prop:=
 ∃p c,v=.slice p l.length c∧l.length≤maxLen∧(l=[]∨∃b o,p=some ⟨b,o,none⟩∧D b∧b<w.heap.size∧∀j u,l[j]? =some u→∃a c d,vao.ok D w ⟨u,a,c,d⟩∧w.rangeAt b (o+j * 8) (vas u a c d))
theorem vb0.agree {D:Nat→Prop} {w w':World} {v:Value} {l:List az} (h:vb0 D w v l) (hk:∀b,D b→b<w.heap.size→w'.heap[b]? =w.heap[b]?):vb0 D w' v l:=by
 obtain⟨p,c,h1,h2,h3⟩:=h
 refine⟨p,c,h1,h2,?_⟩
 rcases h3 with h3|⟨b,o,e,h4,h5,h6⟩
 · exact .inl h3
 · refine .inr ⟨b,o,e,h4,wT (hk b h4 h5) h5,λj u hj=>?_⟩
   obtain⟨a,c,d,k1,k2⟩:=h6 j u hj;refine⟨a,c,d,k1.agree hk,λi x hi=>?_⟩;rw[World.cell?_of_block (w:=w) (a:=⟨b,o+j * 8+i,none⟩) (hk b h4 h5)];exact k2 i x hi
theorem vb0.at {D:Nat→Prop} {w:World} {p:Option Addr} {n c:Nat} {l:List az} (h:vb0 D w (.slice p n c) l) {j:Nat} {u:az} (hj:l[j]? =some u):∃b o,p=some ⟨b,o,none⟩∧∃a c d,vao.ok D w ⟨u,a,c,d⟩∧w.rangeAt b (o+j * 8) (vas u a c d):=by
 obtain⟨p',c',e,_,h4⟩:=h
 injection e with e1 _ _
 subst e1
 rcases h4 with h4|⟨b,o,e,h5,h6,h7⟩
 · rw[h4] at hj
   simp at hj
 · exact⟨b,o,e,h7 j u hj⟩
theorem vbm:∀(L:List vao) (j:Nat) (x:vao),L[j]? =some x→∀(i:Nat) (v:Value),(vas x.u x.a x.c x.d)[i]? =some v→(vb5 L)[j * 8+i]? =some v
 | [],j,x,h,_,_,_=>by simp at h
 | y::L,0,x,h,i,v,hi=>by
  obtain rfl:y=x:=by simpa using h
  rw[Nat.zero_mul,Nat.zero_add]
  show(vas y.u y.a y.c y.d++vb5 L)[i]? =some v
  rw[List.getElem?_append_left (List.getElem?_eq_some_iff.1 hi).1];exact hi
 | y::L,j+1,x,h,i,v,hi=>by
  show(vas y.u y.a y.c y.d++vb5 L)[(j+1) * 8+i]? =some v
  have hl:(vas y.u y.a y.c y.d).length=8:=rfl;rw[List.getElem?_append_right (by omega),hl,show(j+1) * 8+i - 8=j * 8+i by omega];exact vbm L j x (by simpa using h) i v hi
theorem vbj.units {K:Nat} {w:World} {v:Value} {us:List vao} (h:vbj K w v us) (hl:us.length≤maxLen):vb0 (λb=>K≤b∧vat w b) w v (us.map (·.u)):=by
 have hn:(us.map (·.u)).length=us.length:=List.length_map ..
 obtain⟨p,c,hv⟩:=aJ h.1
 refine⟨p,c,by rw[hn];exact hv,by rw[hn];exact hl,?_⟩
 subst hv
 by_cases h0:us.length=0
 · left
   exact List.length_eq_zero_iff.1 (by rw[hn];exact h0)
 · right
   have hlt:=λg (hg:(Value.slice p us.length c).ownBlock=some g)=>h.1.lt g hg
   have hrb:=vat.own h.1 (by decide);obtain⟨g,rfl,hg⟩:=vco h.1 (by omega);refine⟨g,0,rfl,hrb g rfl,(hlt g rfl).2,λj u hj=>?_⟩;rw[List.getElem?_map] at hj;obtain⟨x,hx,rfl⟩:=Option.map_eq_some_iff.1 hj;refine⟨x.a,x.c,x.d,(h.2 x (List.mem_of_getElem? hx)).mono λb hb _=>⟨hb.1.2,hb.2⟩,λi z hi=>?_⟩;rw[Nat.zero_add];exact hg _ _ (vbm us j x hx i z hi)
theorem vct {R:Nat→Prop} {w W:World} {l:Loc} {L:bh} {j:Nat} (h:vai R w W l L j):
 Calls Tryz.prog 17 #[.pointer (some ⟨l.sb,0,none⟩)] W λe W'=>(∃v,e=.returned v∧vb0 (λb=>W.heap.size≤b∧vat W' b) W' v ((bZ L.units).map (van L.units)))∧Below W.heap.size W W':=by
 refine(vda h).mono ?_
 rintro e W' ⟨⟨v,us,rfl,ho,hm⟩,hb⟩
 refine⟨⟨v,rfl,?_⟩,hb⟩
 rw[←hm]
 refine ho.units ?_
 have e:=congrArg List.length hm
 rw[List.length_map,List.length_map] at e
 have:=h.inv.vkl
 unfold bZ at e
 rw[iP,List.length_map] at e
 unfold maxLen
 omega
theorem vcr {w:World} {b o:Nat} {u:az} {a c d:Value} (h:w.rangeAt b o (vas u a c d)):
 w.cell? ⟨b,o,none⟩=some (str u.name)∧w.cell? ⟨b,o+1,none⟩=some (.int .i64 (u.version:Int))∧w.cell? ⟨b,o+2,none⟩=some (str u.source)∧w.cell? ⟨b,o+3,none⟩=some (str u.aO)∧w.cell? ⟨b,o+4,none⟩=some a∧w.cell? ⟨b,o+5,none⟩=some (.bool u.built)∧w.cell? ⟨b,o+6,none⟩=some c∧w.cell? ⟨b,o+7,none⟩=some d:=
 ⟨h 0 _ rfl,h 1 _ rfl,h 2 _ rfl,h 3 _ rfl,h 4 _ rfl,h 5 _ rfl,h 6 _ rfl,h 7 _ rfl⟩
end
open Go
def Edge (us:List (List UInt8×az)) (x y:List UInt8):Prop:=∃u,aq us x=some u∧y∈u.uses∧(aq us y).isSome=true
inductive Reach (us:List (List UInt8×az)):List UInt8→List UInt8→Prop
 | refl (x:List UInt8):Reach us x x
 | step {x y z:List UInt8}:Edge us x y→Reach us y z→Reach us x z
section
variable {us:List (List UInt8×az)}
theorem Reach.trans {x y z:List UInt8} (h:Reach us x y) (k:Reach us y z):Reach us x z:=by
 induction h with
 | refl x=>exact k
 | step e _ ih=>exact .step e (ih k)
theorem Reach.key {x y:List UInt8} (h:Reach us x y) (hx:(aq us x).isSome=true):(aq us y).isSome=true:=by
 induction h with
 | refl x=>exact hx
 | step e _ ih=>exact ih e.choose_spec.2.2
theorem vbf : ∀ (f : Nat) (out : List (List UInt8)) (n : List UInt8), ∀ x ∈ cD us f out n, x ∈ out ∨ ((aq us n).isSome = true ∧ Reach us n x)
 | 0,_,_,_,h=>.inl h
 | f + 1, out, n, x, h => by
  unfold cD at h;split at h
  · exact .inl h
  · rename_i u hu
    split at h
    · exact .inl h
    · have key:∀(l:List (List UInt8)),(∀y∈l,y∈u.uses)→∀o:List (List UInt8),(∀z∈o,z∈out∨Reach us n z)→∀z∈l.foldl (cD us f) o,z∈out∨Reach us n z:=by
       intro l
       induction l with
       | nil=>exact λ_ o ho=>ho
       | cons a l ih=>
        intro hl o ho;refine ih (λy hy=>hl y (by simp[hy])) _ λz hz=>?_
        rcases vbf f o a z hz with h1|⟨h1,h2⟩
        · exact ho z h1
        · exact .inr (.step ⟨u,hu,hl a (by simp),h1⟩ h2)
      rcases key _ (λy hy=>hy) _ (λz hz=>by
       rcases List.mem_append.1 hz with hz|hz
       · exact .inl hz
       · rw[List.mem_singleton.1 hz]
         exact .inr (.refl n)) x h with h1|h1
      · exact .inl h1
      · exact .inr ⟨by rw[hu];rfl,h1⟩
theorem vbv {f:Nat} {out:List (List UInt8)} {n:List UInt8} (h:jY us out<f) (hn:(aq us n).isSome=true):n∈cD us f out n:=by
 obtain⟨u,hu⟩:=Option.isSome_iff_exists.1 hn
 cases f with
 | zero=>omega
 | succ f=>
  unfold cD;rw[hu];dsimp only;split
  · assumption
  · exact su us f _ _ n (by simp)
theorem vba : ∀ (f : Nat) (out : List (List UInt8)) (n : List UInt8), jY us out < f → ∀ x ∈ cD us f out n, x ∉ out → ∀ y, Edge us x y → y ∈ cD us f out n
 | 0,_,_,h,_,_,_,_,_=>by omega
 | f + 1, out, n, hf, x, hx, CK, y, hy => by
  unfold cD at hx ⊢;split at hx
  · exact absurd hx CK
  · rename_i u hu
    split at hx
    · exact absurd hx CK
    · rename_i hno
      rw[if_neg hno];have hr:jY us (out++[n])<f:=by
       have:=sX hno (by rw[hu];rfl);omega
      have key:∀(l:List (List UInt8)) (o:List (List UInt8)),jY us o<f→(∀y∈l,(aq us y).isSome=true→y∈l.foldl (cD us f) o)∧∀x∈l.foldl (cD us f) o,x∉o→∀y,Edge us x y→y∈l.foldl (cD us f) o:=by
       intro l
       induction l with
       | nil=>exact λo _=>⟨λy hy=>(List.not_mem_nil hy).elim,λx hx CK=>absurd hx CK⟩
       | cons a l ih=>
        intro o ho;have ho':jY us (cD us f o a)<f:=Nat.lt_of_le_of_lt (sY λx hx=>qW us f o a x hx) ho;obtain⟨h1,h2⟩:=ih _ ho';refine⟨λy hy hk=>?_,λx hx CK y hy=>?_⟩
        · rcases List.mem_cons.1 hy with rfl|hy
          · exact su us f l _ _ (vbv ho hk)
          · exact h1 y hy hk
        · by_cases hx':x∈cD us f o a
          · exact su us f l _ _ (vba f o a ho x hx' CK y hy)
          · exact h2 x hx hx' y hy
      obtain⟨k1,k2⟩:=key u.uses _ hr
      by_cases Gp:x=n
      · subst Gp
        obtain⟨u',vi6,vjb,vja⟩:=hy;rw[hu] at vi6;cases vi6;exact k1 y vjb vja
      · exact k2 x hx (λh=>by
         rcases List.mem_append.1 h with h|h
         · exact CK h
         · exact Gp (List.mem_singleton.1 h)) y hy
theorem vam {n x:List UInt8} (hn:(aq us n).isSome=true):x∈bS us n↔Reach us n x:=by
 have hr:jY us []<us.length+1:=by rw[qH];omega
 constructor
 · intro h
   rcases vbf _ _ _ x h with h|h
   · cases h
   · exact h.2
 · intro h
   have key:∀a b,Reach us a b→a∈bS us n→b∈bS us n:=λa b hab=>by
    induction hab with
    | refl a=>exact id
    | step e _ ih=>exact λha=>ih (vba _ [] n hr _ ha (by simp) _ e)
   exact key n x h (vbv hr hn)
theorem vah:∀{a b:List (List UInt8)},a.Nodup→(∀x∈a,x∈b)→a.length≤b.length
 | [],_,_,_=>Nat.zero_le _
 | x::a,b,h,hs=>by
  rw[List.nodup_cons] at h;have hx:=hs x (by simp);have:=vah (a:=a) (b:=b.erase x) h.2 λy hy=>by
   have hne:y≠x:=λe=>h.1 (e▸hy)
   exact(List.mem_erase_of_ne hne).2 (hs y (by simp[hy]))
  rw[List.length_erase_of_mem hx] at this;have hp:=List.length_pos_of_mem hx;rw[List.length_cons];omega
theorem vb8 (n:List UInt8):(bS us n).Nodup:=vb9 us _ [] n List.nodup_nil
theorem vcb {done:List (List UInt8)}:∀(m:Nat) (n:List UInt8),(bS us n).length≤m→(aq us n).isSome=true→n∉done→∃k∈bZ us,oe us done k=true
 | 0,n,hm,hn,_=>by
  have:=List.length_pos_of_mem ((vam hn).2 (.refl n));omega
 | m + 1, n, hm, hn, hd => by
  by_cases hr:uN us done n=true
  · refine⟨n,?_,?_⟩
    · unfold bZ
      rw[kJ];exact bJ.1 hn
    · unfold oe
      rw[hr,decide_eq_false hd]
      rfl
  · unfold uN at hr
    rw[List.all_eq_true] at hr;obtain⟨o,ho⟩:=Classical.not_forall.1 hr;obtain⟨hol,ho⟩:=Classical.not_imp.1 ho;unfold iy at hol;rw[kJ] at hol;simp only[Bool.or_eq_true,decide_eq_true_eq,not_or] at ho;have hok:=wM hol;refine vcb m o ?_ hok ho.2;have h1:(n::bS us o).length≤(bS us n).length:=vah (List.nodup_cons.2 ⟨ho.1,vb8 o⟩) λx hx=>by
     rcases List.mem_cons.1 hx with rfl|hx
     · exact(vam hn).2 (.refl _)
     · exact(vam hn).2 (((vam hn).1 hol).trans ((vam hok).1 hx))
    rw[List.length_cons] at h1;omega
theorem vag {n o:List UInt8} (hn:(aq us n).isSome=true):o∈nA us n↔Reach us n o∧Reach us o n:=by
 unfold nA iy
 rw[List.mem_filter,kJ,vam hn,decide_eq_true_iff]
 constructor
 · rintro⟨h1,h2⟩
   exact⟨h1,(vam (h1.key hn)).1 h2⟩
 · rintro⟨h1,h2⟩
   exact⟨h1,(vam (h1.key hn)).2 h2⟩
theorem vb2 (n:List UInt8):(nA us n).Nodup:=by
 unfold nA iy
 exact(vcc (vb8 n)).filter _
structure vbz (us:List (List UInt8×az)) (done:List (List UInt8)) (out:List (List (List UInt8))):Prop where
 nd:done.Nodup
 key:∀x∈done,(aq us x).isSome=true
 cl:∀x∈done,∀y,Reach us x y→y∈done
 mem:∀x,x∈done↔∃g∈out,x∈g
 vf9:∀g∈out,∃n,(aq us n).isSome=true∧g=nA us n
 dj:∀(i j:Nat) (g h:List (List UInt8)) (x:List UInt8),out[i]? =some g→out[j]? =some h→x∈g→x∈h→i=j
 vgd:∀(i:Nat) (g:List (List UInt8)),out[i]? =some g→∀x∈g,∀y,Edge us x y→y∈g∨∃(j:Nat) (h:List (List UInt8)),j<i∧out[j]? =some h∧y∈h
theorem vbz.new:vbz us [] []:=⟨List.nodup_nil,λ_ h=>(by cases h),λ_ h=>(by cases h),λx=>(by simp),λ_ h=>(by cases h),λi j g h x hi=>(by simp at hi),λi g hi=>(by simp at hi)⟩
theorem vbx {α:Type} {l:List α} {a x:α} {i:Nat} (h:(l++[a])[i]? =some x):l[i]? =some x∨i=l.length∧x=a:=by
 rw[List.getElem?_append] at h
 split at h
 · exact .inl h
 · rename_i hi
   rcases Nat.eq_or_lt_of_le (Nat.not_lt.1 hi) with e|e
   · rw[←e,Nat.sub_self] at h
     cases h;exact .inr ⟨e.symm,rfl⟩
   · rw[List.getElem?_eq_none (by simp;omega)] at h
     cases h
theorem vbz.next {done:List (List UInt8)} {out:List (List (List UInt8))} {n:List UInt8} (h:vbz us done out) (hn:n∈bZ us) (hg:oe us done n=true):vbz us ((nA us n).foldl fq done) (out++[nA us n])∧n∉done:=by
 have hk:(aq us n).isSome=true:=by
  unfold bZ at hn;rw[kJ] at hn;exact bJ.2 hn
 unfold oe uN iy at hg
 rw[Bool.and_eq_true,List.all_eq_true] at hg
 obtain⟨h1,h2⟩:=hg
 have hnd:n∉done:=by simpa using h1
 have hrd:∀o,Reach us n o→Reach us o n∨o∈done:=λo ho=>by
  have:=h2 o (by rw[kJ,vam hk];exact ho);rw[Bool.or_eq_true,decide_eq_true_iff,decide_eq_true_iff,vam (ho.key hk)] at this;exact this
 have vfs:∀x∈nA us n,x∉done:=λx hx hd=>hnd (h.cl x hd n ((vag hk).1 hx).2)
 have hm:∀x,x∈(nA us n).foldl fq done↔x∈done∨x∈nA us n:=λx=>sr x _ _
 refine⟨⟨oc _ _ h.nd,λx hx=>?_,λx hx y hy=>?_,λx=>?_,λg vix=>?_,λi j g g' x hi hj hx hx'=>?_,λi g hi x hx y hy=>?_⟩,hnd⟩
 · rcases(hm x).1 hx with hx|hx
   · exact h.key x hx
   · exact((vag hk).1 hx).1.key hk
 · rw[hm]
   rcases(hm x).1 hx with hx|hx
   · exact .inl (h.cl x hx y hy)
   · have hx2:=(vag hk).1 hx
     have vg0:=hx2.1.trans hy;rcases hrd y vg0 with e|e
     · exact .inr ((vag hk).2 ⟨vg0,e⟩)
     · exact .inl e
 · rw[hm,h.mem]
   simp only[List.mem_append,List.mem_singleton]
   constructor
   · rintro(⟨g,h3,h4⟩|h3)
     · exact⟨g,.inl h3,h4⟩
     · exact⟨_,.inr rfl,h3⟩
   · rintro⟨g,h3|rfl,h4⟩
     · exact .inl ⟨g,h3,h4⟩
     · exact .inr h4
 · rcases List.mem_append.1 vix with h3|h3
   · exact h.vf9 g h3
   · exact⟨n,hk,List.mem_singleton.1 h3⟩
 · have old:∀{k:Nat} {g:List (List UInt8)},out[k]? =some g→x∈g→x∈done:=λhq hx=>(h.mem x).2 ⟨_,List.mem_of_getElem? hq,hx⟩
   rcases vbx hi with hi|⟨rfl,rfl⟩<;>rcases vbx hj with hj|⟨rfl,rfl⟩
   · exact h.dj i j g g' x hi hj hx hx'
   · exact absurd (old hi hx) (vfs x hx')
   · exact absurd (old hj hx') (vfs x hx)
   · rfl
 · rcases vbx hi with hi|⟨rfl,rfl⟩
   · rcases h.vgd i g hi x hx y hy with e|⟨j,g',hj,e1,e2⟩
     · exact .inl e
     · exact .inr ⟨j,g',hj,by rw[List.getElem?_append_left (List.getElem?_eq_some_iff.1 e1).1];exact e1,e2⟩
   · have hx2:=(vag hk).1 hx
     have vg0:=hx2.1.trans (.step hy (.refl y));rcases hrd y vg0 with e|e
     · exact .inl ((vag hk).2 ⟨vg0,e⟩)
     · obtain⟨g',h3,h4⟩:=(h.mem y).1 e
       obtain⟨j,hj⟩:=List.getElem?_of_mem h3;have hjl:=(List.getElem?_eq_some_iff.1 hj).1;exact .inr ⟨j,g',hjl,by rw[List.getElem?_append_left hjl];exact hj,h4⟩
theorem vca (hnd:(us.map (·.1)).Nodup):∀(k:Nat) (done:List (List UInt8)) (out:List (List (List UInt8))),vbz us done out→us.length≤done.length+k→
 ∃G done',iz us k done out=some G∧vbz us done' G∧us.length≤done'.length
 | 0,done,out,h,hk=>⟨out,done,xh hk,h,hk⟩
 | k + 1, done, out, h, hk => by
  by_cases hd:us.length≤done.length
  · exact⟨out,done,xh hd,h,hd⟩
  · obtain⟨x,hx,Fz⟩:∃x∈us.map (·.1),x∉done:=Classical.byContradiction λhn=>hd (by
     have:=vah hnd (b:=done) λx hx=>Classical.byContradiction λe=>hn ⟨x,hx,e⟩
     rwa [List.length_map] at this)
    obtain⟨m,CH,hm2⟩:=vcb _ x zr (bJ.2 hx) Fz;obtain⟨n,hn⟩:=Option.isSome_iff_exists.1 (List.find?_isSome.2 ⟨m,CH,hm2⟩:((bZ us).find? (oe us done)).isSome=true);obtain⟨hi,hnn⟩:=h.next (List.mem_of_find?_eq_some hn) (List.find?_some hn)
    have hl:done.length+1≤((nA us n).foldl fq done).length:=by
     have hnm:n∈nA us n:=by
      have hkn:(aq us n).isSome=true:=by
       have:=List.mem_of_find?_eq_some hn;unfold bZ at this;rw[kJ] at this;exact bJ.2 this
      exact(vag hkn).2 ⟨.refl _,.refl _⟩
     have:=vah (a:=n::done) (b:=(nA us n).foldl fq done) (List.nodup_cons.2 ⟨hnn,h.nd⟩) λx hx=>by
      rcases List.mem_cons.1 hx with rfl|hx
      · exact(sr _ _ _).2 (.inr hnm)
      · exact(sr _ _ _).2 (.inl hx)
     rwa [List.length_cons] at this
    obtain⟨G,d',h1,h2,h3⟩:=vca hnd k _ _ hi (by omega);refine⟨G,d',?_,h2,h3⟩;unfold iz;rw[if_neg hd];simp only[hn];exact h1
end
theorem vbt {us:List (List UInt8×az)} {n:List UInt8}:n∈bZ us↔(aq us n).isSome=true:=by
 unfold bZ
 rw[kJ]
 exact bJ.symm
