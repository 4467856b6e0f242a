/-
  Lemmas: contract of arguslaw19: run. Conditions: bounds of lengths; the variable strings.asciiSpace.
-/
import Derived.Test.YtemjidmkolfgnaaGreatDoorSBn
import Derived.Test.YtemjidmkolfgnaaGreatDoorSM0
set_option maxHeartbeats 25600000
set_option maxRecDepth 8000
namespace Go.Proofs.YtemjidmkolfgnaaGreatDoor
section
open Go Go.RowKit
structure vbn where
 kd:Nat
 name:List UInt8
 src:List UInt8
 aO:List UInt8
 uses:List (List UInt8)
 n:Int
 vdt:Int
 code:List UInt8
 keep:List Int
structure vbb (D:Nat→Prop) (w:World) (va vb vc:Value) (x:vbn):Prop where
 a:SS D w va x.uses
 b:CV D w vb (aH x.code)
 c:CV D w vc (vbv x.keep)
 kd:x.kd<256
 le:x.name.length≤maxLen∧x.src.length≤maxLen∧x.aO.length≤maxLen
theorem vbb.agree {D:Nat→Prop} {w w':World} {va vb vc:Value} {x:vbn} (h:vbb D w va vb vc x) (hk:∀b,D b→b<w.heap.size→w'.heap[b]? =w.heap[b]?):vbb D w' va vb vc x:=⟨h.a.agree hk,h.b.agree hk,h.c.agree hk,h.kd,h.le⟩
def vbp (x:vbn) (va vb vc:Value):List Value:=[.int .u8 (x.kd:Int),str x.name,str x.src,str x.aO,va,.int .i64 x.n,.int .i64 x.vdt,vb,vc]
def vb0 (D:Nat→Prop) (w:World) (v:Value) (l:List vbn):Prop:=
 ∃p c,v=.slice p l.length c∧l.length≤c∧l.length≤maxLen∧(l=[]∨∃b o,p=some ⟨b,o,none⟩∧D b∧b<w.heap.size∧∀j x,l[j]? =some x→∃va vb vc,vbb D w va vb vc x∧w.rangeAt b (o+j * 9) (vbp x va vb vc))
theorem vb0.agree {D:Nat→Prop} {w w':World} {v:Value} {l:List vbn} (h:vb0 D w v l) (hk:∀b,D b→b<w.heap.size→w'.heap[b]? =w.heap[b]?):vb0 D w' v l:=by
 obtain⟨p,c,h1,h2,h3,h4⟩:=h
 refine⟨p,c,h1,h2,h3,?_⟩
 rcases h4 with h4|⟨b,o,e,h5,h6,h7⟩
 · exact .inl h4
 · refine .inr ⟨b,o,e,h5,wT (hk b h5 h6) h6,λj x hj=>?_⟩
   obtain⟨va,vb,vc,k1,k2⟩:=h7 j x hj;refine⟨va,vb,vc,k1.agree hk,λi u hi=>?_⟩;rw[World.cell?_of_block (w:=w) (a:=⟨b,o+j * 9+i,none⟩) (hk b h5 h6)];exact k2 i u hi
theorem vb0.at {D:Nat→Prop} {w:World} {p:Option Addr} {n c:Nat} {l:List vbn} (h:vb0 D w (.slice p n c) l) {j:Nat} {x:vbn} (hj:l[j]? =some x):∃b o,p=some ⟨b,o,none⟩∧∃va vb vc,vbb D w va vb vc x∧w.rangeAt b (o+j * 9) (vbp x va vb vc):=by
 obtain⟨p',c',e,_,_,h4⟩:=h
 injection e with e1 _ _
 subst e1
 rcases h4 with h4|⟨b,o,e,h5,h6,h7⟩
 · rw[h4] at hj
   simp at hj
 · exact⟨b,o,e,h7 j x hj⟩
theorem vbt {w:World} {b o:Nat} {x:vbn} {va vb vc:Value} (h:w.rangeAt b o (vbp x va vb vc)):
 w.cell? ⟨b,o,none⟩=some (.int .u8 (x.kd:Int))∧w.cell? ⟨b,o+1,none⟩=some (str x.name)∧w.cell? ⟨b,o+2,none⟩=some (str x.src)∧w.cell? ⟨b,o+3,none⟩=some (str x.aO)∧w.cell? ⟨b,o+4,none⟩=some va∧w.cell? ⟨b,o+5,none⟩=some (.int .i64 x.n)∧w.cell? ⟨b,o+6,none⟩=some (.int .i64 x.vdt)∧w.cell? ⟨b,o+7,none⟩=some vb∧w.cell? ⟨b,o+8,none⟩=some vc:=
 ⟨h 0 _ rfl,h 1 _ rfl,h 2 _ rfl,h 3 _ rfl,h 4 _ rfl,h 5 _ rfl,h 6 _ rfl,h 7 _ rfl,h 8 _ rfl⟩
theorem vc8 {w:World} {b:Nat} {a0 a1 a2 a3 a4 a5 a6 a7 a8:Value} {t:TypeId} (h:w.heap[b]? =some (.cells #[a0,a1,a2,a3,a4,a5,a6,a7,a8] t (0,0))):
 w.cell? ⟨b,0,none⟩=some a0∧w.cell? ⟨b,1,none⟩=some a1∧w.cell? ⟨b,2,none⟩=some a2∧w.cell? ⟨b,3,none⟩=some a3∧w.cell? ⟨b,4,none⟩=some a4∧w.cell? ⟨b,5,none⟩=some a5∧w.cell? ⟨b,6,none⟩=some a6∧w.cell? ⟨b,7,none⟩=some a7∧w.cell? ⟨b,8,none⟩=some a8:=
 ⟨(af h 0).trans rfl,(af h 1).trans rfl,(af h 2).trans rfl,(af h 3).trans rfl,(af h 4).trans rfl,(af h 5).trans rfl,(af h 6).trans rfl,(af h 7).trans rfl,(af h 8).trans rfl⟩
structure vba (x:vbn):Prop where
 vco:vdg x.name x.src x.aO x.uses
 code:x.code.length≤3010
 keep:x.keep.length≤200
def vc4 (L:bh) (x:vbn):bh:=
 if x.kd % 10<3 then(if jg L x.name x.src x.aO x.uses=0 then ep L x.name x.src x.aO (aU 44 x.uses) else L)
 else if x.kd % 10=3 then(if vJ L x.name=0 then o8 L x.name else L)
 else if x.kd % 10<7 then vaz L x.name x.code else L
def ven (l:List vbn):bh:=l.foldl vc4 .new
theorem vcz (l:List vbn) (v:Value) (w:World) (hv:vb0 (λb=>b<w.heap.size) w v l) (hok:∀x∈l,vba x) (hl:l.length≤30) (ht:gx w) (hm:fe w) (hp:0<w.heap.size):
 Calls Tryz.prog 13 #[v] w λe W'=>∃lo:Loc,e=.returned (.tuple #[.pointer (some ⟨lo.a,0,none⟩),.pointer (some ⟨lo.sb,0,none⟩),.bool true])∧vbx w W' lo (ven l) 30:=by
 have MT:=hv
 obtain⟨p,c,rfl,_,_,_⟩:=hv
 have HN:=wY 30000 (by decide) w
 go_enter Tryz.func13,Tryz.ntmps13
 go_upto_region 4 with(go_at_call 31;refine HN.mono ?_;clear HN;rintro e w1 ⟨⟨a,b1,b2,rfl,hD⟩,aP⟩)
 have HO:=EK (λb=>w.heap.size≤b) w1 hD (S:=oZ 30000) rfl rfl
 go_upto_region 7 with(go_at_call 35;refine HO.mono ?_;clear HO;rintro e w2 ⟨⟨sb,lg,ds,rfl,hh,hL,hG,h1,h2⟩,bO⟩)
 have T3:=vbx.new ht hm hp hD aP hh hL hG h1 h2 bO
 obtain⟨lo,hlo⟩:∃l:Loc,(⟨sb,w1.heap.size,w1.heap.size+1,lg,a,b1,b2,30000⟩:Loc)=l:=⟨_,rfl⟩
 obtain⟨hsb,vh2⟩:sb=lo.sb∧a=lo.a:=by rw[←hlo];exact⟨rfl,rfl⟩
 rw[hlo] at T3
 subst hsb vh2
 clear hD aP hh hL hG h1 h2 bO hlo
 generalize vbu:l.length=NL at *
 replace vbu:=zh vbu
 replace hok:=zh hok
 go_upto_region 8 with fail
 go_loopw [35] (λy wx=>∃i:Nat,i≤NL∧y=.int .i64 i∧vbx w wx lo ((l.take i).foldl vc4 .new) i) (λy _=>NL - (intOf y).toNat)
 case atStart=>exact⟨0,Nat.zero_le _,by go_num,T3⟩
 case round=>
  obtain⟨i,hi,rfl,hR⟩:=hrel;clear T3
  by_cases hlt:i<NL
  case neg=>
   obtain rfl:i=NL:=by omega
   go_wp2_with fail;refine bodyPost_ret (v:=.tuple #[.pointer (some ⟨lo.a,0,none⟩),.pointer (some ⟨lo.sb,0,none⟩),.bool true]) (by simp[results,Tryz.results13,go_sem]) rfl ⟨lo,rfl,?_⟩;rw[List.take_of_length_le (Nat.le_of_eq vbu.out)] at hR;exact hR.mono hl
  case pos =>
   obtain⟨x,hx⟩:∃x,l[i]? =some x:=⟨_,List.getElem?_eq_getElem (by rw[vbu.out];exact hlt)⟩
   obtain⟨b,o,rfl,va,vb,vc,QB,xU⟩:=(MT.agree (w':=wr) λb hb _=>hR.cV.block b hb).at hx;obtain⟨pa,ca,rfl,_⟩:=QB.a.shape;obtain⟨pb,cb,rfl,_⟩:=QB.b.shape;obtain⟨pc,cc,rfl,_⟩:=QB.c.shape;have c9:=vbt xU;have CK:=hok.out x (List.mem_of_getElem? hx);have hil:(i:Int)<(NL:Int):=by omega
   have hst:(l.take (i+1)).foldl vc4 .new=vc4 ((l.take i).foldl vc4 .new) x:=by
    rw[List.take_add_one,hx,List.foldl_append]
    rfl
   replace hst:=zh hst
   clear xU;go_upto_region 10 with fail;generalize vbm:World.alloc _ _=W2;have bO:Below wr.heap.size wr W2:=by rw[←vbm];exact(zb wr).alloc zr _
   have Fu:W2.heap[wr.heap.size]? =some (.cells #[.int .u8 (x.kd:Int),.string ⟨x.name.toArray⟩,.string ⟨x.src.toArray⟩,.string ⟨x.aO.toArray⟩,.slice pa x.uses.length ca,.int .i64 x.n,.int .i64 x.vdt,.slice pb (aH x.code).length cb,.slice pc (vbv x.keep).length cc] 46 (0,0)):=by rw[←vbm];exact heap_alloc_new wr _
   clear vbm c9;have b9:=vc8 Fu;have LZ:=hR.below bO;have vgg:=QB.a.below bO zr;have vgh:=QB.b.below bO zr;obtain⟨r,hr⟩:∃r,x.kd % 10=r:=⟨_,rfl⟩
   have vha:(x.kd:Int) % 10=(r:Int):=by omega
   have hk1:(i:Int)+1≤9223372036854775807:=by omega
   have hop:vc4 ((l.take i).foldl vc4 .new) x=if r<3 then(if jg ((l.take i).foldl vc4 .new) x.name x.src x.aO x.uses=0 then ep ((l.take i).foldl vc4 .new) x.name x.src x.aO (aU 44 x.uses) else(l.take i).foldl vc4 .new) else if r=3 then(if vJ ((l.take i).foldl vc4 .new) x.name=0 then o8 ((l.take i).foldl vc4 .new) x.name else(l.take i).foldl vc4 .new) else if r<7 then vaz ((l.take i).foldl vc4 .new) x.name x.code else(l.take i).foldl vc4 .new:=by
    unfold vc4;rw[hr]
   replace hop:=zh hop
   generalize (l.take i).foldl vc4 .new=L at *;have HP:=LZ.put (by omega) x.name x.src x.aO x.uses _ vgg CK.vco;have HD:=LZ.drop (by omega) x.name CK.vco.ln;have HB:=vci LZ (by omega) x.name x.code CK.vco.ln _ vgh CK.code
   replace hr:=zh hr
   clear Fu hR QB vgg vgh
   by_cases h3:r<3
   · have g1:(r:Int)<3:=by omega
     clear HD HB;go_wp2_with (go_at_call 21;refine HP.mono ?_;clear HP;rintro e w5 ⟨he,NS⟩;obtain⟨v1,v2,rfl⟩:∃v1 v2,e=.returned (.tuple #[v1,v2]):=⟨_,_,he⟩;clear he);exact⟨⟨i+1,hlt,by go_num,by rw[hst.out,hop.out,if_pos h3];exact NS⟩,by simp only[intOf];omega⟩
   · have g1:¬(r:Int)<3:=by omega
     clear HP
     by_cases h4:r=3
     · subst h4
       clear HB;go_wp2_with (go_at_call 28;refine HD.mono ?_;clear HD;rintro e w5 ⟨he,NS⟩;obtain⟨v1,rfl⟩:∃v1,e=.returned v1:=⟨_,he⟩;clear he);exact⟨⟨i+1,hlt,by go_num,by rw[hst.out,hop.out,if_neg h3,if_pos trivial];exact NS⟩,by simp only[intOf];omega⟩
     · have g2:((r:Int)==3)=false:=by simp;omega
       clear HD
       by_cases h7:r<7
       · have g3:(r:Int)<7:=by omega
         go_wp2_with (go_at_call 22;refine HB.mono ?_;clear HB;rintro e w5 ⟨he,NS⟩;obtain⟨v1,rfl⟩:∃v1,e=.returned v1:=⟨_,he⟩;clear he);exact⟨⟨i+1,hlt,by go_num,by rw[hst.out,hop.out,if_neg h3,if_neg h4,if_pos h7];exact NS⟩,by simp only[intOf];omega⟩
       · have g3:¬(r:Int)<7:=by omega
         clear HB;go_wp2_with fail;exact⟨⟨i+1,hlt,by go_num,by rw[hst.out,hop.out,if_neg h3,if_neg h4,if_neg h7];exact LZ.mono (Nat.le_succ i)⟩,by simp only[intOf];omega⟩
def vd3 (l:List vbn) (e:Ending):Prop:=∃q:Bool,e=.returned (.bool q)∧(q=true→(∀x∈l,vba x)∧l.length≤30)
theorem vbj (l : List vbn) (v : Value) (w : World) (hv : vb0 (fun b => b < w.heap.size) w v l) :
 Calls Tryz.prog 11 #[v] w λe w'=>vd3 l e∧Below w.heap.size w w':=by
 have MT:=hv
 obtain⟨p,c,rfl,_,hlm,_⟩:=hv
 go_enter Tryz.func11,Tryz.ntmps11
 go_upto_region 2 with fail
 generalize vbu:l.length=NL at *
 replace vbu:=zh vbu
 go_loopw [9] (λy wx=>∃i:Nat,i≤NL∧y=.int .i64 i∧(∀k x,k<i→l[k]? =some x→vba x)∧Below w.heap.size w wx) (λy _=>NL - (intOf y).toNat)
 case atStart=>exact⟨0,Nat.zero_le _,by go_num,λk x h=>absurd h (Nat.not_lt_zero _),zb _⟩
 case round =>
  obtain⟨i,hi,rfl,hex,gN⟩:=hrel
  by_cases hlt:i<NL
  case neg=>
   obtain rfl:i=NL:=by omega
   replace hex:=zh hex
   by_cases Ra:i≤30
   · have g1:(i:Int)≤30:=by omega
     go_wp2_with fail;go_ret;refine⟨⟨true,rfl,λ_=>⟨λx hx=>?_,by rw[vbu.out];exact Ra⟩⟩,gN⟩;obtain⟨k,hk⟩:=List.getElem?_of_mem hx;exact hex.out k x (by rw[←vbu.out];exact(List.getElem?_eq_some_iff.1 hk).1) hk
   · have g1:¬(i:Int)≤30:=by omega
     go_wp2_with fail;go_ret;exact⟨⟨false,rfl,λh=>by cases h⟩,gN⟩
  case pos =>
   obtain⟨x,hx⟩:∃x,l[i]? =some x:=⟨_,List.getElem?_eq_getElem (by rw[vbu.out];exact hlt)⟩
   obtain⟨b,o,rfl,va,vb,vc,QB,xU⟩:=(MT.agree (w':=wr) λb hb _=>gN.block b hb).at hx;obtain⟨pa,ca,rfl,_⟩:=QB.a.shape;obtain⟨pb,cb,rfl,_⟩:=QB.b.shape;obtain⟨pc,cc,rfl,_⟩:=QB.c.shape;have c9:=vbt xU;have hil:(i:Int)<(NL:Int):=by omega
   have hcl:(aH x.code).length=x.code.length:=ak _;have sA:(vbv x.keep).length=x.keep.length:=by simp[vbv]
   rw[hcl] at c9;rw[sA] at c9
   replace hex:=zh hex
   have vg2:=QB.a;clear xU hcl sA QB;generalize vgt:x.name.length=vhn at *;generalize oN:x.src.length=vho at *;generalize vgr:x.aO.length=vhm at *;generalize vex:x.uses.length=vhp at *;generalize vgq:x.code.length=vhl at *;generalize vgs:x.keep.length=Lk at *;go_upto_region 4 with fail;generalize vbm:World.alloc _ _=W2;have bO:Below wr.heap.size wr W2:=by rw[←vbm];exact(zb wr).alloc zr _
   have Fu:W2.heap[wr.heap.size]? =some (.cells #[.int .u8 (x.kd:Int),.string ⟨x.name.toArray⟩,.string ⟨x.src.toArray⟩,.string ⟨x.aO.toArray⟩,.slice pa vhp ca,.int .i64 x.n,.int .i64 x.vdt,.slice pb vhl cb,.slice pc Lk cc] 46 (0,0)):=by rw[←vbm];exact heap_alloc_new wr _
   clear vbm c9;have b9:=vc8 Fu
   go_cut [82] from 13 to 83 (λq wx=>∃ok:Bool,q=.bool ok∧wx=W2∧(ok=false→vhn≤40∧vho≤3010∧vhm≤3010∧vhp≤22∧vhl≤3010∧Lk≤200))
   case first =>
    by_cases n0:(40:Int)<(vhn:Int)
    · skip
      go_wp2_with fail
      go_meet
      case rel=>exact⟨true,rfl,rfl,λh=>by cases h⟩
    · skip
      by_cases s0:(300:Int)<(vho:Int)
      · by_cases s1 : (vho : Int) ≤ 3000
        · skip
          go_wp2_with fail
          go_meet
          case rel=>exact⟨true,rfl,rfl,λh=>by cases h⟩
        · by_cases s2 : (3010 : Int) < (vho : Int)
          · skip
            go_wp2_with fail
            go_meet
            case rel=>exact⟨true,rfl,rfl,λh=>by cases h⟩
          · skip
            by_cases f0:(300:Int)<(vhm:Int)
            · by_cases f1 : (vhm : Int) ≤ 3000
              · skip
                go_wp2_with fail
                go_meet
                case rel=>exact⟨true,rfl,rfl,λh=>by cases h⟩
              · by_cases f2 : (3010 : Int) < (vhm : Int)
                · skip
                  go_wp2_with fail
                  go_meet
                  case rel=>exact⟨true,rfl,rfl,λh=>by cases h⟩
                · skip
                  by_cases vih:(22:Int)<(vhp:Int)
                  · skip
                    go_wp2_with fail
                    go_meet
                    case rel=>exact⟨true,rfl,rfl,λh=>by cases h⟩
                  · skip
                    by_cases c0:(300:Int)<(vhl:Int)
                    · by_cases c1:(vhl:Int)≤3000
                      · skip
                        go_wp2_with fail
                        go_meet
                        case rel=>exact⟨true,rfl,rfl,λh=>by cases h⟩
                      · by_cases c2:(3010:Int)<(vhl:Int)
                        · skip
                          go_wp2_with fail
                          go_meet
                          case rel=>exact⟨true,rfl,rfl,λh=>by cases h⟩
                        · skip
                          by_cases k0:(200:Int)<(Lk:Int)
                          · skip
                            go_wp2_with fail
                            go_meet
                            case rel=>exact⟨true,rfl,rfl,λh=>by cases h⟩
                          · skip
                            go_wp2_with fail
                            go_meet
                            case rel=>exact⟨false,rfl,rfl,λ_=>⟨by omega,by omega,by omega,by omega,by omega,by omega⟩⟩
                    · have c2:¬(3010:Int)<(vhl:Int):=by omega
                      by_cases k0:(200:Int)<(Lk:Int)
                      · skip
                        go_wp2_with fail
                        go_meet
                        case rel=>exact⟨true,rfl,rfl,λh=>by cases h⟩
                      · skip
                        go_wp2_with fail
                        go_meet
                        case rel=>exact⟨false,rfl,rfl,λ_=>⟨by omega,by omega,by omega,by omega,by omega,by omega⟩⟩
            · have f2 : ¬ (3010 : Int) < (vhm : Int) := by omega
              by_cases vih:(22:Int)<(vhp:Int)
              · skip
                go_wp2_with fail
                go_meet
                case rel=>exact⟨true,rfl,rfl,λh=>by cases h⟩
              · skip
                by_cases c0:(300:Int)<(vhl:Int)
                · by_cases c1:(vhl:Int)≤3000
                  · skip
                    go_wp2_with fail
                    go_meet
                    case rel=>exact⟨true,rfl,rfl,λh=>by cases h⟩
                  · by_cases c2:(3010:Int)<(vhl:Int)
                    · skip
                      go_wp2_with fail
                      go_meet
                      case rel=>exact⟨true,rfl,rfl,λh=>by cases h⟩
                    · skip
                      by_cases k0:(200:Int)<(Lk:Int)
                      · skip
                        go_wp2_with fail
                        go_meet
                        case rel=>exact⟨true,rfl,rfl,λh=>by cases h⟩
                      · skip
                        go_wp2_with fail
                        go_meet
                        case rel=>exact⟨false,rfl,rfl,λ_=>⟨by omega,by omega,by omega,by omega,by omega,by omega⟩⟩
                · have c2:¬(3010:Int)<(vhl:Int):=by omega
                  by_cases k0:(200:Int)<(Lk:Int)
                  · skip
                    go_wp2_with fail
                    go_meet
                    case rel=>exact⟨true,rfl,rfl,λh=>by cases h⟩
                  · skip
                    go_wp2_with fail
                    go_meet
                    case rel=>exact⟨false,rfl,rfl,λ_=>⟨by omega,by omega,by omega,by omega,by omega,by omega⟩⟩
      · have s2 : ¬ (3010 : Int) < (vho : Int) := by omega
        by_cases f0:(300:Int)<(vhm:Int)
        · by_cases f1 : (vhm : Int) ≤ 3000
          · skip
            go_wp2_with fail
            go_meet
            case rel=>exact⟨true,rfl,rfl,λh=>by cases h⟩
          · by_cases f2 : (3010 : Int) < (vhm : Int)
            · skip
              go_wp2_with fail
              go_meet
              case rel=>exact⟨true,rfl,rfl,λh=>by cases h⟩
            · skip
              by_cases vih:(22:Int)<(vhp:Int)
              · skip
                go_wp2_with fail
                go_meet
                case rel=>exact⟨true,rfl,rfl,λh=>by cases h⟩
              · skip
                by_cases c0:(300:Int)<(vhl:Int)
                · by_cases c1:(vhl:Int)≤3000
                  · skip
                    go_wp2_with fail
                    go_meet
                    case rel=>exact⟨true,rfl,rfl,λh=>by cases h⟩
                  · by_cases c2:(3010:Int)<(vhl:Int)
                    · skip
                      go_wp2_with fail
                      go_meet
                      case rel=>exact⟨true,rfl,rfl,λh=>by cases h⟩
                    · skip
                      by_cases k0:(200:Int)<(Lk:Int)
                      · skip
                        go_wp2_with fail
                        go_meet
                        case rel=>exact⟨true,rfl,rfl,λh=>by cases h⟩
                      · skip
                        go_wp2_with fail
                        go_meet
                        case rel=>exact⟨false,rfl,rfl,λ_=>⟨by omega,by omega,by omega,by omega,by omega,by omega⟩⟩
                · have c2:¬(3010:Int)<(vhl:Int):=by omega
                  by_cases k0:(200:Int)<(Lk:Int)
                  · skip
                    go_wp2_with fail
                    go_meet
                    case rel=>exact⟨true,rfl,rfl,λh=>by cases h⟩
                  · skip
                    go_wp2_with fail
                    go_meet
                    case rel=>exact⟨false,rfl,rfl,λ_=>⟨by omega,by omega,by omega,by omega,by omega,by omega⟩⟩
        · have f2 : ¬ (3010 : Int) < (vhm : Int) := by omega
          by_cases vih:(22:Int)<(vhp:Int)
          · skip
            go_wp2_with fail
            go_meet
            case rel=>exact⟨true,rfl,rfl,λh=>by cases h⟩
          · skip
            by_cases c0:(300:Int)<(vhl:Int)
            · by_cases c1:(vhl:Int)≤3000
              · skip
                go_wp2_with fail
                go_meet
                case rel=>exact⟨true,rfl,rfl,λh=>by cases h⟩
              · by_cases c2:(3010:Int)<(vhl:Int)
                · skip
                  go_wp2_with fail
                  go_meet
                  case rel=>exact⟨true,rfl,rfl,λh=>by cases h⟩
                · skip
                  by_cases k0:(200:Int)<(Lk:Int)
                  · skip
                    go_wp2_with fail
                    go_meet
                    case rel=>exact⟨true,rfl,rfl,λh=>by cases h⟩
                  · skip
                    go_wp2_with fail
                    go_meet
                    case rel=>exact⟨false,rfl,rfl,λ_=>⟨by omega,by omega,by omega,by omega,by omega,by omega⟩⟩
            · have c2:¬(3010:Int)<(vhl:Int):=by omega
              by_cases k0:(200:Int)<(Lk:Int)
              · skip
                go_wp2_with fail
                go_meet
                case rel=>exact⟨true,rfl,rfl,λh=>by cases h⟩
              · skip
                go_wp2_with fail
                go_meet
                case rel=>exact⟨false,rfl,rfl,λ_=>⟨by omega,by omega,by omega,by omega,by omega,by omega⟩⟩
   case rest =>
    obtain⟨ok,rfl,vfn,hbd⟩:=hcut;have vfn:=vfn.symm;subst vfn;have vdn:=gN.trans (aa bO gN.size);rcases ok with _|_
    · obtain ⟨k1, k2, k3, k4, k5, k6⟩ := hbd rfl
      have NT:=vg2.below bO zr;clear hbd vg2 Fu bO;go_upto_region 7 with fail;go_loopw [86] (λy wx=>∃m:Nat,m≤vhp∧y=.int .i64 m∧wx=W2∧∀k u,k<m→x.uses[k]? =some u→u.length≤40) (λy _=>vhp - (intOf y).toNat)
      case atStart=>exact⟨0,Nat.zero_le _,by go_num,rfl,λk u h=>absurd h (Nat.not_lt_zero _)⟩
      case round =>
       rename_i vim
       obtain⟨m,CH,rfl,vfm,vde⟩:=hrel;have vfm:=vfm.symm;subst vfm
       by_cases hml:m<vhp
       case neg=>
        obtain rfl:m=vhp:=by omega
        have hok:vba x:=⟨⟨by rw[vgt];exact k1,by rw[oN];exact k2,by rw[vgr];exact k3,by rw[vex];exact k4,λu hu=>by
         obtain⟨k,hk⟩:=List.getElem?_of_mem hu;exact vde k u (by rw[←vex];exact(List.getElem?_eq_some_iff.1 hk).1) hk⟩,by rw[vgq];exact k5,by rw[vgs];exact k6⟩
        have vfc:=zh (show ∀k y,k<i+1→l[k]? =some y→vba y from λk y hk hy=>by
         rcases Nat.lt_succ_iff_lt_or_eq.1 hk with h|rfl
         · exact hex.out k y h hy
         · rw[hx] at hy
           cases hy;exact hok)
        clear vde hok hex;have hk1:(i:Int)+1≤9223372036854775807:=by unfold maxLen at hlm;omega
        go_wp2_with fail;exact⟨⟨i+1,hlt,by go_num,vfc.out,vdn⟩,by simp only[intOf];omega⟩
       case pos=>
        obtain⟨u,hu⟩:∃u,x.uses[m]? =some u:=⟨_,List.getElem?_eq_getElem (by rw[vex];exact hml)⟩
        obtain⟨vhb,vhc,rfl,_,d0⟩:=NT.at hu;have vh7:(m:Int)<(vhp:Int):=by omega
        by_cases NC:u.length≤40
        · have g1:¬(40:Int)<(u.length:Int):=by omega
          have vfk:=zh (show ∀k y,k<m+1→x.uses[k]? =some y→y.length≤40 from λk y hk hy=>by
           rcases Nat.lt_succ_iff_lt_or_eq.1 hk with h|rfl
           · exact vde k y h hy
           · rw[hu] at hy
             cases hy;exact NC)
          clear vde;have hk1:(m:Int)+1≤9223372036854775807:=by omega
          go_wp2_with fail;exact⟨⟨m+1,hml,by go_num,trivial,vfk.out⟩,by simp only[intOf];omega⟩
        · have g1:(40:Int)<(u.length:Int):=by omega
          clear vde;go_wp2_with fail;go_ret;exact⟨⟨false,rfl,λh=>by cases h⟩,vdn⟩
    · clear hbd
      go_wp2_with fail;go_ret;exact⟨⟨false,rfl,λh=>by cases h⟩,vdn⟩
def vap (u:az) (a c d:Value):List Value:=[str u.name,.int .i64 (u.version:Int),str u.source,str u.aO,a,.bool u.built,c,d]
structure vao where
 u:az
 a:Value
 c:Value
 d:Value
structure vao.ok (D:Nat→Prop) (w:World) (x:vao):Prop where
 le:x.u.le
 a:SS D w x.a x.u.uses
 c:CV D w x.c (aH x.u.code)
 d:ck D w x.d x.u.used
theorem vao.ok.agree {D:Nat→Prop} {w w':World} {x:vao} (h:x.ok D w) (hk:∀b,D b→b<w.heap.size→w'.heap[b]? =w.heap[b]?):x.ok D w':=⟨h.le,h.a.agree hk,h.c.agree hk,h.d.agree hk⟩
theorem vao.ok.below {D:Nat→Prop} {w w':World} {x:vao} {K:Nat} (h:x.ok D w) (hb:Below K w w') (hK:w.heap.size≤K):x.ok D w':=h.agree λb _ hl=>hb.block b (by omega)
theorem ck.fresh {D:Nat→Prop} {w:World} {v:Value} {l:List (List UInt8×List UInt8)} (h:ck D w v l):ck (λb=>D b∧b<w.heap.size) w v l:=by
 obtain⟨p,c,h1,h2,h3,hl,h4⟩:=h
 refine⟨p,c,h1,h2,h3,hl,?_⟩
 rcases h4 with h4|⟨b,o,e1,h5,h6,h7⟩
 · exact .inl h4
 · exact .inr ⟨b,o,e1,⟨h5,h6⟩,h6,h7⟩
theorem vao.ok.mono {D D':Nat→Prop} {w:World} {x:vao} (h:x.ok D w) (hD:∀b,D b→b<w.heap.size→D' b):x.ok D' w:=
 ⟨h.le,h.a.fresh.mono λb hb=>hD b hb.1 hb.2,h.c.fresh.mono λb hb=>hD b hb.1 hb.2,h.d.fresh.mono λb hb=>hD b hb.1 hb.2⟩
def vaw (L:List vao):List Value:=L.flatMap λx=>vap x.u x.a x.c x.d
def vb4 (K:Nat) (w:World) (v:Value) (L:List vao):Prop:=w.ownsRow K 41 8 v L.length (vaw L)∧∀x∈L,x.ok (λb=>(v.ownBlock≠some b∧K≤b)∧vai w b) w
theorem vb4.below {K K':Nat} {w w':World} {v:Value} {L:List vao} (h:vb4 K w v L) (hb:Below K' w w') (hK:w.heap.size≤K'):vb4 K w' v L:=⟨aT h.1 hb hK,λx hx=>((h.2 x hx).mono λb hbb hl=>⟨hbb.1,hbb.2.keep (hb.block b (Nat.lt_of_lt_of_le hl hK))⟩).below hb hK⟩
theorem vbh:(Tryz.prog.info? 41).map (λi=>(i.zero,i.size,i.bytes))=some (some (.agg #[str [],.int .i64 0,str [],str [],.slice none 0 0,.bool false,.slice none 0 0,.slice none 0 0]),8,136):=by kernel_rfl
theorem vcq {R:Nat→Prop} {w W:World} {l:Loc} {L:bh} {j:Nat} (h:vah R w W l L j):
 Calls Tryz.prog 17 #[.pointer (some ⟨l.sb,0,none⟩)] W λe W'=>(∃v us,e=.returned v∧vb4 W.heap.size W' v us∧us.map (·.u)=(bZ L.units).map (vam L.units))∧Below W.heap.size W W':=by
 have HN:=zy W h.read
 have hnm:=h.names
 go_enter Tryz.func17,Tryz.ntmps17
 go_upto_region 3 with(go_at_call 16;refine HN.mono ?_;clear HN;rintro e w1 ⟨nv,rfl,JC,aP⟩;obtain⟨np,nc,rfl⟩:=aJ JC)
 have vd7:∀s∈bZ L.units,s.length≤maxLen:=λs hs=>by have:=(hnm s hs).2;unfold maxLen;omega
 have vgw:=SS.row JC rfl vd7
 have h1:=h.below aP
 have hnl:(bZ L.units).length≤20:=by
  unfold bZ;rw[iP,List.length_map];exact h.inv.vi4
 clear JC
 generalize hNs:bZ L.units=vhw at *
 generalize vbu:vhw.length=NL at *
 replace vbu:=zh vbu
 replace hNs:=zh hNs
 replace hnm:=zh hnm
 replace vd7:=zh vd7
 have Rx:W.heap.size≤w1.heap.size:=aP.size
 go_loopw [3,11] (λuv y wx=>∃(i:Nat) (us:List vao),i≤NL∧y=.int .i64 i∧us.length=i∧us.map (·.u)=(vhw.take i).map (vam L.units)∧vb4 w1.heap.size wx uv us∧Below w1.heap.size w1 wx) (λ_ y _=>NL - (intOf y).toNat)
 case atStart=>exact⟨0,[],Nat.zero_le _,by go_num,rfl,by simp,⟨World.ownsRow_nil _ _ _ _,λx hx=>by cases hx⟩,zb _⟩
 case round =>
  obtain⟨i,us,hi1,rfl,CJ,N4,hown,gN⟩:=hrel;obtain⟨qv,vi8,vfh⟩:=aJ hown.1;subst vfh
  by_cases hlt:i<NL
  case pos =>
   obtain⟨x,hx⟩:∃x,vhw[i]? =some x:=⟨_,List.getElem?_eq_getElem (by rw[vbu.out];exact hlt)⟩
   obtain⟨pb,po,rfl,_,d0⟩:=(vgw.below gN zr).at hx;have h3:=h1.below gN;have HX:=h3.vdf x (vd7.out x (List.mem_of_getElem? hx));have hil:(i:Int)<(NL:Int):=by omega
   have vde:vax L.units x=0:=by unfold vax;rw[(hnm.out x (List.mem_of_getElem? hx)).1];rfl
   rw[vde] at HX;have vbg:us.map (·.u)++[vam L.units x]=(vhw.take (i+1)).map (vam L.units):=by
    rw[List.take_add_one,hx,N4];simp
   replace vbg:=zh vbg
   generalize vf6:vam L.units x=X0 at HX
   replace vf6:=zh vf6
   obtain⟨i0,kN,hz0,hz1,hz2⟩:=aV vbh;clear vde N4;go_upto_region 6 with(go_at_call 27;refine HX.mono ?_;clear HX;rintro e w5 ⟨⟨uv,rfl,va,vc,vd,rfl,vcx,vc0,vc2,vc3⟩,oo⟩;obtain⟨s1,s2,rfl,_⟩:=vc0.shape;obtain⟨s3,s4,rfl,_⟩:=vc2.shape;obtain⟨vie,vif,rfl,_⟩:=vc3.shape);generalize Hw:World.alloc _ _=W6;have rE:Below w5.heap.size w5 W6:=by rw[←Hw];exact(zb w5).alloc zr _
   have vd2:W6.heap[w5.heap.size]? =some (.cells #[.string ⟨X0.name.toArray⟩,.int .i64 (X0.version:Int),.string ⟨X0.source.toArray⟩,.string ⟨X0.aO.toArray⟩,.slice s1 X0.uses.length s2,.bool X0.built,.slice s3 (aH X0.code).length s4,.slice vie X0.used.length vif] 41 (0,0)):=by rw[←Hw];exact heap_alloc_new w5 _
   clear Hw;have b6:=(van vd2).1;have vcl:=oo.trans (aa rE oo.size);have vbe:=gN.trans (aa vcl gN.size);have vb7:=hown.below vcl zr;have vef:∀b,(Value.slice qv i vi8).ownBlock=some b→w1.heap.size≤b∧b<wr.heap.size:=λb hb=>hown.1.lt b (by rw[CJ];exact hb)
   have hnew:vao.ok (λb=>((Value.slice qv i vi8).ownBlock≠some b∧w1.heap.size≤b)∧vai W6 b) W6 ⟨X0,.slice s1 X0.uses.length s2,.slice s3 (aH X0.code).length s4,.slice vie X0.used.length vif⟩:=by
    have hD:∀b,wr.heap.size≤b∧vai w5 b→((Value.slice qv i vi8).ownBlock≠some b∧w1.heap.size≤b)∧vai W6 b:=λb hb=>⟨⟨λe=>by have:=(vef b e).2;omega,Nat.le_trans gN.size hb.1⟩,hb.2.below rE zr⟩
    exact⟨vcx,(vc0.below rE zr).mono hD,(vc2.below rE zr).mono hD,(vc3.below rE zr).mono hD⟩
   have CA:Below W6.heap.size W6 (W6.alloc (.cells #[.string ⟨X0.name.toArray⟩,.int .i64 (X0.version:Int),.string ⟨X0.source.toArray⟩,.string ⟨X0.aO.toArray⟩,.slice s1 X0.uses.length s2,.bool X0.built,.slice s3 (aH X0.code).length s4,.slice vie X0.used.length vif] 41)):=(zb W6).alloc zr _;have veb:=heap_alloc_new W6 (.cells #[.string ⟨X0.name.toArray⟩,.int .i64 (X0.version:Int),.string ⟨X0.source.toArray⟩,.string ⟨X0.aO.toArray⟩,.slice s1 X0.uses.length s2,.bool X0.built,.slice s3 (aH X0.code).length s4,.slice vie X0.used.length vif] 41);have MB:=aT vb7.1 CA zr;rw[CJ] at MB;have xR:=vbe.trans (aa CA vbe.size);clear vc0 vc2 vc3 hown vd2;go_wp2_with (at_builtin;refine gK _ rfl _ _ 36 rfl w1.heap.size 41 i0 _ 8 136 (by kernel_rfl) kN hz0 hz1 hz2 rfl (by decide) _ i _ rfl MB ⟨W6.heap.size,0,none⟩ 1 1 (vap X0 (.slice s1 X0.uses.length s2) (.slice s3 (aH X0.code).length s4) (.slice vie X0.used.length vif)) rfl rfl (λj u hj=>by rw[eH];exact(af veb (0+j)).trans (by simpa[vap] using hj)) (λu hu=>by unfold vap at hu;simp only[List.mem_cons,List.not_mem_nil,or_false] at hu;rcases hu with rfl|rfl|rfl|rfl|rfl|rfl|rfl|rfl<;>rfl) (by decide) (by unfold maxLen;omega) (by omega) xR.size ?_;intro v' w7 vbr hgr Qd);have MJ:(W6.alloc (.cells #[.string ⟨X0.name.toArray⟩,.int .i64 (X0.version:Int),.string ⟨X0.source.toArray⟩,.string ⟨X0.aO.toArray⟩,.slice s1 X0.uses.length s2,.bool X0.built,.slice s3 (aH X0.code).length s4,.slice vie X0.used.length vif] 41)).heap.size=W6.heap.size+1:=by simp
   have hkeep:∀y:vao,y.ok (λb=>((Value.slice qv i vi8).ownBlock≠some b∧w1.heap.size≤b)∧vai W6 b) W6→y.ok (λb=>(v'.ownBlock≠some b∧w1.heap.size≤b)∧vai w7 b) w7:=λy hy=>by
    have e1:∀b,(Value.slice qv i vi8).ownBlock≠some b→b<W6.heap.size→w7.heap[b]? =W6.heap[b]? :=λb hb hl=>(hgr.block b (by rw[MJ];omega) (λe=>hb e.symm)).trans (CA.block b hl)
    have hy2:=hy.mono (D':=λb=>(((Value.slice qv i vi8).ownBlock≠some b∧w1.heap.size≤b)∧vai W6 b)∧b<W6.heap.size) λb hb hl=>⟨hb,hl⟩
    refine(hy2.agree λb hb hl=>e1 b hb.1.1.1 hl).mono λb hb _=>⟨⟨λe=>?_,hb.1.1.2⟩,hb.1.2.keep (e1 b hb.1.1.1 hb.2)⟩
    rcases Qd with Qd|Qd
    · rw[Qd] at e
      exact hb.1.1.1 e
    · rw[Qd,MJ] at e
      cases e;omega
   refine⟨⟨i+1,us++[⟨X0,.slice s1 X0.uses.length s2,.slice s3 (aH X0.code).length s4,.slice vie X0.used.length vif⟩],hlt,by go_num,by simp[CJ],?_,⟨?_,λy hy=>hkeep y ?_⟩,?_⟩,by simp only[intOf];omega⟩
   · rw[List.map_append,←vbg.out,vf6.out]
     rfl
   · rw[List.length_append,CJ]
     rw[show vaw (us++[⟨X0,.slice s1 X0.uses.length s2,.slice s3 (aH X0.code).length s4,.slice vie X0.used.length vif⟩])=vaw us++vap X0 (.slice s1 X0.uses.length s2) (.slice s3 (aH X0.code).length s4) (.slice vie X0.used.length vif) by simp[vaw]];exact vbr
   · rcases List.mem_append.1 hy with hy|hy
     · have:=vb7.2 y hy
       rw[CJ] at this;exact this
     · rw[List.mem_singleton.1 hy]
       exact hnew
   · exact xR.grown hgr (by have:=xR.size;omega) λb e=>(vef b e).1
  case neg=>
   obtain rfl:i=NL:=by omega
   go_wp2_with fail;go_ret;refine⟨⟨_,us,rfl,⟨ef hown.1 Rx,λx hx=>(hown.2 x hx).mono λb hb _=>⟨⟨hb.1.1,Nat.le_trans Rx hb.1.2⟩,hb.2⟩⟩,?_⟩,aP.trans (aa gN Rx)⟩;rw[N4,List.take_of_length_le (Nat.le_of_eq vbu.out)];rw[hNs.out]
theorem vbw {D D':Nat→Prop} (u:az) (v v':Value) (w:World) (hv:dN D w v u) (Qv:dN D' w v' u):
 Calls Tryz.prog 26 #[v,v'] w λe w'=>e=.returned (.bool true)∧Below w.heap.size w w':=by
 obtain⟨a,c,d,rfl,hle,ha,hc,hd⟩:=hv
 obtain⟨a',c',d',rfl,_,vf7,Uv,hd'⟩:=Qv
 obtain⟨q1,q2,rfl,_⟩:=ha.shape
 obtain⟨q3,q4,rfl,_⟩:=hc.shape
 obtain⟨q5,q6,rfl,_,Gg⟩:=hd.shape
 obtain⟨r1,r2,rfl,_⟩:=vf7.shape
 obtain⟨r3,r4,rfl,_⟩:=Uv.shape
 obtain⟨vi9,vib,rfl,_⟩:=hd'.shape
 go_enter Tryz.func26,Tryz.ntmps26
 go_upto_region 1 with fail
 generalize rB:World.alloc _ _=W1
 obtain⟨hg1,hg2,aP⟩:W1.heap[w.heap.size]? =some (.cells #[str u.name,.int .i64 (u.version:Int),str u.source,str u.aO,.slice q1 u.uses.length q2,.bool u.built,.slice q3 (aH u.code).length q4,.slice q5 u.used.length q6] 41 (0,0))∧W1.heap[w.heap.size+1]? =some (.cells #[str u.name,.int .i64 (u.version:Int),str u.source,str u.aO,.slice r1 u.uses.length r2,.bool u.built,.slice r3 (aH u.code).length r4,.slice vi9 u.used.length vib] 41 (0,0))∧Below w.heap.size w W1:=by
  rw[←rB];have hA:=(zb w).alloc zr (.cells #[str u.name,.int .i64 (u.version:Int),str u.source,str u.aO,.slice q1 u.uses.length q2,.bool u.built,.slice q3 (aH u.code).length q4,.slice q5 u.used.length q6] 41);have hn:=heap_alloc_new w (.cells #[str u.name,.int .i64 (u.version:Int),str u.source,str u.aO,.slice q1 u.uses.length q2,.bool u.built,.slice q3 (aH u.code).length q4,.slice q5 u.used.length q6] 41);have hs:(w.alloc (.cells #[str u.name,.int .i64 (u.version:Int),str u.source,str u.aO,.slice q1 u.uses.length q2,.bool u.built,.slice q3 (aH u.code).length q4,.slice q5 u.used.length q6] 41)).heap.size=w.heap.size+1:=by simp
  generalize w.alloc (.cells #[str u.name,.int .i64 (u.version:Int),str u.source,str u.aO,.slice q1 u.uses.length q2,.bool u.built,.slice q3 (aH u.code).length q4,.slice q5 u.used.length q6] 41)=W0 at *;refine⟨(((zb W0).alloc zr _).block _ (by omega)).trans hn,?_,hA.alloc (by omega) _⟩;rw[←hs];exact heap_alloc_new W0 _
 clear rB
 have b1:=(van hg1).1
 have b2:=(van hg2).1
 have ha1:=ha.below aP zr
 have ha2:=vf7.below aP zr
 have hw1:=aj hg1
 have MW:=aj hg2
 have Hy:=hd.below aP zr
 have hd2:=hd'.below aP zr
 have hc1:=hc.below aP zr
 have yp:=Uv.below aP zr
 clear ha vf7 hc Uv hd hd'
 generalize vc7:u.used.length=vhu at *
 replace vc7:=zh vc7
 go_upto_region 4 with(go_at_call 51;refine(gZ u.uses u.uses _ _ _ ha1 ha2).mono ?_;rintro e w5 ⟨rfl,oo⟩;have b3:=(van (ag hg1 oo)).1;have b4:=(van (ag hg2 oo)).1;have yF:=FM (hc1.below oo zr);have rH:=FM (yp.below oo zr))
 have hg3:=ag hg1 oo
 have hg4:=ag hg2 oo
 have NW:=Hy.below oo zr
 have vgz:=hd2.below oo zr
 have rE:=aP.trans (aa oo aP.size)
 clear b1 b2 b3 b4 yF rH ha1 ha2 hc1 yp Hy hd2 hg1 hg2 oo aP
 go_loopw [5] (λy wx=>∃i:Nat,i≤vhu∧y=.int .i64 i∧Below w5.heap.size w5 wx) (λy _=>vhu - (intOf y).toNat)
 case atStart=>exact⟨0,Nat.zero_le _,by go_num,zb _⟩
 case round=>
  obtain⟨i,hi,rfl,gN⟩:=hrel;have Hz:=ag hg3 gN;have HH:=ag hg4 gN;have b5:=(van Hz).1;have b6:=(van HH).1
  by_cases hlt:i<vhu
  case neg=>
   obtain rfl:i=vhu:=by omega
   go_wp2_with fail;go_ret;exact⟨rfl,rE.trans (aa gN rE.size)⟩
  case pos=>
   obtain⟨x,hx⟩:∃x,u.used[i]? =some x:=⟨_,List.getElem?_eq_getElem (by rw[vc7.out];exact hlt)⟩
   obtain⟨p1,o1,rfl,_,d0,d1⟩:=(NW.below gN zr).at hx;obtain⟨p2,o2,rfl,_,d2,d3⟩:=(vgz.below gN zr).at hx;have hil:(i:Int)<(vhu:Int):=by omega
   have hk1:(i:Int)+1≤9223372036854775807:=by unfold maxLen at Gg;omega
   go_upto_region 6 with fail;clear b5 b6;refine u5 (D:=λ_=>True) (w:=wr) (d:=some 82) 10 [(2,vP w.heap.size 0),(3,vP (w.heap.size+1) 0),(5,vI i)] [vP w.heap.size 7,.eq (.slice (some ⟨p1,o1,none⟩) vhu q6),vI i,vP p1 (o1+i * 2),.eq (.agg #[str x.1,str x.2]),vP (w.heap.size+1) 7,.eq (.slice (some ⟨p2,o2,none⟩) vhu vib),vI i,vP p2 (o2+i * 2),.eq (.agg #[str x.1,str x.2]),.eq (.bool false)]
    (λw'=>Below wr.heap.size wr w') (by kernel_rfl) rfl rfl (λ_ _ h hb=>h.trans (aa hb h.size)) (zb wr).drew ⟨rfl,rfl,rfl,trivial⟩ ?_ ?_
   · refine⟨gQ rfl (by kernel_rfl) rfl rfl (λw=>by simp[go_sem]),dV rfl (by kernel_rfl) rfl rfl (λW hS=>by have c1:=(van (ag Hz hS)).1;simp[go_sem,c1]),iU rfl rfl (by kernel_rfl),iQ rfl (by kernel_rfl) rfl rfl rfl (λw=>by simp[go_sem,hil]),dV rfl (by kernel_rfl) rfl rfl (λW hS=>by have c1:=Below.keep hS d0;have c2:=Below.keep hS d1;simp[go_sem,c1,c2]),gQ rfl (by kernel_rfl) rfl rfl (λw=>by simp[go_sem]),dV rfl (by kernel_rfl) rfl rfl (λW hS=>by have c1:=(van (ag HH hS)).1;simp[go_sem,c1]),iU rfl rfl (by kernel_rfl),iQ rfl (by kernel_rfl) rfl rfl rfl (λw=>by simp[go_sem,hil]),dV rfl (by kernel_rfl) rfl rfl (λW hS=>by have c1:=Below.keep hS d2;have c2:=Below.keep hS d3;simp[go_sem,c1,c2]),gJ rfl (by kernel_rfl) rfl rfl rfl (λw=>by simp[go_sem]),trivial⟩
   intro av W4 Hu _ _;simp only[pq,pz,pw];go_wp2_with fail;exact⟨⟨i+1,hlt,by go_num,gN.trans (aa Hu gN.size)⟩,by simp only[intOf];omega⟩
theorem vcf {w:World} {B k n c:Nat} {t:TypeId} {p:Option Addr} {cs:List Value} (h:w.ownsRow B t k (.slice p n c) n cs) (h0:0<n):∃g,p=some ⟨g,0,none⟩∧∀j u,cs[j]? =some u→w.cell? ⟨g,j,none⟩=some u:=by
 rcases h.2 with⟨_,h1⟩|⟨g,cap,cur,e,_⟩
 · omega
 · injection e with e1 _ _
   subst e1;refine⟨g,rfl,λj u hj=>?_⟩;have:=h.cells (g:=g) rfl j u hj
   rwa [eH,Nat.zero_add] at this
def vak (D:Nat→Prop) (w:World) (v:Value) (l:List az):Prop:=
 ∃p c,v=.slice p l.length c∧l.length≤maxLen∧(l=[]∨∃b o,p=some ⟨b,o,none⟩∧D b∧b<w.heap.size∧∀j u,l[j]? =some u→∃a c d,vao.ok D w ⟨u,a,c,d⟩∧w.rangeAt b (o+j * 8) (vap u a c d))
theorem vak.agree {D:Nat→Prop} {w w':World} {v:Value} {l:List az} (h:vak D w v l) (hk:∀b,D b→b<w.heap.size→w'.heap[b]? =w.heap[b]?):vak D w' v l:=by
 obtain⟨p,c,h1,h2,h3⟩:=h
 refine⟨p,c,h1,h2,?_⟩
 rcases h3 with h3|⟨b,o,e,h4,h5,h6⟩
 · exact .inl h3
 · refine .inr ⟨b,o,e,h4,wT (hk b h4 h5) h5,λj u hj=>?_⟩
   obtain⟨a,c,d,k1,k2⟩:=h6 j u hj;refine⟨a,c,d,k1.agree hk,λi x hi=>?_⟩;rw[World.cell?_of_block (w:=w) (a:=⟨b,o+j * 8+i,none⟩) (hk b h4 h5)];exact k2 i x hi
theorem vak.mono {D D':Nat→Prop} {w:World} {v:Value} {l:List az} (h:vak D w v l) (hD:∀b,D b→D' b):vak D' w v l:=by
 obtain⟨p,c,h1,h2,h3⟩:=h
 refine⟨p,c,h1,h2,?_⟩
 rcases h3 with h3|⟨b,o,e,h4,h5,h6⟩
 · exact .inl h3
 · refine .inr ⟨b,o,e,hD b h4,h5,λj u hj=>?_⟩
   obtain⟨a,c,d,k1,k2⟩:=h6 j u hj;exact⟨a,c,d,k1.mono λb hb _=>hD b hb,k2⟩
theorem vak.below {D:Nat→Prop} {w w':World} {v:Value} {l:List az} {K:Nat} (h:vak D w v l) (hb:Below K w w') (hK:w.heap.size≤K):vak D w' v l:=h.agree λb _ hl=>hb.block b (by omega)
theorem vak.at {D:Nat→Prop} {w:World} {p:Option Addr} {n c:Nat} {l:List az} (h:vak D w (.slice p n c) l) {j:Nat} {u:az} (hj:l[j]? =some u):∃b o,p=some ⟨b,o,none⟩∧∃a c d,vao.ok D w ⟨u,a,c,d⟩∧w.rangeAt b (o+j * 8) (vap u a c d):=by
 obtain⟨p',c',e,_,h4⟩:=h
 injection e with e1 _ _
 subst e1
 rcases h4 with h4|⟨b,o,e,h5,h6,h7⟩
 · rw[h4] at hj
   simp at hj
 · exact⟨b,o,e,h7 j u hj⟩
theorem vbk:∀(L:List vao) (j:Nat) (x:vao),L[j]? =some x→∀(i:Nat) (v:Value),(vap x.u x.a x.c x.d)[i]? =some v→(vaw L)[j * 8+i]? =some v
 | [],j,x,h,_,_,_=>by simp at h
 | y::L,0,x,h,i,v,hi=>by
  obtain rfl:y=x:=by simpa using h
  rw[Nat.zero_mul,Nat.zero_add]
  show(vap y.u y.a y.c y.d++vaw L)[i]? =some v
  rw[List.getElem?_append_left (List.getElem?_eq_some_iff.1 hi).1];exact hi
 | y::L,j+1,x,h,i,v,hi=>by
  show(vap y.u y.a y.c y.d++vaw L)[(j+1) * 8+i]? =some v
  have hl:(vap y.u y.a y.c y.d).length=8:=rfl;rw[List.getElem?_append_right (by omega),hl,show(j+1) * 8+i - 8=j * 8+i by omega];exact vbk L j x (by simpa using h) i v hi
theorem vb4.units {K:Nat} {w:World} {v:Value} {us:List vao} (h:vb4 K w v us) (hl:us.length≤maxLen):vak (λb=>K≤b∧vai w b) w v (us.map (·.u)):=by
 have hn:(us.map (·.u)).length=us.length:=List.length_map ..
 obtain⟨p,c,hv⟩:=aJ h.1
 refine⟨p,c,by rw[hn];exact hv,by rw[hn];exact hl,?_⟩
 subst hv
 by_cases h0:us.length=0
 · left
   exact List.length_eq_zero_iff.1 (by rw[hn];exact h0)
 · right
   have hlt:=λg (hg:(Value.slice p us.length c).ownBlock=some g)=>h.1.lt g hg
   have hrb:=vai.own h.1 (by decide);obtain⟨g,rfl,hg⟩:=vcf h.1 (by omega);refine⟨g,0,rfl,hrb g rfl,(hlt g rfl).2,λj u hj=>?_⟩;rw[List.getElem?_map] at hj;obtain⟨x,hx,rfl⟩:=Option.map_eq_some_iff.1 hj;refine⟨x.a,x.c,x.d,(h.2 x (List.mem_of_getElem? hx)).mono λb hb _=>⟨hb.1.2,hb.2⟩,λi z hi=>?_⟩;rw[Nat.zero_add];exact hg _ _ (vbk us j x hx i z hi)
theorem vbl {R:Nat→Prop} {w W:World} {l:Loc} {L:bh} {j:Nat} (h:vah R w W l L j):
 Calls Tryz.prog 17 #[.pointer (some ⟨l.sb,0,none⟩)] W λe W'=>(∃v,e=.returned v∧vak (λb=>W.heap.size≤b∧vai W' b) W' v ((bZ L.units).map (vam L.units)))∧Below W.heap.size W W':=by
 refine(vcq h).mono ?_
 rintro e W' ⟨⟨v,us,rfl,ho,hm⟩,hb⟩
 refine⟨⟨v,rfl,?_⟩,hb⟩
 rw[←hm]
 refine ho.units ?_
 have e:=congrArg List.length hm
 rw[List.length_map,List.length_map] at e
 have:=h.inv.vi4
 unfold bZ at e
 rw[iP,List.length_map] at e
 unfold maxLen
 omega
theorem vah.IA {R:Nat→Prop} {w W:World} {l:Loc} {L:bh} {j:Nat} (h:vah R w W l L j):
 Calls Tryz.prog 24 #[.pointer (some ⟨l.sb,0,none⟩)] W λe W'=>(∃v,e=.returned v∧SS (λb=>W.heap.size≤b∧vai W' b) W' v (lZ L.units))∧Below W.heap.size W W':=by
 have hl:∀n∈bZ L.units,n.length≤maxLen:=λn hn=>by have:=(h.names n hn).2;unfold maxLen;omega
 refine(zD W h.read hl).mono ?_
 rintro e W' ⟨v,rfl,ho,hb⟩
 refine⟨⟨v,rfl,SS.eZ ho (λn hn=>hl n ?_) (vai.own ho (by decide))⟩,hb⟩
 unfold lZ at hn
 exact(List.mem_filter.1 hn).1
theorem vav {w:World} {b o:Nat} {u:az} {a c d:Value} (h:w.rangeAt b o (vap u a c d)):
 w.cell? ⟨b,o,none⟩=some (str u.name)∧w.cell? ⟨b,o+1,none⟩=some (.int .i64 (u.version:Int))∧w.cell? ⟨b,o+2,none⟩=some (str u.source)∧w.cell? ⟨b,o+3,none⟩=some (str u.aO)∧w.cell? ⟨b,o+4,none⟩=some a∧w.cell? ⟨b,o+5,none⟩=some (.bool u.built)∧w.cell? ⟨b,o+6,none⟩=some c∧w.cell? ⟨b,o+7,none⟩=some d:=
 ⟨h 0 _ rfl,h 1 _ rfl,h 2 _ rfl,h 3 _ rfl,h 4 _ rfl,h 5 _ rfl,h 6 _ rfl,h 7 _ rfl⟩
theorem vbz {D D':Nat→Prop} (l:List az) (v v':Value) (w:World) (hv:vak D w v l) (Qv:vak D' w v' l):
 Calls Tryz.prog 25 #[v,v',.func (.func 26) #[] #[]] w λe w'=>e=.returned (.bool true)∧Below w.heap.size w w':=by
 have MT:=hv
 have yF:=Qv
 obtain⟨p,c,rfl,hlm,-⟩:=hv
 obtain⟨p',c',rfl,-,-⟩:=Qv
 go_enter Tryz.func25,Tryz.ntmps25
 go_upto_region 4 with fail
 generalize vbu:l.length=NL at *
 replace vbu:=zh vbu
 go_loopw [17] (λy wx=>∃i:Nat,i≤NL∧y=.int .i64 i∧Below w.heap.size w wx) (λy _=>NL - (intOf y).toNat)
 case atStart=>exact⟨0,Nat.zero_le _,by go_num,zb _⟩
 case round=>
  obtain⟨i,hi,rfl,gN⟩:=hrel
  by_cases hlt:i<NL
  case neg=>
   obtain rfl:i=NL:=by omega
   go_wp2_with fail;go_ret;exact⟨rfl,gN⟩
  case pos=>
   obtain⟨x,hx⟩:∃x,l[i]? =some x:=⟨_,List.getElem?_eq_getElem (by rw[vbu.out];exact hlt)⟩
   obtain⟨b1,o1,rfl,a1,c1,d1,Bn,hr1⟩:=(MT.below gN zr).at hx;obtain⟨b2,o2,rfl,a2,c2,d2,Bo,hr2⟩:=(yF.below gN zr).at hx;have k1:=vav hr1;have k2:=vav hr2;obtain⟨s1,s2,e1,-⟩:=Bn.a.shape;obtain⟨s3,s4,e2,-⟩:=Bn.c.shape;obtain⟨vie,vif,e3,-⟩:=Bn.d.shape;obtain⟨t1,t2,e4,-⟩:=Bo.a.shape;obtain⟨t3,t4,e5,-⟩:=Bo.c.shape;obtain⟨t5,t6,e6,-⟩:=Bo.d.shape;dsimp only at e1 e2 e3 e4 e5 e6;subst e1 e2 e3 e4 e5 e6;have hil:(i:Int)<(NL:Int):=by omega
   have hk1:(i:Int)+1≤9223372036854775807:=by unfold maxLen at hlm;omega
   replace Bn:=zh Bn
   replace Bo:=zh Bo
   replace hr2:=zh hr2
   clear hr1 hx MT yF k2;go_upto_region 6 with fail;generalize hW:World.alloc _ _=W5;have oo:Below wr.heap.size wr W5:=by rw[←hW];exact(zb wr).alloc zr _
   have vg8:W5.heap[wr.heap.size]? =some (.cells #[.string ⟨x.name.toArray⟩,.int .i64 (x.version:Int),.string ⟨x.source.toArray⟩,.string ⟨x.aO.toArray⟩,.slice s1 x.uses.length s2,.bool x.built,.slice s3 (aH x.code).length s4,.slice vie x.used.length vif] 41 (0,0)):=by rw[←hW];exact heap_alloc_new wr _
   clear hW k1;have k2:=vav (w:=W5) (λj u hj=>Below.keep oo (hr2.out j u hj));go_upto_region 7 with fail;generalize hW:World.alloc _ _=W6;have rE:Below W5.heap.size W5 W6:=by rw[←hW];exact(zb W5).alloc zr _
   have vd2:W6.heap[W5.heap.size]? =some (.cells #[.string ⟨x.name.toArray⟩,.int .i64 (x.version:Int),.string ⟨x.source.toArray⟩,.string ⟨x.aO.toArray⟩,.slice t1 x.uses.length t2,.bool x.built,.slice t3 (aH x.code).length t4,.slice t5 x.used.length t6] 41 (0,0)):=by rw[←hW];exact heap_alloc_new W5 _
   clear hW k2;have vg9:=ag vg8 rE;have b6:=(van vg9).1;have b7:=(van vd2).1;have vcl:=oo.trans (aa rE oo.size);have DE:=Bn.out.below vcl zr;have NT:=Bo.out.below vcl zr;have HS:=vbw x _ _ W6 ⟨_,_,_,rfl,DE.le,DE.a,DE.c,DE.d⟩ ⟨_,_,_,rfl,NT.le,NT.a,NT.c,NT.d⟩;have xQ:=gN.trans (aa vcl gN.size);clear DE NT vg8 vd2 vg9 oo rE;go_wp2_with (go_at_call 26;refine HS.mono ?_;clear HS;rintro e w9 ⟨rfl,kM⟩);exact⟨⟨i+1,hlt,by go_num,xQ.trans (aa kM xQ.size)⟩,by simp only[intOf];omega⟩
theorem vdu {K:Nat} {W:World} {x:vbn} {va vb vc:Value} {g:Nat} {fl:Nat×Nat} (h:vbb (λb=>b<K) W va vb vc x) (hg:W.heap[g]? =some (.cells (vbp x va vb vc).toArray 46 fl)) (hw:K≤W.heap.size):vb0 (λb=>b<W.heap.size) W (.slice (some ⟨g,0,none⟩) 1 1) [x]:=by
 refine⟨some ⟨g,0,none⟩,1,rfl,nl _,by show 1≤maxLen;unfold maxLen;decide,.inr ⟨g,0,rfl,aj hg,aj hg,λj y hj=>?_⟩⟩
 rcases j with _|j
 · cases hj
   refine⟨va,vb,vc,⟨h.a.mono λb hb=>Nat.lt_of_lt_of_le hb hw,h.b.mono λb hb=>Nat.lt_of_lt_of_le hb hw,h.c.mono λb hb=>Nat.lt_of_lt_of_le hb hw,h.kd,h.le⟩,λi u hi=>?_⟩;refine(af hg _).trans ?_;rw[List.getElem?_toArray]
   simpa using hi
 · simp at hj
theorem vb0.mono {D D':Nat→Prop} {w:World} {v:Value} {l:List vbn} (h:vb0 D w v l) (hD:∀b,D b→D' b):vb0 D' w v l:=by
 obtain⟨p,c,h1,h2,h3,h4⟩:=h
 refine⟨p,c,h1,h2,h3,?_⟩
 rcases h4 with h4|⟨b,o,e,h5,h6,h7⟩
 · exact .inl h4
 · refine .inr ⟨b,o,e,hD b h5,h6,λj x hj=>?_⟩
   obtain⟨va,vb,vc,k1,k2⟩:=h7 j x hj;exact⟨va,vb,vc,⟨k1.a.mono hD,k1.b.mono hD,k1.c.mono hD,k1.kd,k1.le⟩,k2⟩
theorem vai.qK {w:World} {b:Nat} (h:vai w b):∃x,w.heap[b]? =some x∧qK x:=by
 obtain⟨cs,t,e,_,ht⟩:=h
 exact⟨_,e,cs,t,_,rfl,ht⟩
theorem dI.row {w w':World} {b:Nat} (hk:dI w w') (h:vai w b):w'.heap[b]? =w.heap[b]? :=by
 obtain⟨x,e,hx⟩:=h.qK
 exact(hk b x e hx).trans e.symm
theorem vcj (W:World) (a:Addr) (v:Value):W.grownBy (W.setCell a v) (some a.block):=⟨rfl,rfl,rfl,by simp[World.setCell],λk _ hne=>heap_setCell_other W a k v λe=>hne (by rw[e])⟩
def vb3 (x y:Value):Prop:=x=y∨(∃s t,x=.string s∧y=.string t)∨∃a b:Int,x=.int .u8 a∧y=.int .u8 b
theorem vb3.refl (x:Value):vb3 x x:=.inl rfl
theorem vb3.trans {x y z:Value} (h:vb3 x y) (k:vb3 y z):vb3 x z:=by
 rcases h with rfl|⟨s,t,rfl,rfl⟩|⟨a,b,rfl,rfl⟩
 · exact k
 · rcases k with rfl|⟨s',t',e,rfl⟩|⟨a,b,e,rfl⟩
   · exact .inr (.inl ⟨_,_,rfl,rfl⟩)
   · exact .inr (.inl ⟨_,_,rfl,rfl⟩)
   · cases e
 · rcases k with rfl|⟨s',t',e,rfl⟩|⟨a',b',e,rfl⟩
   · exact .inr (.inr ⟨_,_,rfl,rfl⟩)
   · cases e
   · exact .inr (.inr ⟨_,_,rfl,rfl⟩)
theorem vb3.str {s:ByteArray} {y:Value} (h:vb3 (.string s) y):∃t,y=.string t:=by
 rcases h with rfl|⟨s,t,_,rfl⟩|⟨a,b,e,_⟩
 · exact⟨_,rfl⟩
 · exact⟨_,rfl⟩
 · cases e
theorem vb3.u8 {a:Int} {y:Value} (h:vb3 (.int .u8 a) y):∃b,y=.int .u8 b:=by
 rcases h with rfl|⟨s,t,e,_⟩|⟨a,b,_,rfl⟩
 · exact⟨_,rfl⟩
 · cases e
 · exact⟨_,rfl⟩
theorem vb3.i64 {a:Int} {y:Value} (h:vb3 (.int .i64 a) y):y=.int .i64 a:=by
 rcases h with rfl|⟨s,t,e,_⟩|⟨a,b,e,_⟩
 · rfl
 · cases e
 · cases e
theorem vb3.bool {a:Bool} {y:Value} (h:vb3 (.bool a) y):y=.bool a:=by
 rcases h with rfl|⟨s,t,e,_⟩|⟨a,b,e,_⟩
 · rfl
 · cases e
 · cases e
theorem vb3.slice {p:Option Addr} {n c:Nat} {y:Value} (h:vb3 (.slice p n c) y):y=.slice p n c:=by
 rcases h with rfl|⟨s,t,e,_⟩|⟨a,b,e,_⟩
 · rfl
 · cases e
 · cases e
structure vaq (D:Nat→Prop) (w w':World):Prop where
 size:w.heap.size≤w'.heap.size
 out:∀b,b<w.heap.size→¬D b→w'.heap[b]? =w.heap[b]?
 row:∀(b:Nat) (cs:Array Value) (t:TypeId),w.heap[b]? =some (.cells cs t (0,0))→∃cs',w'.heap[b]? =some (.cells cs' t (0,0))∧∀(k:Nat) (x:Value),cs[k]? =some x→∃y,cs'[k]? =some y∧vb3 x y
theorem vaq.refl (D:Nat→Prop) (w:World):vaq D w w:=⟨nl _,λ_ _ _=>rfl,λ_ cs _ h=>⟨cs,h,λ_ x hx=>⟨x,hx,.refl x⟩⟩⟩
theorem vaq.trans {D:Nat→Prop} {w1 w2 w3:World} (h:vaq D w1 w2) (k:vaq D w2 w3):vaq D w1 w3:=by
 refine⟨Nat.le_trans h.size k.size,λb hb hD=>(k.out b (Nat.lt_of_lt_of_le hb h.size) hD).trans (h.out b hb hD),λb cs t e=>?_⟩
 obtain⟨c2,e2,h2⟩:=h.row b cs t e
 obtain⟨c3,e3,h3⟩:=k.row b c2 t e2
 refine⟨c3,e3,λi x hx=>?_⟩
 obtain⟨y,hy,k1⟩:=h2 i x hx
 obtain⟨z,hz,k2⟩:=h3 i y hy
 exact⟨z,hz,k1.trans k2⟩
theorem vaq.ai {D:Nat→Prop} {K:Nat} {w w':World} (h:Below K w w') (hK:w.heap.size≤K):vaq D w w':=
 ⟨h.size,λb hb _=>h.block b (Nat.lt_of_lt_of_le hb hK),λb cs _ e=>⟨cs,(h.block b (Nat.lt_of_lt_of_le (aj e) hK)).trans e,λ_ x hx=>⟨x,hx,.refl x⟩⟩⟩
theorem vaq.below {D:Nat→Prop} {K:Nat} {w w' w2:World} (h:vaq D w w') (hb:Below K w' w2) (hK:w'.heap.size≤K):vaq D w w2:=h.trans (.ai hb hK)
theorem vaq.set {D:Nat→Prop} {w:World} {r k:Nat} {cs:Array Value} {t:TypeId} {x v:Value} (hD:D r) (hr:w.heap[r]? =some (.cells cs t (0,0))) (hx:cs[k]? =some x) (hv:vb3 x v):vaq D w (w.setCell ⟨r,k,none⟩ v):=by
 have hn:=heap_setCell_same w r k cs t v hr
 refine⟨by simp[World.setCell],λb _ hb=>heap_setCell_other w _ b v λe=>hb (e▸hD),λb c2 t2 e=>?_⟩
 by_cases hb:b=r
 · subst hb
   rw[hr] at e;cases e;refine⟨_,hn,λi y hy=>?_⟩;rw[Array.getElem?_setIfInBounds];have hl:=(Array.getElem?_eq_some_iff.1 hy).1
   by_cases e:k=i
   · subst e
     rw[if_pos rfl,if_pos hl];rw[hx] at hy;cases hy;exact⟨v,rfl,hv⟩
   · rw[if_neg e]
     exact⟨y,hy,.refl y⟩
 · exact⟨c2,(heap_setCell_other w _ b v hb).trans e,λ_ y hy=>⟨y,hy,.refl y⟩⟩
theorem vaq.vbo {D:Nat→Prop} {w w':World} (h:vaq D w w') {b:Nat} (hb:vai w b):vai w' b:=by
 obtain⟨cs,t,e,ht⟩:=hb
 obtain⟨c2,e2,_⟩:=h.row b cs t e
 exact⟨c2,t,e2,ht⟩
theorem vaq.cell {D:Nat→Prop} {w w':World} (h:vaq D w w') {b k:Nat} {x:Value} (hb:vai w b) (hx:w.cell? ⟨b,k,none⟩=some x):∃y,w'.cell? ⟨b,k,none⟩=some y∧w'.frozen? ⟨b,k,none⟩=false∧vb3 x y:=by
 obtain⟨cs,t,e,_⟩:=hb
 obtain⟨c2,e2,h2⟩:=h.row b cs t e
 obtain⟨y,hy,hk⟩:=h2 k x ((af e k).symm.trans hx)
 exact⟨y,(af e2 k).trans hy,au e2 k,hk⟩
theorem dI.refl (w:World):dI w w:=λ_ _ e _=>e
theorem dI.own {w w':World} {K n m:Nat} {t:TypeId} {v:Value} {cs:List Value} (hk:dI w w') (h:w.ownsRow K t n v m cs) (ht:t≠111∧t≠133∧t≠145∧t≠147∧t≠198):w'.ownsRow K t n v m cs:=aG h λb hb=>hk.row (vai.own h ht b hb).2
theorem vai.lt {w:World} {b:Nat} (h:vai w b):b<w.heap.size:=by
 obtain⟨_,_,e,_⟩:=h
 exact aj e
theorem vah.fenced {R:Nat→Prop} {w W W':World} {l:Loc} {L:bh} {j:Nat} (h:vah R w W l L j) (hb:Below W.heap.size W W'):
 ∃vhx:Nat→Prop,vah vhx w W' l L j∧(∀b,W.heap.size≤b→b<W'.heap.size→¬vhx b)∧(∀b,b<W.heap.size→(vhx b↔R b))∧∀b,W'.heap.size≤b→vhx b:=
 ⟨_, h.fence hb, fun b h1 h2 h3 => by rcases h3 with ⟨_, h3⟩ | h3 <;> omega, fun b h1 => ⟨fun h3 => by
  rcases h3 with⟨h3,_⟩|h3
  · exact h3
  · have:=hb.size
    omega,λh3=>.inl ⟨h3,h1⟩⟩,λb h1=>.inr h1⟩
theorem vah.turn {R D:Nat→Prop} {w W0 W:World} {l:Loc} {L:bh} {j b k:Nat} {x v:Value} (h:vah R w W l L j) (hM:vaq D W0 W) (hD:∀b,D b→w.heap.size≤b∧¬R b) (hb:D b) (hr:vai W0 b) (hx:W0.cell? ⟨b,k,none⟩=some x) (hv:∀y,vb3 x y→vb3 y v):
 vah R w (W.setCell ⟨b,k,none⟩ v) l L j∧vaq D W0 (W.setCell ⟨b,k,none⟩ v):=by
 obtain⟨cs,t,e,ht⟩:=hM.vbo hr
 obtain⟨y,hy,_,hk⟩:=hM.cell hr hx
 exact⟨h.vfo (vcj _ _ _) (hD b hb).2 (hD b hb).1 e ht,hM.trans (.set hb e ((af e k).symm.trans hy) (hv y hk))⟩
theorem vb3.toStr {s t:ByteArray} (y:Value) (h:vb3 (.string s) y):vb3 y (.string t):=by
 obtain⟨u,rfl⟩:=h.str
 exact .inr (.inl ⟨_,_,rfl,rfl⟩)
theorem vb3.vdb {a b:Int} (y:Value) (h:vb3 (.int .u8 a) y):vb3 y (.int .u8 b):=by
 obtain⟨u,rfl⟩:=h.u8
 exact .inr (.inr ⟨_,_,rfl,rfl⟩)
theorem vak.row {D:Nat→Prop} {w:World} {p:Option Addr} {n c:Nat} {l:List az} (h:vak D w (.slice p n c) l) {j:Nat} {u:az} (hj:l[j]? =some u):∃b o,p=some ⟨b,o,none⟩∧D b:=by
 obtain⟨p',c',e,_,h4⟩:=h
 injection e with e1 _ _
 subst e1
 rcases h4 with h4|⟨b,o,e,h5,h6,h7⟩
 · rw[h4] at hj
   simp at hj
 · exact⟨b,o,e,h5⟩
theorem vcd (n:Nat) (h:n≤1000) (W:World):∃Z:Array Value,Z.size=n * 8∧(Instr.makeSlice 36 (.int .i64 0) (.int .i64 n)).run Tryz.prog W=.ok (.slice (some ⟨W.heap.size,0,none⟩) 0 n) (W.alloc (.cells Z 41)):=by
 obtain⟨i0,kN,hz0,hz1,hz2⟩:=aV vbh
 have hr:=run_make (P:=Tryz.prog) W 36 41 i0 _ (by kernel_rfl) kN hz0 .i64 .i64 0 n (by omega) (by omega) (by rw[hz2];omega) (by omega)
 simp only[Int.toNat_natCast] at hr
 rw[hz1] at hr
 exact⟨_,by simp[madeCells],hr⟩
theorem vd0 {L:bh} {j:Nat} (h:vay L j):∀n∈sN L.units,n.length≤12:=λn hn=>by
 unfold sN Iq at hn
 rw[kJ,sr,List.mem_filter,List.mem_flatMap] at hn
 rcases hn with hn|⟨⟨⟨k,u⟩,hu,hn⟩,_⟩
 · cases hn
 · exact(vat ((h.units k u (uC h.nd hu)).un n hn).1).2.1
end
open Go
theorem vcm {us:List (List UInt8×az)} {n:List UInt8}:n∈bZ us↔(aq us n).isSome=true:=by
 unfold bZ
 rw[kJ]
 exact bJ.symm
