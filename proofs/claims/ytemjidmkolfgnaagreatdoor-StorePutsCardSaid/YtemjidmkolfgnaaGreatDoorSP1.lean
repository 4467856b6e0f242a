/-
  Lemmas: contract of arguslaw19: run. Conditions: bounds of lengths; the variable strings.asciiSpace.
-/
import Derived.Test.YtemjidmkolfgnaaGreatDoorSBn
import Derived.Test.YtemjidmkolfgnaaGreatDoorSP0
set_option maxHeartbeats 25600000
set_option maxRecDepth 8000
namespace Go.Proofs.YtemjidmkolfgnaaGreatDoor
section
open Go Go.RowKit
structure vb4 where
 kd:Nat
 name:List UInt8
 src:List UInt8
 aO:List UInt8
 uses:List (List UInt8)
 n:Int
 vdl:Int
 code:List UInt8
 keep:List Int
structure vbb (D:Nat→Prop) (w:World) (va vb vc:Value) (x:vb4):Prop where
 a:SS D w va x.uses
 b:CV D w vb (aH x.code)
 c:CV D w vc (vbc x.keep)
 kd:x.kd<256
 le:x.name.length≤maxLen∧x.src.length≤maxLen∧x.aO.length≤maxLen
theorem vbb.agree {D:Nat→Prop} {w w':World} {va vb vc:Value} {x:vb4} (h:vbb D w va vb vc x) (hk:∀b,D b→b<w.heap.size→w'.heap[b]? =w.heap[b]?):vbb D w' va vb vc x:=⟨h.a.agree hk,h.b.agree hk,h.c.agree hk,h.kd,h.le⟩
def vbl (x:vb4) (va vb vc:Value):List Value:=[.int .u8 (x.kd:Int),str x.name,str x.src,str x.aO,va,.int .i64 x.n,.int .i64 x.vdl,vb,vc]
def vav (D:Nat→Prop) (w:World) (v:Value) (l:List vb4):Prop:=
 ∃p c,v=.slice p l.length c∧l.length≤c∧l.length≤maxLen∧(l=[]∨∃b o,p=some ⟨b,o,none⟩∧D b∧b<w.heap.size∧∀j x,l[j]? =some x→∃va vb vc,vbb D w va vb vc x∧w.rangeAt b (o+j * 9) (vbl x va vb vc))
theorem vav.agree {D:Nat→Prop} {w w':World} {v:Value} {l:List vb4} (h:vav D w v l) (hk:∀b,D b→b<w.heap.size→w'.heap[b]? =w.heap[b]?):vav D w' v l:=by
 obtain⟨p,c,h1,h2,h3,h4⟩:=h
 refine⟨p,c,h1,h2,h3,?_⟩
 rcases h4 with h4|⟨b,o,e,h5,h6,h7⟩
 · exact .inl h4
 · refine .inr ⟨b,o,e,h5,wT (hk b h5 h6) h6,λj x hj=>?_⟩
   obtain⟨va,vb,vc,k1,k2⟩:=h7 j x hj;refine⟨va,vb,vc,k1.agree hk,λi u hi=>?_⟩;rw[World.cell?_of_block (w:=w) (a:=⟨b,o+j * 9+i,none⟩) (hk b h5 h6)];exact k2 i u hi
theorem vav.at {D:Nat→Prop} {w:World} {p:Option Addr} {n c:Nat} {l:List vb4} (h:vav D w (.slice p n c) l) {j:Nat} {x:vb4} (hj:l[j]? =some x):∃b o,p=some ⟨b,o,none⟩∧∃va vb vc,vbb D w va vb vc x∧w.rangeAt b (o+j * 9) (vbl x va vb vc):=by
 obtain⟨p',c',e,_,_,h4⟩:=h
 injection e with e1 _ _
 subst e1
 rcases h4 with h4|⟨b,o,e,h5,h6,h7⟩
 · rw[h4] at hj
   simp at hj
 · exact⟨b,o,e,h7 j x hj⟩
theorem vbr {w:World} {b o:Nat} {x:vb4} {va vb vc:Value} (h:w.rangeAt b o (vbl x va vb vc)):
 w.cell? ⟨b,o,none⟩=some (.int .u8 (x.kd:Int))∧w.cell? ⟨b,o+1,none⟩=some (str x.name)∧w.cell? ⟨b,o+2,none⟩=some (str x.src)∧w.cell? ⟨b,o+3,none⟩=some (str x.aO)∧w.cell? ⟨b,o+4,none⟩=some va∧w.cell? ⟨b,o+5,none⟩=some (.int .i64 x.n)∧w.cell? ⟨b,o+6,none⟩=some (.int .i64 x.vdl)∧w.cell? ⟨b,o+7,none⟩=some vb∧w.cell? ⟨b,o+8,none⟩=some vc:=
 ⟨h 0 _ rfl,h 1 _ rfl,h 2 _ rfl,h 3 _ rfl,h 4 _ rfl,h 5 _ rfl,h 6 _ rfl,h 7 _ rfl,h 8 _ rfl⟩
theorem vbj {w:World} {b:Nat} {a0 a1 a2 a3 a4 a5 a6 a7 a8:Value} {t:TypeId} (h:w.heap[b]? =some (.cells #[a0,a1,a2,a3,a4,a5,a6,a7,a8] t (0,0))):
 w.cell? ⟨b,0,none⟩=some a0∧w.cell? ⟨b,1,none⟩=some a1∧w.cell? ⟨b,2,none⟩=some a2∧w.cell? ⟨b,3,none⟩=some a3∧w.cell? ⟨b,4,none⟩=some a4∧w.cell? ⟨b,5,none⟩=some a5∧w.cell? ⟨b,6,none⟩=some a6∧w.cell? ⟨b,7,none⟩=some a7∧w.cell? ⟨b,8,none⟩=some a8:=
 ⟨(af h 0).trans rfl,(af h 1).trans rfl,(af h 2).trans rfl,(af h 3).trans rfl,(af h 4).trans rfl,(af h 5).trans rfl,(af h 6).trans rfl,(af h 7).trans rfl,(af h 8).trans rfl⟩
structure vba (x:vb4):Prop where
 vbk:vdq x.name x.src x.aO x.uses
 code:x.code.length≤3010
 keep:x.keep.length≤200
def vc7 (L:bh) (x:vb4):bh:=
 if x.kd % 10<3 then(if jg L x.name x.src x.aO x.uses=0 then ep L x.name x.src x.aO (aU 44 x.uses) else L)
 else if x.kd % 10=3 then(if vJ L x.name=0 then o8 L x.name else L)
 else if x.kd % 10<7 then vau L x.name x.code else L
def vel (l:List vb4):bh:=l.foldl vc7 .new
theorem vd9 (l:List vb4) (v:Value) (w:World) (hv:vav (λb=>b<w.heap.size) w v l) (hok:∀x∈l,vba x) (hl:l.length≤30) (ht:gx w) (hm:fe w) (hp:0<w.heap.size):
 Calls Tryz.prog 13 #[v] w λe W'=>∃lo:Loc,e=.returned (.tuple #[.pointer (some ⟨lo.a,0,none⟩),.pointer (some ⟨lo.sb,0,none⟩),.bool true])∧vbx w W' lo (vel l) 30:=by
 have MT:=hv
 obtain⟨p,c,rfl,_,_,_⟩:=hv
 have HN:=wY 30000 (by decide) w
 go_enter Tryz.func13,Tryz.ntmps13
 go_upto_region 4 with(go_at_call 31;refine HN.mono ?_;clear HN;rintro e w1 ⟨⟨a,b1,b2,rfl,hD⟩,aP⟩)
 have HO:=EK (λb=>w.heap.size≤b) w1 hD (S:=oZ 30000) rfl rfl
 go_upto_region 7 with(go_at_call 35;refine HO.mono ?_;clear HO;rintro e w2 ⟨⟨sb,lg,ds,rfl,hh,hL,hG,h1,h2⟩,bO⟩)
 have T3:=vbx.new ht hm hp hD aP hh hL hG h1 h2 bO
 obtain⟨lo,hlo⟩:∃l:Loc,(⟨sb,w1.heap.size,w1.heap.size+1,lg,a,b1,b2,30000⟩:Loc)=l:=⟨_,rfl⟩
 obtain⟨hsb,vgh⟩:sb=lo.sb∧a=lo.a:=by rw[←hlo];exact⟨rfl,rfl⟩
 rw[hlo] at T3
 subst hsb vgh
 clear hD aP hh hL hG h1 h2 bO hlo
 generalize vb8:l.length=NL at *
 replace vb8:=zh vb8
 replace hok:=zh hok
 go_upto_region 8 with fail
 go_loopw [35] (λy wx=>∃i:Nat,i≤NL∧y=.int .i64 i∧vbx w wx lo ((l.take i).foldl vc7 .new) i) (λy _=>NL - (intOf y).toNat)
 case atStart=>exact⟨0,Nat.zero_le _,by go_num,T3⟩
 case round=>
  obtain⟨i,hi,rfl,hR⟩:=hrel;clear T3
  by_cases hlt:i<NL
  case neg=>
   obtain rfl:i=NL:=by omega
   go_wp2_with fail;refine bodyPost_ret (v:=.tuple #[.pointer (some ⟨lo.a,0,none⟩),.pointer (some ⟨lo.sb,0,none⟩),.bool true]) (by simp[results,Tryz.results13,go_sem]) rfl ⟨lo,rfl,?_⟩;rw[List.take_of_length_le (Nat.le_of_eq vb8.out)] at hR;exact hR.mono hl
  case pos =>
   obtain⟨x,hx⟩:∃x,l[i]? =some x:=⟨_,List.getElem?_eq_getElem (by rw[vb8.out];exact hlt)⟩
   obtain⟨b,o,rfl,va,vb,vc,QB,xU⟩:=(MT.agree (w':=wr) λb hb _=>hR.cV.block b hb).at hx;obtain⟨pa,ca,rfl,_⟩:=QB.a.shape;obtain⟨pb,cb,rfl,_⟩:=QB.b.shape;obtain⟨pc,cc,rfl,_⟩:=QB.c.shape;have c9:=vbr xU;have CK:=hok.out x (List.mem_of_getElem? hx);have hil:(i:Int)<(NL:Int):=by omega
   have hst:(l.take (i+1)).foldl vc7 .new=vc7 ((l.take i).foldl vc7 .new) x:=by
    rw[List.take_add_one,hx,List.foldl_append]
    rfl
   replace hst:=zh hst
   clear xU;go_upto_region 10 with fail;generalize vbw:World.alloc _ _=W2;have bO:Below wr.heap.size wr W2:=by rw[←vbw];exact(zb wr).alloc zr _
   have Fu:W2.heap[wr.heap.size]? =some (.cells #[.int .u8 (x.kd:Int),.string ⟨x.name.toArray⟩,.string ⟨x.src.toArray⟩,.string ⟨x.aO.toArray⟩,.slice pa x.uses.length ca,.int .i64 x.n,.int .i64 x.vdl,.slice pb (aH x.code).length cb,.slice pc (vbc x.keep).length cc] 46 (0,0)):=by rw[←vbw];exact heap_alloc_new wr _
   clear vbw c9;have b9:=vbj Fu;have LZ:=hR.below bO;have veh:=QB.a.below bO zr;have vfq:=QB.b.below bO zr;obtain⟨r,hr⟩:∃r,x.kd % 10=r:=⟨_,rfl⟩
   have vdc:(x.kd:Int) % 10=(r:Int):=by omega
   have hk1:(i:Int)+1≤9223372036854775807:=by omega
   have hop:vc7 ((l.take i).foldl vc7 .new) x=if r<3 then(if jg ((l.take i).foldl vc7 .new) x.name x.src x.aO x.uses=0 then ep ((l.take i).foldl vc7 .new) x.name x.src x.aO (aU 44 x.uses) else(l.take i).foldl vc7 .new) else if r=3 then(if vJ ((l.take i).foldl vc7 .new) x.name=0 then o8 ((l.take i).foldl vc7 .new) x.name else(l.take i).foldl vc7 .new) else if r<7 then vau ((l.take i).foldl vc7 .new) x.name x.code else(l.take i).foldl vc7 .new:=by
    unfold vc7;rw[hr]
   replace hop:=zh hop
   generalize (l.take i).foldl vc7 .new=L at *;have HP:=LZ.put (by omega) x.name x.src x.aO x.uses _ veh CK.vbk;have HD:=LZ.drop (by omega) x.name CK.vbk.ln;have HB:=vcu LZ (by omega) x.name x.code CK.vbk.ln _ vfq CK.code
   replace hr:=zh hr
   clear Fu hR QB veh vfq
   by_cases h3:r<3
   · have g1:(r:Int)<3:=by omega
     clear HD HB;go_wp2_with (go_at_call 21;refine HP.mono ?_;clear HP;rintro e w5 ⟨he,NS⟩;obtain⟨v1,v2,rfl⟩:∃v1 v2,e=.returned (.tuple #[v1,v2]):=⟨_,_,he⟩;clear he);exact⟨⟨i+1,hlt,by go_num,by rw[hst.out,hop.out,if_pos h3];exact NS⟩,by simp only[intOf];omega⟩
   · have g1:¬(r:Int)<3:=by omega
     clear HP
     by_cases h4:r=3
     · subst h4
       clear HB;go_wp2_with (go_at_call 28;refine HD.mono ?_;clear HD;rintro e w5 ⟨he,NS⟩;obtain⟨v1,rfl⟩:∃v1,e=.returned v1:=⟨_,he⟩;clear he);exact⟨⟨i+1,hlt,by go_num,by rw[hst.out,hop.out,if_neg h3,if_pos trivial];exact NS⟩,by simp only[intOf];omega⟩
     · have g2:((r:Int)==3)=false:=by simp;omega
       clear HD
       by_cases h7:r<7
       · have g3:(r:Int)<7:=by omega
         go_wp2_with (go_at_call 22;refine HB.mono ?_;clear HB;rintro e w5 ⟨he,NS⟩;obtain⟨v1,rfl⟩:∃v1,e=.returned v1:=⟨_,he⟩;clear he);exact⟨⟨i+1,hlt,by go_num,by rw[hst.out,hop.out,if_neg h3,if_neg h4,if_pos h7];exact NS⟩,by simp only[intOf];omega⟩
       · have g3:¬(r:Int)<7:=by omega
         clear HB;go_wp2_with fail;exact⟨⟨i+1,hlt,by go_num,by rw[hst.out,hop.out,if_neg h3,if_neg h4,if_neg h7];exact LZ.mono (Nat.le_succ i)⟩,by simp only[intOf];omega⟩
def vde (l:List vb4) (e:Ending):Prop:=∃q:Bool,e=.returned (.bool q)∧(q=true→(∀x∈l,vba x)∧l.length≤30)
theorem vbf (l : List vb4) (v : Value) (w : World) (hv : vav (fun b => b < w.heap.size) w v l) :
 Calls Tryz.prog 11 #[v] w λe w'=>vde l e∧Below w.heap.size w w':=by
 have MT:=hv
 obtain⟨p,c,rfl,_,hlm,_⟩:=hv
 go_enter Tryz.func11,Tryz.ntmps11
 go_upto_region 2 with fail
 generalize vb8:l.length=NL at *
 replace vb8:=zh vb8
 go_loopw [9] (λy wx=>∃i:Nat,i≤NL∧y=.int .i64 i∧(∀k x,k<i→l[k]? =some x→vba x)∧Below w.heap.size w wx) (λy _=>NL - (intOf y).toNat)
 case atStart=>exact⟨0,Nat.zero_le _,by go_num,λk x h=>absurd h (Nat.not_lt_zero _),zb _⟩
 case round =>
  obtain⟨i,hi,rfl,hex,gN⟩:=hrel
  by_cases hlt:i<NL
  case neg=>
   obtain rfl:i=NL:=by omega
   replace hex:=zh hex
   by_cases Ra:i≤30
   · have g1:(i:Int)≤30:=by omega
     go_wp2_with fail;go_ret;refine⟨⟨true,rfl,λ_=>⟨λx hx=>?_,by rw[vb8.out];exact Ra⟩⟩,gN⟩;obtain⟨k,hk⟩:=List.getElem?_of_mem hx;exact hex.out k x (by rw[←vb8.out];exact(List.getElem?_eq_some_iff.1 hk).1) hk
   · have g1:¬(i:Int)≤30:=by omega
     go_wp2_with fail;go_ret;exact⟨⟨false,rfl,λh=>by cases h⟩,gN⟩
  case pos =>
   obtain⟨x,hx⟩:∃x,l[i]? =some x:=⟨_,List.getElem?_eq_getElem (by rw[vb8.out];exact hlt)⟩
   obtain⟨b,o,rfl,va,vb,vc,QB,xU⟩:=(MT.agree (w':=wr) λb hb _=>gN.block b hb).at hx;obtain⟨pa,ca,rfl,_⟩:=QB.a.shape;obtain⟨pb,cb,rfl,_⟩:=QB.b.shape;obtain⟨pc,cc,rfl,_⟩:=QB.c.shape;have c9:=vbr xU;have hil:(i:Int)<(NL:Int):=by omega
   have hcl:(aH x.code).length=x.code.length:=ak _;have sA:(vbc x.keep).length=x.keep.length:=by simp[vbc]
   rw[hcl] at c9;rw[sA] at c9
   replace hex:=zh hex
   have vff:=QB.a;clear xU hcl sA QB;generalize vg5:x.name.length=vgy at *;generalize oN:x.src.length=vgz at *;generalize vg3:x.aO.length=vgx at *;generalize vet:x.uses.length=vh0 at *;generalize vg2:x.code.length=vgw at *;generalize vg4:x.keep.length=Lk at *;go_upto_region 4 with fail;generalize vbw:World.alloc _ _=W2;have bO:Below wr.heap.size wr W2:=by rw[←vbw];exact(zb wr).alloc zr _
   have Fu:W2.heap[wr.heap.size]? =some (.cells #[.int .u8 (x.kd:Int),.string ⟨x.name.toArray⟩,.string ⟨x.src.toArray⟩,.string ⟨x.aO.toArray⟩,.slice pa vh0 ca,.int .i64 x.n,.int .i64 x.vdl,.slice pb vgw cb,.slice pc Lk cc] 46 (0,0)):=by rw[←vbw];exact heap_alloc_new wr _
   clear vbw c9;have b9:=vbj Fu
   go_cut [82] from 13 to 83 (λq wx=>∃ok:Bool,q=.bool ok∧wx=W2∧(ok=false→vgy≤40∧vgz≤3010∧vgx≤3010∧vh0≤22∧vgw≤3010∧Lk≤200))
   case first =>
    by_cases n0:(40:Int)<(vgy:Int)
    · skip
      go_wp2_with fail
      go_meet
      case rel=>exact⟨true,rfl,rfl,λh=>by cases h⟩
    · skip
      by_cases s0:(300:Int)<(vgz:Int)
      · by_cases s1 : (vgz : Int) ≤ 3000
        · skip
          go_wp2_with fail
          go_meet
          case rel=>exact⟨true,rfl,rfl,λh=>by cases h⟩
        · by_cases s2 : (3010 : Int) < (vgz : Int)
          · skip
            go_wp2_with fail
            go_meet
            case rel=>exact⟨true,rfl,rfl,λh=>by cases h⟩
          · skip
            by_cases f0:(300:Int)<(vgx:Int)
            · by_cases f1 : (vgx : Int) ≤ 3000
              · skip
                go_wp2_with fail
                go_meet
                case rel=>exact⟨true,rfl,rfl,λh=>by cases h⟩
              · by_cases f2 : (3010 : Int) < (vgx : Int)
                · skip
                  go_wp2_with fail
                  go_meet
                  case rel=>exact⟨true,rfl,rfl,λh=>by cases h⟩
                · skip
                  by_cases vhn:(22:Int)<(vh0:Int)
                  · skip
                    go_wp2_with fail
                    go_meet
                    case rel=>exact⟨true,rfl,rfl,λh=>by cases h⟩
                  · skip
                    by_cases c0:(300:Int)<(vgw:Int)
                    · by_cases c1:(vgw:Int)≤3000
                      · skip
                        go_wp2_with fail
                        go_meet
                        case rel=>exact⟨true,rfl,rfl,λh=>by cases h⟩
                      · by_cases c2:(3010:Int)<(vgw:Int)
                        · skip
                          go_wp2_with fail
                          go_meet
                          case rel=>exact⟨true,rfl,rfl,λh=>by cases h⟩
                        · skip
                          by_cases k0:(200:Int)<(Lk:Int)
                          · skip
                            go_wp2_with fail
                            go_meet
                            case rel=>exact⟨true,rfl,rfl,λh=>by cases h⟩
                          · skip
                            go_wp2_with fail
                            go_meet
                            case rel=>exact⟨false,rfl,rfl,λ_=>⟨by omega,by omega,by omega,by omega,by omega,by omega⟩⟩
                    · have c2:¬(3010:Int)<(vgw:Int):=by omega
                      by_cases k0:(200:Int)<(Lk:Int)
                      · skip
                        go_wp2_with fail
                        go_meet
                        case rel=>exact⟨true,rfl,rfl,λh=>by cases h⟩
                      · skip
                        go_wp2_with fail
                        go_meet
                        case rel=>exact⟨false,rfl,rfl,λ_=>⟨by omega,by omega,by omega,by omega,by omega,by omega⟩⟩
            · have f2 : ¬ (3010 : Int) < (vgx : Int) := by omega
              by_cases vhn:(22:Int)<(vh0:Int)
              · skip
                go_wp2_with fail
                go_meet
                case rel=>exact⟨true,rfl,rfl,λh=>by cases h⟩
              · skip
                by_cases c0:(300:Int)<(vgw:Int)
                · by_cases c1:(vgw:Int)≤3000
                  · skip
                    go_wp2_with fail
                    go_meet
                    case rel=>exact⟨true,rfl,rfl,λh=>by cases h⟩
                  · by_cases c2:(3010:Int)<(vgw:Int)
                    · skip
                      go_wp2_with fail
                      go_meet
                      case rel=>exact⟨true,rfl,rfl,λh=>by cases h⟩
                    · skip
                      by_cases k0:(200:Int)<(Lk:Int)
                      · skip
                        go_wp2_with fail
                        go_meet
                        case rel=>exact⟨true,rfl,rfl,λh=>by cases h⟩
                      · skip
                        go_wp2_with fail
                        go_meet
                        case rel=>exact⟨false,rfl,rfl,λ_=>⟨by omega,by omega,by omega,by omega,by omega,by omega⟩⟩
                · have c2:¬(3010:Int)<(vgw:Int):=by omega
                  by_cases k0:(200:Int)<(Lk:Int)
                  · skip
                    go_wp2_with fail
                    go_meet
                    case rel=>exact⟨true,rfl,rfl,λh=>by cases h⟩
                  · skip
                    go_wp2_with fail
                    go_meet
                    case rel=>exact⟨false,rfl,rfl,λ_=>⟨by omega,by omega,by omega,by omega,by omega,by omega⟩⟩
      · have s2 : ¬ (3010 : Int) < (vgz : Int) := by omega
        by_cases f0:(300:Int)<(vgx:Int)
        · by_cases f1 : (vgx : Int) ≤ 3000
          · skip
            go_wp2_with fail
            go_meet
            case rel=>exact⟨true,rfl,rfl,λh=>by cases h⟩
          · by_cases f2 : (3010 : Int) < (vgx : Int)
            · skip
              go_wp2_with fail
              go_meet
              case rel=>exact⟨true,rfl,rfl,λh=>by cases h⟩
            · skip
              by_cases vhn:(22:Int)<(vh0:Int)
              · skip
                go_wp2_with fail
                go_meet
                case rel=>exact⟨true,rfl,rfl,λh=>by cases h⟩
              · skip
                by_cases c0:(300:Int)<(vgw:Int)
                · by_cases c1:(vgw:Int)≤3000
                  · skip
                    go_wp2_with fail
                    go_meet
                    case rel=>exact⟨true,rfl,rfl,λh=>by cases h⟩
                  · by_cases c2:(3010:Int)<(vgw:Int)
                    · skip
                      go_wp2_with fail
                      go_meet
                      case rel=>exact⟨true,rfl,rfl,λh=>by cases h⟩
                    · skip
                      by_cases k0:(200:Int)<(Lk:Int)
                      · skip
                        go_wp2_with fail
                        go_meet
                        case rel=>exact⟨true,rfl,rfl,λh=>by cases h⟩
                      · skip
                        go_wp2_with fail
                        go_meet
                        case rel=>exact⟨false,rfl,rfl,λ_=>⟨by omega,by omega,by omega,by omega,by omega,by omega⟩⟩
                · have c2:¬(3010:Int)<(vgw:Int):=by omega
                  by_cases k0:(200:Int)<(Lk:Int)
                  · skip
                    go_wp2_with fail
                    go_meet
                    case rel=>exact⟨true,rfl,rfl,λh=>by cases h⟩
                  · skip
                    go_wp2_with fail
                    go_meet
                    case rel=>exact⟨false,rfl,rfl,λ_=>⟨by omega,by omega,by omega,by omega,by omega,by omega⟩⟩
        · have f2 : ¬ (3010 : Int) < (vgx : Int) := by omega
          by_cases vhn:(22:Int)<(vh0:Int)
          · skip
            go_wp2_with fail
            go_meet
            case rel=>exact⟨true,rfl,rfl,λh=>by cases h⟩
          · skip
            by_cases c0:(300:Int)<(vgw:Int)
            · by_cases c1:(vgw:Int)≤3000
              · skip
                go_wp2_with fail
                go_meet
                case rel=>exact⟨true,rfl,rfl,λh=>by cases h⟩
              · by_cases c2:(3010:Int)<(vgw:Int)
                · skip
                  go_wp2_with fail
                  go_meet
                  case rel=>exact⟨true,rfl,rfl,λh=>by cases h⟩
                · skip
                  by_cases k0:(200:Int)<(Lk:Int)
                  · skip
                    go_wp2_with fail
                    go_meet
                    case rel=>exact⟨true,rfl,rfl,λh=>by cases h⟩
                  · skip
                    go_wp2_with fail
                    go_meet
                    case rel=>exact⟨false,rfl,rfl,λ_=>⟨by omega,by omega,by omega,by omega,by omega,by omega⟩⟩
            · have c2:¬(3010:Int)<(vgw:Int):=by omega
              by_cases k0:(200:Int)<(Lk:Int)
              · skip
                go_wp2_with fail
                go_meet
                case rel=>exact⟨true,rfl,rfl,λh=>by cases h⟩
              · skip
                go_wp2_with fail
                go_meet
                case rel=>exact⟨false,rfl,rfl,λ_=>⟨by omega,by omega,by omega,by omega,by omega,by omega⟩⟩
   case rest =>
    obtain⟨ok,rfl,vf7,hbd⟩:=hcut;have vf7:=vf7.symm;subst vf7;have vdu:=gN.trans (aa bO gN.size);rcases ok with _|_
    · obtain ⟨k1, k2, k3, k4, k5, k6⟩ := hbd rfl
      have NT:=vff.below bO zr;clear hbd vff Fu bO;go_upto_region 7 with fail;go_loopw [86] (λy wx=>∃m:Nat,m≤vh0∧y=.int .i64 m∧wx=W2∧∀k u,k<m→x.uses[k]? =some u→u.length≤40) (λy _=>vh0 - (intOf y).toNat)
      case atStart=>exact⟨0,Nat.zero_le _,by go_num,rfl,λk u h=>absurd h (Nat.not_lt_zero _)⟩
      case round =>
       rename_i vhq
       obtain⟨m,CH,rfl,vf6,vdp⟩:=hrel;have vf6:=vf6.symm;subst vf6
       by_cases hml:m<vh0
       case neg=>
        obtain rfl:m=vh0:=by omega
        have hok:vba x:=⟨⟨by rw[vg5];exact k1,by rw[oN];exact k2,by rw[vg3];exact k3,by rw[vet];exact k4,λu hu=>by
         obtain⟨k,hk⟩:=List.getElem?_of_mem hu;exact vdp k u (by rw[←vet];exact(List.getElem?_eq_some_iff.1 hk).1) hk⟩,by rw[vg2];exact k5,by rw[vg4];exact k6⟩
        have vf0:=zh (show ∀k y,k<i+1→l[k]? =some y→vba y from λk y hk hy=>by
         rcases Nat.lt_succ_iff_lt_or_eq.1 hk with h|rfl
         · exact hex.out k y h hy
         · rw[hx] at hy
           cases hy;exact hok)
        clear vdp hok hex;have hk1:(i:Int)+1≤9223372036854775807:=by unfold maxLen at hlm;omega
        go_wp2_with fail;exact⟨⟨i+1,hlt,by go_num,vf0.out,vdu⟩,by simp only[intOf];omega⟩
       case pos=>
        obtain⟨u,hu⟩:∃u,x.uses[m]? =some u:=⟨_,List.getElem?_eq_getElem (by rw[vet];exact hml)⟩
        obtain⟨vgm,vgn,rfl,_,d0⟩:=NT.at hu;have vgl:(m:Int)<(vh0:Int):=by omega
        by_cases NC:u.length≤40
        · have g1:¬(40:Int)<(u.length:Int):=by omega
          have vf4:=zh (show ∀k y,k<m+1→x.uses[k]? =some y→y.length≤40 from λk y hk hy=>by
           rcases Nat.lt_succ_iff_lt_or_eq.1 hk with h|rfl
           · exact vdp k y h hy
           · rw[hu] at hy
             cases hy;exact NC)
          clear vdp;have hk1:(m:Int)+1≤9223372036854775807:=by omega
          go_wp2_with fail;exact⟨⟨m+1,hml,by go_num,trivial,vf4.out⟩,by simp only[intOf];omega⟩
        · have g1:(40:Int)<(u.length:Int):=by omega
          clear vdp;go_wp2_with fail;go_ret;exact⟨⟨false,rfl,λh=>by cases h⟩,vdu⟩
    · clear hbd
      go_wp2_with fail;go_ret;exact⟨⟨false,rfl,λh=>by cases h⟩,vdu⟩
def vas (u:az) (a c d:Value):List Value:=[str u.name,.int .i64 (u.version:Int),str u.source,str u.aO,a,.bool u.built,c,d]
structure vap where
 u:az
 a:Value
 c:Value
 d:Value
structure vap.ok (D:Nat→Prop) (w:World) (x:vap):Prop where
 le:x.u.le
 a:SS D w x.a x.u.uses
 c:CV D w x.c (aH x.u.code)
 d:ck D w x.d x.u.used
theorem vap.ok.agree {D:Nat→Prop} {w w':World} {x:vap} (h:x.ok D w) (hk:∀b,D b→b<w.heap.size→w'.heap[b]? =w.heap[b]?):x.ok D w':=⟨h.le,h.a.agree hk,h.c.agree hk,h.d.agree hk⟩
theorem vap.ok.below {D:Nat→Prop} {w w':World} {x:vap} {K:Nat} (h:x.ok D w) (hb:Below K w w') (hK:w.heap.size≤K):x.ok D w':=h.agree λb _ hl=>hb.block b (by omega)
theorem ck.fresh {D:Nat→Prop} {w:World} {v:Value} {l:List (List UInt8×List UInt8)} (h:ck D w v l):ck (λb=>D b∧b<w.heap.size) w v l:=by
 obtain⟨p,c,h1,h2,h3,hl,h4⟩:=h
 refine⟨p,c,h1,h2,h3,hl,?_⟩
 rcases h4 with h4|⟨b,o,e1,h5,h6,h7⟩
 · exact .inl h4
 · exact .inr ⟨b,o,e1,⟨h5,h6⟩,h6,h7⟩
theorem vap.ok.mono {D D':Nat→Prop} {w:World} {x:vap} (h:x.ok D w) (hD:∀b,D b→b<w.heap.size→D' b):x.ok D' w:=
 ⟨h.le,h.a.fresh.mono λb hb=>hD b hb.1 hb.2,h.c.fresh.mono λb hb=>hD b hb.1 hb.2,h.d.fresh.mono λb hb=>hD b hb.1 hb.2⟩
def vb0 (L:List vap):List Value:=L.flatMap λx=>vas x.u x.a x.c x.d
def vb9 (K:Nat) (w:World) (v:Value) (L:List vap):Prop:=w.ownsRow K 41 8 v L.length (vb0 L)∧∀x∈L,x.ok (λb=>(v.ownBlock≠some b∧K≤b)∧vak w b) w
theorem vb9.below {K K':Nat} {w w':World} {v:Value} {L:List vap} (h:vb9 K w v L) (hb:Below K' w w') (hK:w.heap.size≤K'):vb9 K w' v L:=⟨aT h.1 hb hK,λx hx=>((h.2 x hx).mono λb hbb hl=>⟨hbb.1,hbb.2.keep (hb.block b (Nat.lt_of_lt_of_le hl hK))⟩).below hb hK⟩
theorem vd7:(Tryz.prog.info? 41).map (λi=>(i.zero,i.size,i.bytes))=some (some (.agg #[str [],.int .i64 0,str [],str [],.slice none 0 0,.bool false,.slice none 0 0,.slice none 0 0]),8,136):=by kernel_rfl
theorem vd2 {R:Nat→Prop} {w W:World} {l:Loc} {L:bh} {j:Nat} (h:vag R w W l L j):
 Calls Tryz.prog 17 #[.pointer (some ⟨l.sb,0,none⟩)] W λe W'=>(∃v us,e=.returned v∧vb9 W.heap.size W' v us∧us.map (·.u)=(bZ L.units).map (vah L.units))∧Below W.heap.size W W':=by
 have HN:=zy W h.read
 have hnm:=h.names
 go_enter Tryz.func17,Tryz.ntmps17
 go_upto_region 3 with(go_at_call 16;refine HN.mono ?_;clear HN;rintro e w1 ⟨nv,rfl,JC,aP⟩;obtain⟨np,nc,rfl⟩:=aJ JC)
 have vdj:∀s∈bZ L.units,s.length≤maxLen:=λs hs=>by have:=(hnm s hs).2;unfold maxLen;omega
 have vg9:=SS.row JC rfl vdj
 have h1:=h.below aP
 have hnl:(bZ L.units).length≤20:=by
  unfold bZ;rw[iP,List.length_map];exact h.inv.vh9
 clear JC
 generalize hNs:bZ L.units=vh2 at *
 generalize vb8:vh2.length=NL at *
 replace vb8:=zh vb8
 replace hNs:=zh hNs
 replace hnm:=zh hnm
 replace vdj:=zh vdj
 have Rx:W.heap.size≤w1.heap.size:=aP.size
 go_loopw [3,11] (λuv y wx=>∃(i:Nat) (us:List vap),i≤NL∧y=.int .i64 i∧us.length=i∧us.map (·.u)=(vh2.take i).map (vah L.units)∧vb9 w1.heap.size wx uv us∧Below w1.heap.size w1 wx) (λ_ y _=>NL - (intOf y).toNat)
 case atStart=>exact⟨0,[],Nat.zero_le _,by go_num,rfl,by simp,⟨World.ownsRow_nil _ _ _ _,λx hx=>by cases hx⟩,zb _⟩
 case round =>
  obtain⟨i,us,hi1,rfl,CJ,N4,hown,gN⟩:=hrel;obtain⟨qv,vhe,vgg⟩:=aJ hown.1;subst vgg
  by_cases hlt:i<NL
  case pos =>
   obtain⟨x,hx⟩:∃x,vh2[i]? =some x:=⟨_,List.getElem?_eq_getElem (by rw[vb8.out];exact hlt)⟩
   obtain⟨pb,po,rfl,_,d0⟩:=(vg9.below gN zr).at hx;have h3:=h1.below gN;have HX:=h3.vdb x (vdj.out x (List.mem_of_getElem? hx));have hil:(i:Int)<(NL:Int):=by omega
   have vdp:vam L.units x=0:=by unfold vam;rw[(hnm.out x (List.mem_of_getElem? hx)).1];rfl
   rw[vdp] at HX;have ve0:us.map (·.u)++[vah L.units x]=(vh2.take (i+1)).map (vah L.units):=by
    rw[List.take_add_one,hx,N4];simp
   replace ve0:=zh ve0
   generalize vds:vah L.units x=X0 at HX
   replace vds:=zh vds
   obtain⟨i0,kN,hz0,hz1,hz2⟩:=aV vd7;clear vdp N4;go_upto_region 6 with(go_at_call 27;refine HX.mono ?_;clear HX;rintro e w5 ⟨⟨uv,rfl,va,vc,vd,rfl,vd6,vc4,vc5,vc6⟩,oo⟩;obtain⟨s1,s2,rfl,_⟩:=vc4.shape;obtain⟨s3,s4,rfl,_⟩:=vc5.shape;obtain⟨vhk,vhl,rfl,_⟩:=vc6.shape);generalize Hw:World.alloc _ _=W6;have rE:Below w5.heap.size w5 W6:=by rw[←Hw];exact(zb w5).alloc zr _
   have vch:W6.heap[w5.heap.size]? =some (.cells #[.string ⟨X0.name.toArray⟩,.int .i64 (X0.version:Int),.string ⟨X0.source.toArray⟩,.string ⟨X0.aO.toArray⟩,.slice s1 X0.uses.length s2,.bool X0.built,.slice s3 (aH X0.code).length s4,.slice vhk X0.used.length vhl] 41 (0,0)):=by rw[←Hw];exact heap_alloc_new w5 _
   clear Hw;have b6:=(vao vch).1;have vdh:=oo.trans (aa rE oo.size);have vc2:=gN.trans (aa vdh gN.size);have vc3:=hown.below vdh zr;have vfk:∀b,(Value.slice qv i vhe).ownBlock=some b→w1.heap.size≤b∧b<wr.heap.size:=λb hb=>hown.1.lt b (by rw[CJ];exact hb)
   have hnew:vap.ok (λb=>((Value.slice qv i vhe).ownBlock≠some b∧w1.heap.size≤b)∧vak W6 b) W6 ⟨X0,.slice s1 X0.uses.length s2,.slice s3 (aH X0.code).length s4,.slice vhk X0.used.length vhl⟩:=by
    have hD:∀b,wr.heap.size≤b∧vak w5 b→((Value.slice qv i vhe).ownBlock≠some b∧w1.heap.size≤b)∧vak W6 b:=λb hb=>⟨⟨λe=>by have:=(vfk b e).2;omega,Nat.le_trans gN.size hb.1⟩,hb.2.below rE zr⟩
    exact⟨vd6,(vc4.below rE zr).mono hD,(vc5.below rE zr).mono hD,(vc6.below rE zr).mono hD⟩
   have CA:Below W6.heap.size W6 (W6.alloc (.cells #[.string ⟨X0.name.toArray⟩,.int .i64 (X0.version:Int),.string ⟨X0.source.toArray⟩,.string ⟨X0.aO.toArray⟩,.slice s1 X0.uses.length s2,.bool X0.built,.slice s3 (aH X0.code).length s4,.slice vhk X0.used.length vhl] 41)):=(zb W6).alloc zr _;have vf2:=heap_alloc_new W6 (.cells #[.string ⟨X0.name.toArray⟩,.int .i64 (X0.version:Int),.string ⟨X0.source.toArray⟩,.string ⟨X0.aO.toArray⟩,.slice s1 X0.uses.length s2,.bool X0.built,.slice s3 (aH X0.code).length s4,.slice vhk X0.used.length vhl] 41);have MB:=aT vc3.1 CA zr;rw[CJ] at MB;have xR:=vc2.trans (aa CA vc2.size);clear vc4 vc5 vc6 hown vch;go_wp2_with (at_builtin;refine gK _ rfl _ _ 36 rfl w1.heap.size 41 i0 _ 8 136 (by kernel_rfl) kN hz0 hz1 hz2 rfl (by decide) _ i _ rfl MB ⟨W6.heap.size,0,none⟩ 1 1 (vas X0 (.slice s1 X0.uses.length s2) (.slice s3 (aH X0.code).length s4) (.slice vhk X0.used.length vhl)) rfl rfl (λj u hj=>by rw[eH];exact(af vf2 (0+j)).trans (by simpa[vas] using hj)) (λu hu=>by unfold vas at hu;simp only[List.mem_cons,List.not_mem_nil,or_false] at hu;rcases hu with rfl|rfl|rfl|rfl|rfl|rfl|rfl|rfl<;>rfl) (by decide) (by unfold maxLen;omega) (by omega) xR.size ?_;intro v' w7 vct hgr Qd);have MJ:(W6.alloc (.cells #[.string ⟨X0.name.toArray⟩,.int .i64 (X0.version:Int),.string ⟨X0.source.toArray⟩,.string ⟨X0.aO.toArray⟩,.slice s1 X0.uses.length s2,.bool X0.built,.slice s3 (aH X0.code).length s4,.slice vhk X0.used.length vhl] 41)).heap.size=W6.heap.size+1:=by simp
   have hkeep:∀y:vap,y.ok (λb=>((Value.slice qv i vhe).ownBlock≠some b∧w1.heap.size≤b)∧vak W6 b) W6→y.ok (λb=>(v'.ownBlock≠some b∧w1.heap.size≤b)∧vak w7 b) w7:=λy hy=>by
    have e1:∀b,(Value.slice qv i vhe).ownBlock≠some b→b<W6.heap.size→w7.heap[b]? =W6.heap[b]? :=λb hb hl=>(hgr.block b (by rw[MJ];omega) (λe=>hb e.symm)).trans (CA.block b hl)
    have hy2:=hy.mono (D':=λb=>(((Value.slice qv i vhe).ownBlock≠some b∧w1.heap.size≤b)∧vak W6 b)∧b<W6.heap.size) λb hb hl=>⟨hb,hl⟩
    refine(hy2.agree λb hb hl=>e1 b hb.1.1.1 hl).mono λb hb _=>⟨⟨λe=>?_,hb.1.1.2⟩,hb.1.2.keep (e1 b hb.1.1.1 hb.2)⟩
    rcases Qd with Qd|Qd
    · rw[Qd] at e
      exact hb.1.1.1 e
    · rw[Qd,MJ] at e
      cases e;omega
   refine⟨⟨i+1,us++[⟨X0,.slice s1 X0.uses.length s2,.slice s3 (aH X0.code).length s4,.slice vhk X0.used.length vhl⟩],hlt,by go_num,by simp[CJ],?_,⟨?_,λy hy=>hkeep y ?_⟩,?_⟩,by simp only[intOf];omega⟩
   · rw[List.map_append,←ve0.out,vds.out]
     rfl
   · rw[List.length_append,CJ]
     rw[show vb0 (us++[⟨X0,.slice s1 X0.uses.length s2,.slice s3 (aH X0.code).length s4,.slice vhk X0.used.length vhl⟩])=vb0 us++vas X0 (.slice s1 X0.uses.length s2) (.slice s3 (aH X0.code).length s4) (.slice vhk X0.used.length vhl) by simp[vb0]];exact vct
   · rcases List.mem_append.1 hy with hy|hy
     · have:=vc3.2 y hy
       rw[CJ] at this;exact this
     · rw[List.mem_singleton.1 hy]
       exact hnew
   · exact xR.grown hgr (by have:=xR.size;omega) λb e=>(vfk b e).1
  case neg=>
   obtain rfl:i=NL:=by omega
   go_wp2_with fail;go_ret;refine⟨⟨_,us,rfl,⟨ef hown.1 Rx,λx hx=>(hown.2 x hx).mono λb hb _=>⟨⟨hb.1.1,Nat.le_trans Rx hb.1.2⟩,hb.2⟩⟩,?_⟩,aP.trans (aa gN Rx)⟩;rw[N4,List.take_of_length_le (Nat.le_of_eq vb8.out)];rw[hNs.out]
theorem vbv {D D':Nat→Prop} (u:az) (v v':Value) (w:World) (hv:dN D w v u) (Qv:dN D' w v' u):
 Calls Tryz.prog 26 #[v,v'] w λe w'=>e=.returned (.bool true)∧Below w.heap.size w w':=by
 obtain⟨a,c,d,rfl,hle,ha,hc,hd⟩:=hv
 obtain⟨a',c',d',rfl,_,vey,Uv,hd'⟩:=Qv
 obtain⟨q1,q2,rfl,_⟩:=ha.shape
 obtain⟨q3,q4,rfl,_⟩:=hc.shape
 obtain⟨q5,q6,rfl,_,Gg⟩:=hd.shape
 obtain⟨r1,r2,rfl,_⟩:=vey.shape
 obtain⟨r3,r4,rfl,_⟩:=Uv.shape
 obtain⟨vhg,vhh,rfl,_⟩:=hd'.shape
 go_enter Tryz.func26,Tryz.ntmps26
 go_upto_region 1 with fail
 generalize rB:World.alloc _ _=W1
 obtain⟨hg1,hg2,aP⟩:W1.heap[w.heap.size]? =some (.cells #[str u.name,.int .i64 (u.version:Int),str u.source,str u.aO,.slice q1 u.uses.length q2,.bool u.built,.slice q3 (aH u.code).length q4,.slice q5 u.used.length q6] 41 (0,0))∧W1.heap[w.heap.size+1]? =some (.cells #[str u.name,.int .i64 (u.version:Int),str u.source,str u.aO,.slice r1 u.uses.length r2,.bool u.built,.slice r3 (aH u.code).length r4,.slice vhg u.used.length vhh] 41 (0,0))∧Below w.heap.size w W1:=by
  rw[←rB];have hA:=(zb w).alloc zr (.cells #[str u.name,.int .i64 (u.version:Int),str u.source,str u.aO,.slice q1 u.uses.length q2,.bool u.built,.slice q3 (aH u.code).length q4,.slice q5 u.used.length q6] 41);have hn:=heap_alloc_new w (.cells #[str u.name,.int .i64 (u.version:Int),str u.source,str u.aO,.slice q1 u.uses.length q2,.bool u.built,.slice q3 (aH u.code).length q4,.slice q5 u.used.length q6] 41);have hs:(w.alloc (.cells #[str u.name,.int .i64 (u.version:Int),str u.source,str u.aO,.slice q1 u.uses.length q2,.bool u.built,.slice q3 (aH u.code).length q4,.slice q5 u.used.length q6] 41)).heap.size=w.heap.size+1:=by simp
  generalize w.alloc (.cells #[str u.name,.int .i64 (u.version:Int),str u.source,str u.aO,.slice q1 u.uses.length q2,.bool u.built,.slice q3 (aH u.code).length q4,.slice q5 u.used.length q6] 41)=W0 at *;refine⟨(((zb W0).alloc zr _).block _ (by omega)).trans hn,?_,hA.alloc (by omega) _⟩;rw[←hs];exact heap_alloc_new W0 _
 clear rB
 have b1:=(vao hg1).1
 have b2:=(vao hg2).1
 have ha1:=ha.below aP zr
 have ha2:=vey.below aP zr
 have hw1:=aj hg1
 have MW:=aj hg2
 have Hy:=hd.below aP zr
 have hd2:=hd'.below aP zr
 have hc1:=hc.below aP zr
 have yp:=Uv.below aP zr
 clear ha vey hc Uv hd hd'
 generalize vd3:u.used.length=vh1 at *
 replace vd3:=zh vd3
 go_upto_region 4 with(go_at_call 51;refine(gZ u.uses u.uses _ _ _ ha1 ha2).mono ?_;rintro e w5 ⟨rfl,oo⟩;have b3:=(vao (ag hg1 oo)).1;have b4:=(vao (ag hg2 oo)).1;have yF:=FM (hc1.below oo zr);have rH:=FM (yp.below oo zr))
 have hg3:=ag hg1 oo
 have hg4:=ag hg2 oo
 have NW:=Hy.below oo zr
 have vgc:=hd2.below oo zr
 have rE:=aP.trans (aa oo aP.size)
 clear b1 b2 b3 b4 yF rH ha1 ha2 hc1 yp Hy hd2 hg1 hg2 oo aP
 go_loopw [5] (λy wx=>∃i:Nat,i≤vh1∧y=.int .i64 i∧Below w5.heap.size w5 wx) (λy _=>vh1 - (intOf y).toNat)
 case atStart=>exact⟨0,Nat.zero_le _,by go_num,zb _⟩
 case round=>
  obtain⟨i,hi,rfl,gN⟩:=hrel;have Hz:=ag hg3 gN;have HH:=ag hg4 gN;have b5:=(vao Hz).1;have b6:=(vao HH).1
  by_cases hlt:i<vh1
  case neg=>
   obtain rfl:i=vh1:=by omega
   go_wp2_with fail;go_ret;exact⟨rfl,rE.trans (aa gN rE.size)⟩
  case pos=>
   obtain⟨x,hx⟩:∃x,u.used[i]? =some x:=⟨_,List.getElem?_eq_getElem (by rw[vd3.out];exact hlt)⟩
   obtain⟨p1,o1,rfl,_,d0,d1⟩:=(NW.below gN zr).at hx;obtain⟨p2,o2,rfl,_,d2,d3⟩:=(vgc.below gN zr).at hx;have hil:(i:Int)<(vh1:Int):=by omega
   have hk1:(i:Int)+1≤9223372036854775807:=by unfold maxLen at Gg;omega
   go_upto_region 6 with fail;clear b5 b6;refine u5 (D:=λ_=>True) (w:=wr) (d:=some 82) 10 [(2,vP w.heap.size 0),(3,vP (w.heap.size+1) 0),(5,vI i)] [vP w.heap.size 7,.eq (.slice (some ⟨p1,o1,none⟩) vh1 q6),vI i,vP p1 (o1+i * 2),.eq (.agg #[str x.1,str x.2]),vP (w.heap.size+1) 7,.eq (.slice (some ⟨p2,o2,none⟩) vh1 vhh),vI i,vP p2 (o2+i * 2),.eq (.agg #[str x.1,str x.2]),.eq (.bool false)]
    (λw'=>Below wr.heap.size wr w') (by kernel_rfl) rfl rfl (λ_ _ h hb=>h.trans (aa hb h.size)) (zb wr).drew ⟨rfl,rfl,rfl,trivial⟩ ?_ ?_
   · refine⟨gQ rfl (by kernel_rfl) rfl rfl (λw=>by simp[go_sem]),dV rfl (by kernel_rfl) rfl rfl (λW hS=>by have c1:=(vao (ag Hz hS)).1;simp[go_sem,c1]),iU rfl rfl (by kernel_rfl),iQ rfl (by kernel_rfl) rfl rfl rfl (λw=>by simp[go_sem,hil]),dV rfl (by kernel_rfl) rfl rfl (λW hS=>by have c1:=Below.keep hS d0;have c2:=Below.keep hS d1;simp[go_sem,c1,c2]),gQ rfl (by kernel_rfl) rfl rfl (λw=>by simp[go_sem]),dV rfl (by kernel_rfl) rfl rfl (λW hS=>by have c1:=(vao (ag HH hS)).1;simp[go_sem,c1]),iU rfl rfl (by kernel_rfl),iQ rfl (by kernel_rfl) rfl rfl rfl (λw=>by simp[go_sem,hil]),dV rfl (by kernel_rfl) rfl rfl (λW hS=>by have c1:=Below.keep hS d2;have c2:=Below.keep hS d3;simp[go_sem,c1,c2]),gJ rfl (by kernel_rfl) rfl rfl rfl (λw=>by simp[go_sem]),trivial⟩
   intro av W4 Hu _ _;simp only[pq,pz,pw];go_wp2_with fail;exact⟨⟨i+1,hlt,by go_num,gN.trans (aa Hu gN.size)⟩,by simp only[intOf];omega⟩
theorem vcm {w:World} {B k n c:Nat} {t:TypeId} {p:Option Addr} {cs:List Value} (h:w.ownsRow B t k (.slice p n c) n cs) (h0:0<n):∃g,p=some ⟨g,0,none⟩∧∀j u,cs[j]? =some u→w.cell? ⟨g,j,none⟩=some u:=by
 rcases h.2 with⟨_,h1⟩|⟨g,cap,cur,e,_⟩
 · omega
 · injection e with e1 _ _
   subst e1;refine⟨g,rfl,λj u hj=>?_⟩;have:=h.cells (g:=g) rfl j u hj
   rwa [eH,Nat.zero_add] at this
def van (D:Nat→Prop) (w:World) (v:Value) (l:List az):Prop:=
 ∃p c,v=.slice p l.length c∧l.length≤maxLen∧(l=[]∨∃b o,p=some ⟨b,o,none⟩∧D b∧b<w.heap.size∧∀j u,l[j]? =some u→∃a c d,vap.ok D w ⟨u,a,c,d⟩∧w.rangeAt b (o+j * 8) (vas u a c d))
theorem van.agree {D:Nat→Prop} {w w':World} {v:Value} {l:List az} (h:van D w v l) (hk:∀b,D b→b<w.heap.size→w'.heap[b]? =w.heap[b]?):van D w' v l:=by
 obtain⟨p,c,h1,h2,h3⟩:=h
 refine⟨p,c,h1,h2,?_⟩
 rcases h3 with h3|⟨b,o,e,h4,h5,h6⟩
 · exact .inl h3
 · refine .inr ⟨b,o,e,h4,wT (hk b h4 h5) h5,λj u hj=>?_⟩
   obtain⟨a,c,d,k1,k2⟩:=h6 j u hj;refine⟨a,c,d,k1.agree hk,λi x hi=>?_⟩;rw[World.cell?_of_block (w:=w) (a:=⟨b,o+j * 8+i,none⟩) (hk b h4 h5)];exact k2 i x hi
theorem van.mono {D D':Nat→Prop} {w:World} {v:Value} {l:List az} (h:van D w v l) (hD:∀b,D b→D' b):van D' w v l:=by
 obtain⟨p,c,h1,h2,h3⟩:=h
 refine⟨p,c,h1,h2,?_⟩
 rcases h3 with h3|⟨b,o,e,h4,h5,h6⟩
 · exact .inl h3
 · refine .inr ⟨b,o,e,hD b h4,h5,λj u hj=>?_⟩
   obtain⟨a,c,d,k1,k2⟩:=h6 j u hj;exact⟨a,c,d,k1.mono λb hb _=>hD b hb,k2⟩
theorem van.below {D:Nat→Prop} {w w':World} {v:Value} {l:List az} {K:Nat} (h:van D w v l) (hb:Below K w w') (hK:w.heap.size≤K):van D w' v l:=h.agree λb _ hl=>hb.block b (by omega)
theorem van.at {D:Nat→Prop} {w:World} {p:Option Addr} {n c:Nat} {l:List az} (h:van D w (.slice p n c) l) {j:Nat} {u:az} (hj:l[j]? =some u):∃b o,p=some ⟨b,o,none⟩∧∃a c d,vap.ok D w ⟨u,a,c,d⟩∧w.rangeAt b (o+j * 8) (vas u a c d):=by
 obtain⟨p',c',e,_,h4⟩:=h
 injection e with e1 _ _
 subst e1
 rcases h4 with h4|⟨b,o,e,h5,h6,h7⟩
 · rw[h4] at hj
   simp at hj
 · exact⟨b,o,e,h7 j u hj⟩
theorem vbg:∀(L:List vap) (j:Nat) (x:vap),L[j]? =some x→∀(i:Nat) (v:Value),(vas x.u x.a x.c x.d)[i]? =some v→(vb0 L)[j * 8+i]? =some v
 | [],j,x,h,_,_,_=>by simp at h
 | y::L,0,x,h,i,v,hi=>by
  obtain rfl:y=x:=by simpa using h
  rw[Nat.zero_mul,Nat.zero_add]
  show(vas y.u y.a y.c y.d++vb0 L)[i]? =some v
  rw[List.getElem?_append_left (List.getElem?_eq_some_iff.1 hi).1];exact hi
 | y::L,j+1,x,h,i,v,hi=>by
  show(vas y.u y.a y.c y.d++vb0 L)[(j+1) * 8+i]? =some v
  have hl:(vas y.u y.a y.c y.d).length=8:=rfl;rw[List.getElem?_append_right (by omega),hl,show(j+1) * 8+i - 8=j * 8+i by omega];exact vbg L j x (by simpa using h) i v hi
theorem vb9.units {K:Nat} {w:World} {v:Value} {us:List vap} (h:vb9 K w v us) (hl:us.length≤maxLen):van (λb=>K≤b∧vak w b) w v (us.map (·.u)):=by
 have hn:(us.map (·.u)).length=us.length:=List.length_map ..
 obtain⟨p,c,hv⟩:=aJ h.1
 refine⟨p,c,by rw[hn];exact hv,by rw[hn];exact hl,?_⟩
 subst hv
 by_cases h0:us.length=0
 · left
   exact List.length_eq_zero_iff.1 (by rw[hn];exact h0)
 · right
   have hlt:=λg (hg:(Value.slice p us.length c).ownBlock=some g)=>h.1.lt g hg
   have hrb:=vak.own h.1 (by decide);obtain⟨g,rfl,hg⟩:=vcm h.1 (by omega);refine⟨g,0,rfl,hrb g rfl,(hlt g rfl).2,λj u hj=>?_⟩;rw[List.getElem?_map] at hj;obtain⟨x,hx,rfl⟩:=Option.map_eq_some_iff.1 hj;refine⟨x.a,x.c,x.d,(h.2 x (List.mem_of_getElem? hx)).mono λb hb _=>⟨hb.1.2,hb.2⟩,λi z hi=>?_⟩;rw[Nat.zero_add];exact hg _ _ (vbg us j x hx i z hi)
theorem vbh {R:Nat→Prop} {w W:World} {l:Loc} {L:bh} {j:Nat} (h:vag R w W l L j):
 Calls Tryz.prog 17 #[.pointer (some ⟨l.sb,0,none⟩)] W λe W'=>(∃v,e=.returned v∧van (λb=>W.heap.size≤b∧vak W' b) W' v ((bZ L.units).map (vah L.units)))∧Below W.heap.size W W':=by
 refine(vd2 h).mono ?_
 rintro e W' ⟨⟨v,us,rfl,ho,hm⟩,hb⟩
 refine⟨⟨v,rfl,?_⟩,hb⟩
 rw[←hm]
 refine ho.units ?_
 have e:=congrArg List.length hm
 rw[List.length_map,List.length_map] at e
 have:=h.inv.vh9
 unfold bZ at e
 rw[iP,List.length_map] at e
 unfold maxLen
 omega
theorem vag.IA {R:Nat→Prop} {w W:World} {l:Loc} {L:bh} {j:Nat} (h:vag R w W l L j):
 Calls Tryz.prog 24 #[.pointer (some ⟨l.sb,0,none⟩)] W λe W'=>(∃v,e=.returned v∧SS (λb=>W.heap.size≤b∧vak W' b) W' v (lZ L.units))∧Below W.heap.size W W':=by
 have hl:∀n∈bZ L.units,n.length≤maxLen:=λn hn=>by have:=(h.names n hn).2;unfold maxLen;omega
 refine(zD W h.read hl).mono ?_
 rintro e W' ⟨v,rfl,ho,hb⟩
 refine⟨⟨v,rfl,SS.eZ ho (λn hn=>hl n ?_) (vak.own ho (by decide))⟩,hb⟩
 unfold lZ at hn
 exact(List.mem_filter.1 hn).1
theorem vax {w:World} {b o:Nat} {u:az} {a c d:Value} (h:w.rangeAt b o (vas u a c d)):
 w.cell? ⟨b,o,none⟩=some (str u.name)∧w.cell? ⟨b,o+1,none⟩=some (.int .i64 (u.version:Int))∧w.cell? ⟨b,o+2,none⟩=some (str u.source)∧w.cell? ⟨b,o+3,none⟩=some (str u.aO)∧w.cell? ⟨b,o+4,none⟩=some a∧w.cell? ⟨b,o+5,none⟩=some (.bool u.built)∧w.cell? ⟨b,o+6,none⟩=some c∧w.cell? ⟨b,o+7,none⟩=some d:=
 ⟨h 0 _ rfl,h 1 _ rfl,h 2 _ rfl,h 3 _ rfl,h 4 _ rfl,h 5 _ rfl,h 6 _ rfl,h 7 _ rfl⟩
theorem vbz {D D':Nat→Prop} (l:List az) (v v':Value) (w:World) (hv:van D w v l) (Qv:van D' w v' l):
 Calls Tryz.prog 25 #[v,v',.func (.func 26) #[] #[]] w λe w'=>e=.returned (.bool true)∧Below w.heap.size w w':=by
 have MT:=hv
 have yF:=Qv
 obtain⟨p,c,rfl,hlm,-⟩:=hv
 obtain⟨p',c',rfl,-,-⟩:=Qv
 go_enter Tryz.func25,Tryz.ntmps25
 go_upto_region 4 with fail
 generalize vb8:l.length=NL at *
 replace vb8:=zh vb8
 go_loopw [17] (λy wx=>∃i:Nat,i≤NL∧y=.int .i64 i∧Below w.heap.size w wx) (λy _=>NL - (intOf y).toNat)
 case atStart=>exact⟨0,Nat.zero_le _,by go_num,zb _⟩
 case round=>
  obtain⟨i,hi,rfl,gN⟩:=hrel
  by_cases hlt:i<NL
  case neg=>
   obtain rfl:i=NL:=by omega
   go_wp2_with fail;go_ret;exact⟨rfl,gN⟩
  case pos=>
   obtain⟨x,hx⟩:∃x,l[i]? =some x:=⟨_,List.getElem?_eq_getElem (by rw[vb8.out];exact hlt)⟩
   obtain⟨b1,o1,rfl,a1,c1,d1,Bn,hr1⟩:=(MT.below gN zr).at hx;obtain⟨b2,o2,rfl,a2,c2,d2,Bo,hr2⟩:=(yF.below gN zr).at hx;have k1:=vax hr1;have k2:=vax hr2;obtain⟨s1,s2,e1,-⟩:=Bn.a.shape;obtain⟨s3,s4,e2,-⟩:=Bn.c.shape;obtain⟨vhk,vhl,e3,-⟩:=Bn.d.shape;obtain⟨t1,t2,e4,-⟩:=Bo.a.shape;obtain⟨t3,t4,e5,-⟩:=Bo.c.shape;obtain⟨t5,t6,e6,-⟩:=Bo.d.shape;dsimp only at e1 e2 e3 e4 e5 e6;subst e1 e2 e3 e4 e5 e6;have hil:(i:Int)<(NL:Int):=by omega
   have hk1:(i:Int)+1≤9223372036854775807:=by unfold maxLen at hlm;omega
   replace Bn:=zh Bn
   replace Bo:=zh Bo
   replace hr2:=zh hr2
   clear hr1 hx MT yF k2;go_upto_region 6 with fail;generalize hW:World.alloc _ _=W5;have oo:Below wr.heap.size wr W5:=by rw[←hW];exact(zb wr).alloc zr _
   have vfi:W5.heap[wr.heap.size]? =some (.cells #[.string ⟨x.name.toArray⟩,.int .i64 (x.version:Int),.string ⟨x.source.toArray⟩,.string ⟨x.aO.toArray⟩,.slice s1 x.uses.length s2,.bool x.built,.slice s3 (aH x.code).length s4,.slice vhk x.used.length vhl] 41 (0,0)):=by rw[←hW];exact heap_alloc_new wr _
   clear hW k1;have k2:=vax (w:=W5) (λj u hj=>Below.keep oo (hr2.out j u hj));go_upto_region 7 with fail;generalize hW:World.alloc _ _=W6;have rE:Below W5.heap.size W5 W6:=by rw[←hW];exact(zb W5).alloc zr _
   have vch:W6.heap[W5.heap.size]? =some (.cells #[.string ⟨x.name.toArray⟩,.int .i64 (x.version:Int),.string ⟨x.source.toArray⟩,.string ⟨x.aO.toArray⟩,.slice t1 x.uses.length t2,.bool x.built,.slice t3 (aH x.code).length t4,.slice t5 x.used.length t6] 41 (0,0)):=by rw[←hW];exact heap_alloc_new W5 _
   clear hW k2;have vee:=ag vfi rE;have b6:=(vao vee).1;have b7:=(vao vch).1;have vdh:=oo.trans (aa rE oo.size);have DE:=Bn.out.below vdh zr;have NT:=Bo.out.below vdh zr;have HS:=vbv x _ _ W6 ⟨_,_,_,rfl,DE.le,DE.a,DE.c,DE.d⟩ ⟨_,_,_,rfl,NT.le,NT.a,NT.c,NT.d⟩;have xQ:=gN.trans (aa vdh gN.size);clear DE NT vfi vch vee oo rE;go_wp2_with (go_at_call 26;refine HS.mono ?_;clear HS;rintro e w9 ⟨rfl,kM⟩);exact⟨⟨i+1,hlt,by go_num,xQ.trans (aa kM xQ.size)⟩,by simp only[intOf];omega⟩
theorem vco {D D' : Nat → Prop} (a b : List (List UInt8)) (v u : Value) (w : World) (hv : SS D w v a) (hu : SS D' w u b) :
 Calls Tryz.prog 29 #[v,u] w λe w'=>e=.returned (.bool (decide (a=b)))∧Below w.heap.size w w':=by
 have MT:=hv
 have veg:=hu
 obtain⟨p,c,rfl,-,hlm,-⟩:=hv.shape
 obtain⟨q,c',rfl,-,-,-⟩:=hu.shape
 clear hv hu
 by_cases hl:a.length=b.length
 · generalize hQ:decide (a=b)=Q
   replace hQ:=zh hQ
   go_enter Tryz.func29,Tryz.ntmps29;rw[←hl];rw[←hl] at veg;generalize vb8:a.length=NL at *
   replace vb8:=zh vb8
   replace hl:=zh hl
   go_upto_region 4 with fail;go_loopw [13] (λy wx=>∃i:Nat,i≤NL∧y=.int .i64 i∧a.take i=b.take i∧Below w.heap.size w wx) (λy _=>NL - (intOf y).toNat)
   case atStart=>exact⟨0,Nat.zero_le _,by go_num,by simp,zb _⟩
   case round =>
    obtain⟨i,hi,rfl,qi,gN⟩:=hrel
    by_cases hlt:i<NL
    case neg=>
     obtain rfl:i=NL:=by omega
     have hab:a=b:=by rwa [List.take_of_length_le (Nat.le_of_eq vb8.out),List.take_of_length_le (by rw[←hl.out];exact nl _)] at qi
     have Ht:Q=true:=by rw[←hQ.out];exact decide_eq_true hab
     replace Ht:=zh Ht
     clear qi hab;go_wp2_with fail;go_ret;exact⟨by rw[Ht.out];rfl,gN⟩
    case pos=>
     obtain⟨x,hx⟩:∃x,a[i]? =some x:=⟨_,List.getElem?_eq_getElem (by rw[vb8.out];exact hlt)⟩
     obtain⟨y,hy⟩:∃y,b[i]? =some y:=⟨_,List.getElem?_eq_getElem (by rw[←hl.out];exact hlt)⟩
     obtain⟨b1,o1,rfl,_,d0⟩:=(MT.below gN zr).at hx;obtain⟨b2,o2,rfl,_,d1⟩:=(veg.below gN zr).at hy;have hil:(i:Int)<(NL:Int):=by omega
     have hk1:(i:Int)+1≤9223372036854775807:=by unfold maxLen at hlm;omega
     have Qs:x=y→a.take (i+1)=b.take (i+1):=λe=>by rw[List.take_add_one,List.take_add_one,hx,hy,qi,e]
     have hne:x≠y→Q=false:=λe=>by
      rw[←hQ.out];refine decide_eq_false λh=>e ?_
      subst h;rw[hx] at hy;cases hy
      rfl
     replace Qs:=zh Qs
     replace hne:=zh hne
     replace hx:=zh hx
     replace hy:=zh hy
     clear qi;go_upto_region 6 with fail
     by_cases hxy:x=y
     · have vdz:=Qs.out hxy
       subst hxy
       replace vdz:=zh vdz
       refine Go.Proofs.YtemjidmkolfgnaaGreatDoor.u5 (D:=λ_=>True) (w:=wr) (d:=some 24) 8 [(0,.eq (.slice (some ⟨b1,o1,none⟩) NL c)),(1,.eq (.slice (some ⟨b2,o2,none⟩) NL c')),(5,vI i)] [.eq (.slice (some ⟨b1,o1,none⟩) NL c),vI i,vP b1 (o1+i),.eq (str x),.eq (.slice (some ⟨b2,o2,none⟩) NL c'),vI i,vP b2 (o2+i),.eq (str x),.eq (.bool false)]
        (λw'=>Below wr.heap.size wr w') (by kernel_rfl) rfl rfl (λ_ _ h hb=>h.trans (aa hb h.size)) (zb wr).drew ⟨rfl,rfl,rfl,trivial⟩ ?_ ?_
       · exact⟨iU rfl rfl (by kernel_rfl),iU rfl rfl (by kernel_rfl),iQ rfl (by kernel_rfl) rfl rfl rfl (λw=>by simp[go_sem,hil]),dV rfl (by kernel_rfl) rfl rfl (λW hS=>by have c1:=Below.keep hS d0;simp[go_sem,c1]),iU rfl rfl (by kernel_rfl),iU rfl rfl (by kernel_rfl),iQ rfl (by kernel_rfl) rfl rfl rfl (λw=>by simp[go_sem,hil]),dV rfl (by kernel_rfl) rfl rfl (λW hS=>by have c1:=Below.keep hS d1;simp[go_sem,c1]),gJ rfl (by kernel_rfl) rfl rfl rfl (λw=>by simp[go_sem]),trivial⟩
       intro av W4 Hu _ _;simp only[pq,pz,pw];go_wp2_with fail;exact⟨⟨i+1,hlt,by go_num,vdz.out,gN.trans (aa Hu gN.size)⟩,by simp only[intOf];omega⟩
     · have vdx:=hne.out hxy
       replace vdx:=zh vdx
       refine Go.Proofs.YtemjidmkolfgnaaGreatDoor.u5 (D:=λ_=>True) (w:=wr) (d:=some 24) 8 [(0,.eq (.slice (some ⟨b1,o1,none⟩) NL c)),(1,.eq (.slice (some ⟨b2,o2,none⟩) NL c')),(5,vI i)] [.eq (.slice (some ⟨b1,o1,none⟩) NL c),vI i,vP b1 (o1+i),.eq (str x),.eq (.slice (some ⟨b2,o2,none⟩) NL c'),vI i,vP b2 (o2+i),.eq (str y),.eq (.bool true)]
        (λw'=>Below wr.heap.size wr w') (by kernel_rfl) rfl rfl (λ_ _ h hb=>h.trans (aa hb h.size)) (zb wr).drew ⟨rfl,rfl,rfl,trivial⟩ ?_ ?_
       · exact⟨iU rfl rfl (by kernel_rfl),iU rfl rfl (by kernel_rfl),iQ rfl (by kernel_rfl) rfl rfl rfl (λw=>by simp[go_sem,hil]),dV rfl (by kernel_rfl) rfl rfl (λW hS=>by have c1:=Below.keep hS d0;simp[go_sem,c1]),iU rfl rfl (by kernel_rfl),iU rfl rfl (by kernel_rfl),iQ rfl (by kernel_rfl) rfl rfl rfl (λw=>by simp[go_sem,hil]),dV rfl (by kernel_rfl) rfl rfl (λW hS=>by have c1:=Below.keep hS d1;simp[go_sem,c1]),gJ rfl (by kernel_rfl) rfl rfl rfl (λw=>by simp[go_sem,hxy]),trivial⟩
       intro av W4 Hu _ _;simp only[pq,pz,pw];go_wp2_with fail;go_ret;exact⟨by rw[vdx.out];rfl,gN.trans (aa Hu gN.size)⟩
 · have hQ:decide (a=b)=false:=decide_eq_false λh=>hl (by rw[h])
   rw[hQ];have g1:((a.length:Int)==(b.length:Int))=false:=by simp;omega
   go_enter Tryz.func29,Tryz.ntmps29;go_wp2_with fail;go_ret;exact⟨rfl,zb _⟩
end
section
open Go
theorem vbt {us us':List (List UInt8×az)}:∀(l:List (List UInt8)) (d:List (List UInt8×List UInt8)),(∀n∈l,(aq us n).map (·.aO)=(aq us' n).map (·.aO))→Ci us l d=Ci us' l d
 | [],_,_=>rfl
 | n::r,d,h=>by
  have h1:=h n (by simp);have h2:=vbt r d.tail λm hm=>h m (by simp[hm])
  unfold Ci;rcases e1:aq us n with _|x<;>rcases e2:aq us' n with _|y
  · rfl
  · rw[e1,e2] at h1;cases h1
  · rw[e1,e2] at h1;cases h1
  · rw[e1,e2] at h1
    have h1:x.aO=y.aO:=by injection h1
    dsimp only;rw[h1,h2]
theorem vbi {us : List (List UInt8 × az)} : ∀ (l : List (List UInt8)) (d : List (List UInt8 × List UInt8)), (∀ n ∈ l, n ≠ []) → (Ci us l d = [] ↔ ∀ (i : Nat) (n : List UInt8), l[i]? = some n → ∃ x : az, aq us n = some x ∧ x.aO = ((d[i]?).map (fun y : List UInt8 × List UInt8 => y.2)).getD [])
 | [],_,_=>⟨λ_ i n h=>by simp at h,λ_=>rfl⟩
 | m :: r, d, hne => by
  have ih:=vbi (us:=us) r d.tail λn hn=>hne n (by simp[hn])
  have hm:=hne m (by simp);unfold Ci
  constructor
  · intro h i n hn
    rcases e1:aq us m with _|x
    · rw[e1] at h
      exact absurd h hm
    · rw [e1] at h
      dsimp only at h;split at h
      · rename_i hf
        rcases i with _|i
        · cases hn
          exact⟨x,e1,by rw[hf,List.head?_eq_getElem?]⟩
        · have:=ih.1 h i n (by simpa using hn)
          rw[List.getElem?_tail] at this;exact this
      · exact absurd h hm
  · intro h
    obtain⟨x,e1,hf⟩:=h 0 m rfl;rw[e1];dsimp only;rw[List.head?_eq_getElem?,if_pos hf];refine ih.2 λi n hn=>?_
    have:=h (i+1) n (by simpa using hn)
    rwa [List.getElem?_tail]
theorem vbp {us:List (List UInt8×az)} {n:List UInt8}:n∈bZ us↔(aq us n).isSome=true:=by
 unfold bZ
 rw[kJ]
 exact bJ.symm
theorem vb6 {us:List (List UInt8×az)} {n:List UInt8}:n∈lZ us↔∃u,aq us n=some u∧mT us u≠[]:=by
 unfold lZ
 rw[List.mem_filter,vbp]
 constructor
 · rintro⟨h1,h2⟩
   obtain⟨u,hu⟩:=Option.isSome_iff_exists.1 h1;refine⟨u,hu,λe=>?_⟩;unfold fC at h2;rw[hu] at h2;simp only[Option.getD_some,e] at h2;cases h2
 · rintro⟨u,hu,h⟩
   refine⟨by rw[hu];rfl,?_⟩;unfold fC;rw[hu];simp only[Option.getD_some,Bool.not_eq_true',List.isEmpty_eq_false_iff];exact h
theorem vcz {L:bh} {j:Nat} (_h:vat L j) {name src text:List UInt8} {uses:List (List UInt8)} (hE:jg L name src text uses=0):name∈lZ (ep L name src text (aU 44 uses)).units:=by
 rw[vb6]
 refine⟨_,by unfold ep;dsimp only;rw[kG,if_pos rfl],?_⟩
 unfold mT
 exact(vaj (vbq hE).1).1
structure vdd (us us':List (List UInt8×az)) (name:List UInt8):Prop where
 other:∀n,n≠name→aq us' n=aq us n
theorem Az (L:bh) (name src text us:List UInt8):vdd L.units (ep L name src text us).units name:=⟨λn hn=>by unfold ep;dsimp only;rw[kG,if_neg hn]⟩
theorem drop_one (L:bh) (name:List UInt8):vdd L.units (o8 L name).units name:=⟨λn hn=>by unfold o8;dsimp only;rw[sM,if_neg hn]⟩
theorem vda {us us':List (List UInt8×az)} {name:List UInt8} (h:vdd us us' name) {u:az} (hf:name∈u.uses→(aq us name).map (·.aO)=(aq us' name).map (·.aO)):mT us' u=mT us u:=by
 unfold mT
 split
 · refine(vbt _ _ λn hn=>?_).symm
   by_cases e:n=name
   · subst e
     exact hf hn
   · rw[h.other n e]
 · rfl
theorem vcl {us us':List (List UInt8×az)} {name:List UInt8} {u:az} (hun:∀n∈u.uses,n≠[]) (hn:name∈u.uses) (hw:mT us u=[]) (hname:u.name≠[]) (hf:(aq us name).map (·.aO)≠(aq us' name).map (·.aO)):mT us' u≠[]:=λe=>by
 have hb:u.built=true:=by
  rcases hb:u.built with _|_
  · unfold mT at hw
    rw[hb] at hw;exact absurd hw hname
  · rfl
 unfold mT at hw e
 rw[if_pos hb] at hw e
 obtain⟨i,hi⟩:=List.getElem?_of_mem hn
 obtain⟨x,h1,h2⟩:=(vbi _ _ hun).1 hw i name hi
 obtain⟨y,h3,h4⟩:=(vbi _ _ hun).1 e i name hi
 rw[h1,h3] at hf
 exact hf (by rw[Option.map_some,Option.map_some,h2,h4])
def vay (x:vb4) (L:bh) (drop:Bool) (E:Nat) (F:List UInt8) (vgv:bh):Prop:=
 if drop=true then E=vJ L x.name∧vgv=(if E=0 then o8 L x.name else L) else E=jg L x.name x.src F x.uses∧vgv=(if E=0 then ep L x.name x.src F (aU 44 x.uses) else L)
theorem vay.neg {x:vb4} {L vgv:bh} {vh6:Bool} {E:Nat} {F:List UInt8} (h:vay x L vh6 E F vgv) (hE:¬E=0):vgv=L:=by
 unfold vay at h
 cases vh6
 · rw[if_neg (by decide)] at h
   rw[h.2,if_neg hE]
 · rw[if_pos rfl] at h
   rw[h.2,if_neg hE]
theorem vb2 {l:List (List UInt8)} {s:List UInt8}:(l.any λy=>s==y)=decide (s∈l):=by
 rw[Bool.eq_iff_iff,List.any_eq_true,decide_eq_true_iff]
 simp
structure vcq (x:vb4) (L:bh) (drop:Bool) (F:List UInt8) (vgv:bh):Prop where
 one:vdd L.units vgv.units x.name
 own:((lZ vgv.units).any λy=>x.name==y)= !drop
 aO:(aq vgv.units x.name).map (·.aO)=if drop=true then none else some F
 was:drop=true→(aq L.units x.name).isSome=true
theorem vay.pos {x:vb4} {L vgv:bh} {vh6:Bool} {F:List UInt8} {j:Nat} (h:vay x L vh6 0 F vgv) (hL:vat L j):vcq x L vh6 F vgv:=by
 unfold vay at h
 cases vh6
 · rw[if_neg (by decide)] at h
   obtain⟨h1,rfl⟩:=h;rw[if_pos rfl];refine⟨Az _ _ _ _ _,?_,?_,λh=>by cases h⟩
   · rw[vb2,decide_eq_true (vcz hL h1.symm)]
     rfl
   · rw[if_neg (by decide)]
     unfold ep;dsimp only;rw[kG,if_pos rfl]
     rfl
 · rw [if_pos rfl] at h
   obtain⟨h1,rfl⟩:=h;rw[if_pos rfl];have hn:aq (o8 L x.name).units x.name=none:=by
    unfold o8;dsimp only;rw[sM,if_pos rfl]
   refine⟨drop_one _ _,?_,?_,λ_=>?_⟩
   · rw[vb2,decide_eq_false]
     · rfl
     · rw[vb6,hn]
       rintro⟨u,hu,_⟩;cases hu
   · rw[hn,if_pos rfl]
     rfl
   · unfold vJ at h1
     rcases hq:(aq L.units x.name).isSome with _|_
     · rw[hq] at h1
       revert h1;simp
     · rfl
def vbs (x:vb4) (L:bh) (drop:Bool) (F:List UInt8) (u:az):Bool:=(u.uses.any λy=>x.name==y)&&(drop|| !((vam L.units x.name:Int)==0)|| !((vah L.units x.name).aO==F))
theorem vc0 {L:bh} {n:List UInt8}:(aq L.units n).map (·.aO)=if vam L.units n=0 then some (vah L.units n).aO else none:=by
 unfold vam vah
 rcases aq L.units n with _|u
 · rfl
 · rfl
section
variable {x:vb4} {L vgv:bh} {vh6:Bool} {F:List UInt8} {j:Nat} {u:az}
theorem vbe (h:vcq x L vh6 F vgv) (hu:aq L.units u.name=some u) (hn:¬u.name=x.name):((lZ L.units).any λy=>u.name==y)=decide (mT L.units u≠[])∧((lZ vgv.units).any λy=>u.name==y)=decide (mT vgv.units u≠[]):=by
 have h2:=h.one.other u.name hn
 rw[hu] at h2
 have key:∀{us:List (List UInt8×az)},aq us u.name=some u→((lZ us).any λy=>u.name==y)=decide (mT us u≠[]):=λhq=>by
  rw[vb2,decide_eq_decide,vb6,hq];exact⟨λ⟨v,e,hv⟩=>by cases e;exact hv,λhv=>⟨u,rfl,hv⟩⟩
 exact⟨key hu,key h2⟩
theorem vd0 (h:vcq x L vh6 F vgv) (hu:aq L.units u.name=some u) (hn:¬u.name=x.name) (ht:vbs x L vh6 F u=false):((lZ vgv.units).any λy=>u.name==y)=((lZ L.units).any λy=>u.name==y):=by
 obtain⟨e1,e2⟩:=vbe h hu hn
 rw[e1,e2,vda h.one λhm=>?_]
 unfold vbs at ht
 rw[vb2,decide_eq_true hm,Bool.true_and,Bool.or_eq_false_iff,Bool.or_eq_false_iff] at ht
 obtain⟨⟨h1,h2⟩,h3⟩:=ht
 have hf:=h.aO
 rw[h1,if_neg (by decide)] at hf
 simp only[Bool.not_eq_false',beq_iff_eq] at h2 h3
 rw[hf,vc0,if_pos (by omega),h3]
theorem vc8 (h:vcq x L vh6 F vgv) (hi:vcr u.name u) (hu:aq L.units u.name=some u) (hn:¬u.name=x.name) (ht:vbs x L vh6 F u=true) (hs:((lZ L.units).any λy=>u.name==y)=false):((lZ vgv.units).any λy=>u.name==y)=true:=by
 obtain⟨e1,e2⟩:=vbe h hu hn
 rw[e1] at hs
 rw[e2]
 simp only[ne_eq,decide_not,Bool.not_eq_false',decide_eq_true_eq] at hs
 refine decide_eq_true ?_
 unfold vbs at ht
 rw[vb2,Bool.and_eq_true,decide_eq_true_iff] at ht
 obtain⟨hm,ht⟩:=ht
 refine vcl (λn hn=>(vaj (hi.un n hn).1).1) hm hs (vaj hi.nm).1 ?_
 rw[h.aO,vc0]
 cases vh6
 · rw[if_neg (show ¬(false=true) by decide)]
   split
   · rename_i h0
     rw[h0] at ht;intro e;injection e with e;rw[e] at ht;simp at ht
   · simp
 · rw[if_pos rfl]
   have h1:=h.was rfl;have h0:vam L.units x.name=0:=by unfold vam;rw[h1];rfl
   rw[if_pos h0];simp
end
end
open Go Go.RowKit
theorem ve1 {K:Nat} {W:World} {x:vb4} {va vb vc:Value} {g:Nat} {fl:Nat×Nat} (h:vbb (λb=>b<K) W va vb vc x) (hg:W.heap[g]? =some (.cells (vbl x va vb vc).toArray 46 fl)) (hw:K≤W.heap.size):vav (λb=>b<W.heap.size) W (.slice (some ⟨g,0,none⟩) 1 1) [x]:=by
 refine⟨some ⟨g,0,none⟩,1,rfl,nl _,by show 1≤maxLen;unfold maxLen;decide,.inr ⟨g,0,rfl,aj hg,aj hg,λj y hj=>?_⟩⟩
 rcases j with _|j
 · cases hj
   refine⟨va,vb,vc,⟨h.a.mono λb hb=>Nat.lt_of_lt_of_le hb hw,h.b.mono λb hb=>Nat.lt_of_lt_of_le hb hw,h.c.mono λb hb=>Nat.lt_of_lt_of_le hb hw,h.kd,h.le⟩,λi u hi=>?_⟩;refine(af hg _).trans ?_;rw[List.getElem?_toArray]
   simpa using hi
 · simp at hj
theorem vav.mono {D D':Nat→Prop} {w:World} {v:Value} {l:List vb4} (h:vav D w v l) (hD:∀b,D b→D' b):vav D' w v l:=by
 obtain⟨p,c,h1,h2,h3,h4⟩:=h
 refine⟨p,c,h1,h2,h3,?_⟩
 rcases h4 with h4|⟨b,o,e,h5,h6,h7⟩
 · exact .inl h4
 · refine .inr ⟨b,o,e,hD b h5,h6,λj x hj=>?_⟩
   obtain⟨va,vb,vc,k1,k2⟩:=h7 j x hj;exact⟨va,vb,vc,⟨k1.a.mono hD,k1.b.mono hD,k1.c.mono hD,k1.kd,k1.le⟩,k2⟩
theorem vak.qK {w:World} {b:Nat} (h:vak w b):∃x,w.heap[b]? =some x∧qK x:=by
 obtain⟨cs,t,e,_,ht⟩:=h
 exact⟨_,e,cs,t,_,rfl,ht⟩
theorem dI.row {w w':World} {b:Nat} (hk:dI w w') (h:vak w b):w'.heap[b]? =w.heap[b]? :=by
 obtain⟨x,e,hx⟩:=h.qK
 exact(hk b x e hx).trans e.symm
theorem vcv (W:World) (a:Addr) (v:Value):W.grownBy (W.setCell a v) (some a.block):=⟨rfl,rfl,rfl,by simp[World.setCell],λk _ hne=>heap_setCell_other W a k v λe=>hne (by rw[e])⟩
