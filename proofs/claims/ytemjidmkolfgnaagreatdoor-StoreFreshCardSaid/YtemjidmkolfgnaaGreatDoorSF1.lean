/-
  Lemmas: contract of arguslaw19: run. Conditions: bounds of lengths; the variable strings.asciiSpace.
-/
import Derived.Test.YtemjidmkolfgnaaGreatDoorSBn
import Derived.Test.YtemjidmkolfgnaaGreatDoorSF0
set_option maxHeartbeats 25600000
set_option maxRecDepth 8000
namespace Go.Proofs.YtemjidmkolfgnaaGreatDoor
section
open Go Go.RowKit
structure vbj where
 kd:Nat
 name:List UInt8
 src:List UInt8
 aO:List UInt8
 uses:List (List UInt8)
 n:Int
 vf5:Int
 code:List UInt8
 keep:List Int
structure vc5 (D:Nat→Prop) (w:World) (va vb vc:Value) (x:vbj):Prop where
 a:SS D w va x.uses
 b:CV D w vb (aH x.code)
 c:CV D w vc (vb2 x.keep)
 kd:x.kd<256
 le:x.name.length≤maxLen∧x.src.length≤maxLen∧x.aO.length≤maxLen
theorem vc5.agree {D:Nat→Prop} {w w':World} {va vb vc:Value} {x:vbj} (h:vc5 D w va vb vc x) (hk:∀b,D b→b<w.heap.size→w'.heap[b]? =w.heap[b]?):vc5 D w' va vb vc x:=⟨h.a.agree hk,h.b.agree hk,h.c.agree hk,h.kd,h.le⟩
def vcw (x:vbj) (va vb vc:Value):List Value:=[.int .u8 (x.kd:Int),str x.name,str x.src,str x.aO,va,.int .i64 x.n,.int .i64 x.vf5,vb,vc]
def vaw (D:Nat→Prop) (w:World) (v:Value) (l:List vbj):Prop:=
 ∃p c,v=.slice p l.length c∧l.length≤c∧l.length≤maxLen∧(l=[]∨∃b o,p=some ⟨b,o,none⟩∧D b∧b<w.heap.size∧∀j x,l[j]? =some x→∃va vb vc,vc5 D w va vb vc x∧w.rangeAt b (o+j * 9) (vcw x va vb vc))
theorem vaw.agree {D:Nat→Prop} {w w':World} {v:Value} {l:List vbj} (h:vaw D w v l) (hk:∀b,D b→b<w.heap.size→w'.heap[b]? =w.heap[b]?):vaw D w' v l:=by
 obtain⟨p,c,h1,h2,h3,h4⟩:=h
 refine⟨p,c,h1,h2,h3,?_⟩
 rcases h4 with h4|⟨b,o,e,h5,h6,h7⟩
 · exact .inl h4
 · refine .inr ⟨b,o,e,h5,wT (hk b h5 h6) h6,λj x hj=>?_⟩
   obtain⟨va,vb,vc,k1,k2⟩:=h7 j x hj;refine⟨va,vb,vc,k1.agree hk,λi u hi=>?_⟩;rw[World.cell?_of_block (w:=w) (a:=⟨b,o+j * 9+i,none⟩) (hk b h5 h6)];exact k2 i u hi
theorem vaw.at {D:Nat→Prop} {w:World} {p:Option Addr} {n c:Nat} {l:List vbj} (h:vaw D w (.slice p n c) l) {j:Nat} {x:vbj} (hj:l[j]? =some x):∃b o,p=some ⟨b,o,none⟩∧∃va vb vc,vc5 D w va vb vc x∧w.rangeAt b (o+j * 9) (vcw x va vb vc):=by
 obtain⟨p',c',e,_,_,h4⟩:=h
 injection e with e1 _ _
 subst e1
 rcases h4 with h4|⟨b,o,e,h5,h6,h7⟩
 · rw[h4] at hj
   simp at hj
 · exact⟨b,o,e,h7 j x hj⟩
theorem vbp {w:World} {b o:Nat} {x:vbj} {va vb vc:Value} (h:w.rangeAt b o (vcw x va vb vc)):
 w.cell? ⟨b,o,none⟩=some (.int .u8 (x.kd:Int))∧w.cell? ⟨b,o+1,none⟩=some (str x.name)∧w.cell? ⟨b,o+2,none⟩=some (str x.src)∧w.cell? ⟨b,o+3,none⟩=some (str x.aO)∧w.cell? ⟨b,o+4,none⟩=some va∧w.cell? ⟨b,o+5,none⟩=some (.int .i64 x.n)∧w.cell? ⟨b,o+6,none⟩=some (.int .i64 x.vf5)∧w.cell? ⟨b,o+7,none⟩=some vb∧w.cell? ⟨b,o+8,none⟩=some vc:=
 ⟨h 0 _ rfl,h 1 _ rfl,h 2 _ rfl,h 3 _ rfl,h 4 _ rfl,h 5 _ rfl,h 6 _ rfl,h 7 _ rfl,h 8 _ rfl⟩
theorem vef {w:World} {b:Nat} {a0 a1 a2 a3 a4 a5 a6 a7 a8:Value} {t:TypeId} (h:w.heap[b]? =some (.cells #[a0,a1,a2,a3,a4,a5,a6,a7,a8] t (0,0))):
 w.cell? ⟨b,0,none⟩=some a0∧w.cell? ⟨b,1,none⟩=some a1∧w.cell? ⟨b,2,none⟩=some a2∧w.cell? ⟨b,3,none⟩=some a3∧w.cell? ⟨b,4,none⟩=some a4∧w.cell? ⟨b,5,none⟩=some a5∧w.cell? ⟨b,6,none⟩=some a6∧w.cell? ⟨b,7,none⟩=some a7∧w.cell? ⟨b,8,none⟩=some a8:=
 ⟨(af h 0).trans rfl,(af h 1).trans rfl,(af h 2).trans rfl,(af h 3).trans rfl,(af h 4).trans rfl,(af h 5).trans rfl,(af h 6).trans rfl,(af h 7).trans rfl,(af h 8).trans rfl⟩
structure vbk (x:vbj):Prop where
 vea:vdt x.name x.src x.aO x.uses
 code:x.code.length≤3010
 keep:x.keep.length≤200
def vc0 (L:bh) (x:vbj):bh:=
 if x.kd % 10<3 then(if jg L x.name x.src x.aO x.uses=0 then ep L x.name x.src x.aO (aU 44 x.uses) else L)
 else if x.kd % 10=3 then(if vJ L x.name=0 then o8 L x.name else L)
 else if x.kd % 10<7 then vao L x.name x.code else L
def ve9 (l:List vbj):bh:=l.foldl vc0 .new
theorem vd9 (l:List vbj) (v:Value) (w:World) (hv:vaw (λb=>b<w.heap.size) w v l) (hok:∀x∈l,vbk x) (hl:l.length≤30) (ht:gx w) (hm:fe w) (hp:0<w.heap.size):
 Calls Tryz.prog 13 #[v] w λe W'=>∃lo:Loc,e=.returned (.tuple #[.pointer (some ⟨lo.a,0,none⟩),.pointer (some ⟨lo.sb,0,none⟩),.bool true])∧vbt w W' lo (ve9 l) 30:=by
 have MT:=hv
 obtain⟨p,c,rfl,_,_,_⟩:=hv
 have HN:=wY 30000 (by decide) w
 go_enter Tryz.func13,Tryz.ntmps13
 go_upto_region 4 with(go_at_call 31;refine HN.mono ?_;clear HN;rintro e w1 ⟨⟨a,b1,b2,rfl,hD⟩,aP⟩)
 have HO:=EK (λb=>w.heap.size≤b) w1 hD (S:=oZ 30000) rfl rfl
 go_upto_region 7 with(go_at_call 35;refine HO.mono ?_;clear HO;rintro e w2 ⟨⟨sb,lg,ds,rfl,hh,hL,hG,h1,h2⟩,bO⟩)
 have T3:=vbt.new ht hm hp hD aP hh hL hG h1 h2 bO
 obtain⟨lo,hlo⟩:∃l:Loc,(⟨sb,w1.heap.size,w1.heap.size+1,lg,a,b1,b2,30000⟩:Loc)=l:=⟨_,rfl⟩
 obtain⟨hsb,vgx⟩:sb=lo.sb∧a=lo.a:=by rw[←hlo];exact⟨rfl,rfl⟩
 rw[hlo] at T3
 subst hsb vgx
 clear hD aP hh hL hG h1 h2 bO hlo
 generalize vbm:l.length=NL at *
 replace vbm:=zh vbm
 replace hok:=zh hok
 go_upto_region 8 with fail
 go_loopw [35] (λy wx=>∃i:Nat,i≤NL∧y=.int .i64 i∧vbt w wx lo ((l.take i).foldl vc0 .new) i) (λy _=>NL - (intOf y).toNat)
 case atStart=>exact⟨0,Nat.zero_le _,by go_num,T3⟩
 case round=>
  obtain⟨i,hi,rfl,hR⟩:=hrel;clear T3
  by_cases hlt:i<NL
  case neg=>
   obtain rfl:i=NL:=by omega
   go_wp2_with fail;refine bodyPost_ret (v:=.tuple #[.pointer (some ⟨lo.a,0,none⟩),.pointer (some ⟨lo.sb,0,none⟩),.bool true]) (by simp[results,Tryz.results13,go_sem]) rfl ⟨lo,rfl,?_⟩;rw[List.take_of_length_le (Nat.le_of_eq vbm.out)] at hR;exact hR.mono hl
  case pos =>
   obtain⟨x,hx⟩:∃x,l[i]? =some x:=⟨_,List.getElem?_eq_getElem (by rw[vbm.out];exact hlt)⟩
   obtain⟨b,o,rfl,va,vb,vc,QB,xU⟩:=(MT.agree (w':=wr) λb hb _=>hR.cV.block b hb).at hx;obtain⟨pa,ca,rfl,_⟩:=QB.a.shape;obtain⟨pb,cb,rfl,_⟩:=QB.b.shape;obtain⟨pc,cc,rfl,_⟩:=QB.c.shape;have c9:=vbp xU;have CK:=hok.out x (List.mem_of_getElem? hx);have hil:(i:Int)<(NL:Int):=by omega
   have hst:(l.take (i+1)).foldl vc0 .new=vc0 ((l.take i).foldl vc0 .new) x:=by
    rw[List.take_add_one,hx,List.foldl_append]
    rfl
   replace hst:=zh hst
   clear xU;go_upto_region 10 with fail;generalize vbs:World.alloc _ _=W2;have bO:Below wr.heap.size wr W2:=by rw[←vbs];exact(zb wr).alloc zr _
   have Fu:W2.heap[wr.heap.size]? =some (.cells #[.int .u8 (x.kd:Int),.string ⟨x.name.toArray⟩,.string ⟨x.src.toArray⟩,.string ⟨x.aO.toArray⟩,.slice pa x.uses.length ca,.int .i64 x.n,.int .i64 x.vf5,.slice pb (aH x.code).length cb,.slice pc (vb2 x.keep).length cc] 46 (0,0)):=by rw[←vbs];exact heap_alloc_new wr _
   clear vbs c9;have b9:=vef Fu;have LZ:=hR.below bO;have veu:=QB.a.below bO zr;have vgc:=QB.b.below bO zr;obtain⟨r,hr⟩:∃r,x.kd % 10=r:=⟨_,rfl⟩
   have vh3:(x.kd:Int) % 10=(r:Int):=by omega
   have hk1:(i:Int)+1≤9223372036854775807:=by omega
   have hop:vc0 ((l.take i).foldl vc0 .new) x=if r<3 then(if jg ((l.take i).foldl vc0 .new) x.name x.src x.aO x.uses=0 then ep ((l.take i).foldl vc0 .new) x.name x.src x.aO (aU 44 x.uses) else(l.take i).foldl vc0 .new) else if r=3 then(if vJ ((l.take i).foldl vc0 .new) x.name=0 then o8 ((l.take i).foldl vc0 .new) x.name else(l.take i).foldl vc0 .new) else if r<7 then vao ((l.take i).foldl vc0 .new) x.name x.code else(l.take i).foldl vc0 .new:=by
    unfold vc0;rw[hr]
   replace hop:=zh hop
   generalize (l.take i).foldl vc0 .new=L at *;have HP:=LZ.put (by omega) x.name x.src x.aO x.uses _ veu CK.vea;have HD:=LZ.drop (by omega) x.name CK.vea.ln;have HB:=vbl LZ (by omega) x.name x.code CK.vea.ln _ vgc CK.code
   replace hr:=zh hr
   clear Fu hR QB veu vgc
   by_cases h3:r<3
   · have g1:(r:Int)<3:=by omega
     clear HD HB;go_wp2_with (go_at_call 21;refine HP.mono ?_;clear HP;rintro e w5 ⟨he,NS⟩;obtain⟨v1,v2,rfl⟩:∃v1 v2,e=.returned (.tuple #[v1,v2]):=⟨_,_,he⟩;clear he);exact⟨⟨i+1,hlt,by go_num,by rw[hst.out,hop.out,if_pos h3];exact NS⟩,by simp only[intOf];omega⟩
   · have g1:¬(r:Int)<3:=by omega
     clear HP
     by_cases h4:r=3
     · subst h4
       clear HB;go_wp2_with (go_at_call 28;refine HD.mono ?_;clear HD;rintro e w5 ⟨he,NS⟩;obtain⟨v1,rfl⟩:∃v1,e=.returned v1:=⟨_,he⟩;clear he);exact⟨⟨i+1,hlt,by go_num,by rw[hst.out,hop.out,if_neg h3,if_pos trivial];exact NS⟩,by simp only[intOf];omega⟩
     · have g2:((r:Int)==3)=false:=by simp;omega
       clear HD
       by_cases h7:r<7
       · have g3:(r:Int)<7:=by omega
         go_wp2_with (go_at_call 22;refine HB.mono ?_;clear HB;rintro e w5 ⟨he,NS⟩;obtain⟨v1,rfl⟩:∃v1,e=.returned v1:=⟨_,he⟩;clear he);exact⟨⟨i+1,hlt,by go_num,by rw[hst.out,hop.out,if_neg h3,if_neg h4,if_pos h7];exact NS⟩,by simp only[intOf];omega⟩
       · have g3:¬(r:Int)<7:=by omega
         clear HB;go_wp2_with fail;exact⟨⟨i+1,hlt,by go_num,by rw[hst.out,hop.out,if_neg h3,if_neg h4,if_neg h7];exact LZ.mono (Nat.le_succ i)⟩,by simp only[intOf];omega⟩
def vdh (l:List vbj) (e:Ending):Prop:=∃q:Bool,e=.returned (.bool q)∧(q=true→(∀x∈l,vbk x)∧l.length≤30)
theorem vcf (l : List vbj) (v : Value) (w : World) (hv : vaw (fun b => b < w.heap.size) w v l) :
 Calls Tryz.prog 11 #[v] w λe w'=>vdh l e∧Below w.heap.size w w':=by
 have MT:=hv
 obtain⟨p,c,rfl,_,hlm,_⟩:=hv
 go_enter Tryz.func11,Tryz.ntmps11
 go_upto_region 2 with fail
 generalize vbm:l.length=NL at *
 replace vbm:=zh vbm
 go_loopw [9] (λy wx=>∃i:Nat,i≤NL∧y=.int .i64 i∧(∀k x,k<i→l[k]? =some x→vbk x)∧Below w.heap.size w wx) (λy _=>NL - (intOf y).toNat)
 case atStart=>exact⟨0,Nat.zero_le _,by go_num,λk x h=>absurd h (Nat.not_lt_zero _),zb _⟩
 case round =>
  obtain⟨i,hi,rfl,hex,gN⟩:=hrel
  by_cases hlt:i<NL
  case neg=>
   obtain rfl:i=NL:=by omega
   replace hex:=zh hex
   by_cases Ra:i≤30
   · have g1:(i:Int)≤30:=by omega
     go_wp2_with fail;go_ret;refine⟨⟨true,rfl,λ_=>⟨λx hx=>?_,by rw[vbm.out];exact Ra⟩⟩,gN⟩;obtain⟨k,hk⟩:=List.getElem?_of_mem hx;exact hex.out k x (by rw[←vbm.out];exact(List.getElem?_eq_some_iff.1 hk).1) hk
   · have g1:¬(i:Int)≤30:=by omega
     go_wp2_with fail;go_ret;exact⟨⟨false,rfl,λh=>by cases h⟩,gN⟩
  case pos =>
   obtain⟨x,hx⟩:∃x,l[i]? =some x:=⟨_,List.getElem?_eq_getElem (by rw[vbm.out];exact hlt)⟩
   obtain⟨b,o,rfl,va,vb,vc,QB,xU⟩:=(MT.agree (w':=wr) λb hb _=>gN.block b hb).at hx;obtain⟨pa,ca,rfl,_⟩:=QB.a.shape;obtain⟨pb,cb,rfl,_⟩:=QB.b.shape;obtain⟨pc,cc,rfl,_⟩:=QB.c.shape;have c9:=vbp xU;have hil:(i:Int)<(NL:Int):=by omega
   have hcl:(aH x.code).length=x.code.length:=ak _;have sA:(vb2 x.keep).length=x.keep.length:=by simp[vb2]
   rw[hcl] at c9;rw[sA] at c9
   replace hex:=zh hex
   have vg4:=QB.a;clear xU hcl sA QB;generalize vgm:x.name.length=vhl at *;generalize oN:x.src.length=vhm at *;generalize vgk:x.aO.length=vhk at *;generalize vf9:x.uses.length=vhn at *;generalize vgj:x.code.length=vhj at *;generalize vgl:x.keep.length=Lk at *;go_upto_region 4 with fail;generalize vbs:World.alloc _ _=W2;have bO:Below wr.heap.size wr W2:=by rw[←vbs];exact(zb wr).alloc zr _
   have Fu:W2.heap[wr.heap.size]? =some (.cells #[.int .u8 (x.kd:Int),.string ⟨x.name.toArray⟩,.string ⟨x.src.toArray⟩,.string ⟨x.aO.toArray⟩,.slice pa vhn ca,.int .i64 x.n,.int .i64 x.vf5,.slice pb vhj cb,.slice pc Lk cc] 46 (0,0)):=by rw[←vbs];exact heap_alloc_new wr _
   clear vbs c9;have b9:=vef Fu
   go_cut [82] from 13 to 83 (λq wx=>∃ok:Bool,q=.bool ok∧wx=W2∧(ok=false→vhl≤40∧vhm≤3010∧vhk≤3010∧vhn≤22∧vhj≤3010∧Lk≤200))
   case first =>
    by_cases n0:(40:Int)<(vhl:Int)
    · skip
      go_wp2_with fail
      go_meet
      case rel=>exact⟨true,rfl,rfl,λh=>by cases h⟩
    · skip
      by_cases s0:(300:Int)<(vhm:Int)
      · by_cases s1 : (vhm : Int) ≤ 3000
        · skip
          go_wp2_with fail
          go_meet
          case rel=>exact⟨true,rfl,rfl,λh=>by cases h⟩
        · by_cases s2 : (3010 : Int) < (vhm : Int)
          · skip
            go_wp2_with fail
            go_meet
            case rel=>exact⟨true,rfl,rfl,λh=>by cases h⟩
          · skip
            by_cases f0:(300:Int)<(vhk:Int)
            · by_cases f1 : (vhk : Int) ≤ 3000
              · skip
                go_wp2_with fail
                go_meet
                case rel=>exact⟨true,rfl,rfl,λh=>by cases h⟩
              · by_cases f2 : (3010 : Int) < (vhk : Int)
                · skip
                  go_wp2_with fail
                  go_meet
                  case rel=>exact⟨true,rfl,rfl,λh=>by cases h⟩
                · skip
                  by_cases vik:(22:Int)<(vhn:Int)
                  · skip
                    go_wp2_with fail
                    go_meet
                    case rel=>exact⟨true,rfl,rfl,λh=>by cases h⟩
                  · skip
                    by_cases c0:(300:Int)<(vhj:Int)
                    · by_cases c1:(vhj:Int)≤3000
                      · skip
                        go_wp2_with fail
                        go_meet
                        case rel=>exact⟨true,rfl,rfl,λh=>by cases h⟩
                      · by_cases c2:(3010:Int)<(vhj:Int)
                        · skip
                          go_wp2_with fail
                          go_meet
                          case rel=>exact⟨true,rfl,rfl,λh=>by cases h⟩
                        · skip
                          by_cases k0:(200:Int)<(Lk:Int)
                          · skip
                            go_wp2_with fail
                            go_meet
                            case rel=>exact⟨true,rfl,rfl,λh=>by cases h⟩
                          · skip
                            go_wp2_with fail
                            go_meet
                            case rel=>exact⟨false,rfl,rfl,λ_=>⟨by omega,by omega,by omega,by omega,by omega,by omega⟩⟩
                    · have c2:¬(3010:Int)<(vhj:Int):=by omega
                      by_cases k0:(200:Int)<(Lk:Int)
                      · skip
                        go_wp2_with fail
                        go_meet
                        case rel=>exact⟨true,rfl,rfl,λh=>by cases h⟩
                      · skip
                        go_wp2_with fail
                        go_meet
                        case rel=>exact⟨false,rfl,rfl,λ_=>⟨by omega,by omega,by omega,by omega,by omega,by omega⟩⟩
            · have f2 : ¬ (3010 : Int) < (vhk : Int) := by omega
              by_cases vik:(22:Int)<(vhn:Int)
              · skip
                go_wp2_with fail
                go_meet
                case rel=>exact⟨true,rfl,rfl,λh=>by cases h⟩
              · skip
                by_cases c0:(300:Int)<(vhj:Int)
                · by_cases c1:(vhj:Int)≤3000
                  · skip
                    go_wp2_with fail
                    go_meet
                    case rel=>exact⟨true,rfl,rfl,λh=>by cases h⟩
                  · by_cases c2:(3010:Int)<(vhj:Int)
                    · skip
                      go_wp2_with fail
                      go_meet
                      case rel=>exact⟨true,rfl,rfl,λh=>by cases h⟩
                    · skip
                      by_cases k0:(200:Int)<(Lk:Int)
                      · skip
                        go_wp2_with fail
                        go_meet
                        case rel=>exact⟨true,rfl,rfl,λh=>by cases h⟩
                      · skip
                        go_wp2_with fail
                        go_meet
                        case rel=>exact⟨false,rfl,rfl,λ_=>⟨by omega,by omega,by omega,by omega,by omega,by omega⟩⟩
                · have c2:¬(3010:Int)<(vhj:Int):=by omega
                  by_cases k0:(200:Int)<(Lk:Int)
                  · skip
                    go_wp2_with fail
                    go_meet
                    case rel=>exact⟨true,rfl,rfl,λh=>by cases h⟩
                  · skip
                    go_wp2_with fail
                    go_meet
                    case rel=>exact⟨false,rfl,rfl,λ_=>⟨by omega,by omega,by omega,by omega,by omega,by omega⟩⟩
      · have s2 : ¬ (3010 : Int) < (vhm : Int) := by omega
        by_cases f0:(300:Int)<(vhk:Int)
        · by_cases f1 : (vhk : Int) ≤ 3000
          · skip
            go_wp2_with fail
            go_meet
            case rel=>exact⟨true,rfl,rfl,λh=>by cases h⟩
          · by_cases f2 : (3010 : Int) < (vhk : Int)
            · skip
              go_wp2_with fail
              go_meet
              case rel=>exact⟨true,rfl,rfl,λh=>by cases h⟩
            · skip
              by_cases vik:(22:Int)<(vhn:Int)
              · skip
                go_wp2_with fail
                go_meet
                case rel=>exact⟨true,rfl,rfl,λh=>by cases h⟩
              · skip
                by_cases c0:(300:Int)<(vhj:Int)
                · by_cases c1:(vhj:Int)≤3000
                  · skip
                    go_wp2_with fail
                    go_meet
                    case rel=>exact⟨true,rfl,rfl,λh=>by cases h⟩
                  · by_cases c2:(3010:Int)<(vhj:Int)
                    · skip
                      go_wp2_with fail
                      go_meet
                      case rel=>exact⟨true,rfl,rfl,λh=>by cases h⟩
                    · skip
                      by_cases k0:(200:Int)<(Lk:Int)
                      · skip
                        go_wp2_with fail
                        go_meet
                        case rel=>exact⟨true,rfl,rfl,λh=>by cases h⟩
                      · skip
                        go_wp2_with fail
                        go_meet
                        case rel=>exact⟨false,rfl,rfl,λ_=>⟨by omega,by omega,by omega,by omega,by omega,by omega⟩⟩
                · have c2:¬(3010:Int)<(vhj:Int):=by omega
                  by_cases k0:(200:Int)<(Lk:Int)
                  · skip
                    go_wp2_with fail
                    go_meet
                    case rel=>exact⟨true,rfl,rfl,λh=>by cases h⟩
                  · skip
                    go_wp2_with fail
                    go_meet
                    case rel=>exact⟨false,rfl,rfl,λ_=>⟨by omega,by omega,by omega,by omega,by omega,by omega⟩⟩
        · have f2 : ¬ (3010 : Int) < (vhk : Int) := by omega
          by_cases vik:(22:Int)<(vhn:Int)
          · skip
            go_wp2_with fail
            go_meet
            case rel=>exact⟨true,rfl,rfl,λh=>by cases h⟩
          · skip
            by_cases c0:(300:Int)<(vhj:Int)
            · by_cases c1:(vhj:Int)≤3000
              · skip
                go_wp2_with fail
                go_meet
                case rel=>exact⟨true,rfl,rfl,λh=>by cases h⟩
              · by_cases c2:(3010:Int)<(vhj:Int)
                · skip
                  go_wp2_with fail
                  go_meet
                  case rel=>exact⟨true,rfl,rfl,λh=>by cases h⟩
                · skip
                  by_cases k0:(200:Int)<(Lk:Int)
                  · skip
                    go_wp2_with fail
                    go_meet
                    case rel=>exact⟨true,rfl,rfl,λh=>by cases h⟩
                  · skip
                    go_wp2_with fail
                    go_meet
                    case rel=>exact⟨false,rfl,rfl,λ_=>⟨by omega,by omega,by omega,by omega,by omega,by omega⟩⟩
            · have c2:¬(3010:Int)<(vhj:Int):=by omega
              by_cases k0:(200:Int)<(Lk:Int)
              · skip
                go_wp2_with fail
                go_meet
                case rel=>exact⟨true,rfl,rfl,λh=>by cases h⟩
              · skip
                go_wp2_with fail
                go_meet
                case rel=>exact⟨false,rfl,rfl,λ_=>⟨by omega,by omega,by omega,by omega,by omega,by omega⟩⟩
   case rest =>
    obtain⟨ok,rfl,vet,hbd⟩:=hcut;have vet:=vet.symm;subst vet;have ve0:=gN.trans (aa bO gN.size);rcases ok with _|_
    · obtain ⟨k1, k2, k3, k4, k5, k6⟩ := hbd rfl
      have NT:=vg4.below bO zr;clear hbd vg4 Fu bO;go_upto_region 7 with fail;go_loopw [86] (λy wx=>∃m:Nat,m≤vhn∧y=.int .i64 m∧wx=W2∧∀k u,k<m→x.uses[k]? =some u→u.length≤40) (λy _=>vhn - (intOf y).toNat)
      case atStart=>exact⟨0,Nat.zero_le _,by go_num,rfl,λk u h=>absurd h (Nat.not_lt_zero _)⟩
      case round =>
       rename_i vin
       obtain⟨m,CH,rfl,vft,vdr⟩:=hrel;have vft:=vft.symm;subst vft
       by_cases hml:m<vhn
       case neg=>
        obtain rfl:m=vhn:=by omega
        have hok:vbk x:=⟨⟨by rw[vgm];exact k1,by rw[oN];exact k2,by rw[vgk];exact k3,by rw[vf9];exact k4,λu hu=>by
         obtain⟨k,hk⟩:=List.getElem?_of_mem hu;exact vdr k u (by rw[←vf9];exact(List.getElem?_eq_some_iff.1 hk).1) hk⟩,by rw[vgj];exact k5,by rw[vgl];exact k6⟩
        have vfi:=zh (show ∀k y,k<i+1→l[k]? =some y→vbk y from λk y hk hy=>by
         rcases Nat.lt_succ_iff_lt_or_eq.1 hk with h|rfl
         · exact hex.out k y h hy
         · rw[hx] at hy
           cases hy;exact hok)
        clear vdr hok hex;have hk1:(i:Int)+1≤9223372036854775807:=by unfold maxLen at hlm;omega
        go_wp2_with fail;exact⟨⟨i+1,hlt,by go_num,vfi.out,ve0⟩,by simp only[intOf];omega⟩
       case pos=>
        obtain⟨u,hu⟩:∃u,x.uses[m]? =some u:=⟨_,List.getElem?_eq_getElem (by rw[vf9];exact hml)⟩
        obtain⟨vh5,vh6,rfl,_,d0⟩:=NT.at hu;have vh1:(m:Int)<(vhn:Int):=by omega
        by_cases NC:u.length≤40
        · have g1:¬(40:Int)<(u.length:Int):=by omega
          have vfr:=zh (show ∀k y,k<m+1→x.uses[k]? =some y→y.length≤40 from λk y hk hy=>by
           rcases Nat.lt_succ_iff_lt_or_eq.1 hk with h|rfl
           · exact vdr k y h hy
           · rw[hu] at hy
             cases hy;exact NC)
          clear vdr;have hk1:(m:Int)+1≤9223372036854775807:=by omega
          go_wp2_with fail;exact⟨⟨m+1,hml,by go_num,trivial,vfr.out⟩,by simp only[intOf];omega⟩
        · have g1:(40:Int)<(u.length:Int):=by omega
          clear vdr;go_wp2_with fail;go_ret;exact⟨⟨false,rfl,λh=>by cases h⟩,ve0⟩
    · clear hbd
      go_wp2_with fail;go_ret;exact⟨⟨false,rfl,λh=>by cases h⟩,ve0⟩
def vas (u:az) (a c d:Value):List Value:=[str u.name,.int .i64 (u.version:Int),str u.source,str u.aO,a,.bool u.built,c,d]
structure vam where
 u:az
 a:Value
 c:Value
 d:Value
structure vam.ok (D:Nat→Prop) (w:World) (x:vam):Prop where
 le:x.u.le
 a:SS D w x.a x.u.uses
 c:CV D w x.c (aH x.u.code)
 d:ck D w x.d x.u.used
theorem vam.ok.agree {D:Nat→Prop} {w w':World} {x:vam} (h:x.ok D w) (hk:∀b,D b→b<w.heap.size→w'.heap[b]? =w.heap[b]?):x.ok D w':=⟨h.le,h.a.agree hk,h.c.agree hk,h.d.agree hk⟩
theorem vam.ok.below {D:Nat→Prop} {w w':World} {x:vam} {K:Nat} (h:x.ok D w) (hb:Below K w w') (hK:w.heap.size≤K):x.ok D w':=h.agree λb _ hl=>hb.block b (by omega)
theorem ck.fresh {D:Nat→Prop} {w:World} {v:Value} {l:List (List UInt8×List UInt8)} (h:ck D w v l):ck (λb=>D b∧b<w.heap.size) w v l:=by
 obtain⟨p,c,h1,h2,h3,hl,h4⟩:=h
 refine⟨p,c,h1,h2,h3,hl,?_⟩
 rcases h4 with h4|⟨b,o,e1,h5,h6,h7⟩
 · exact .inl h4
 · exact .inr ⟨b,o,e1,⟨h5,h6⟩,h6,h7⟩
theorem vam.ok.mono {D D':Nat→Prop} {w:World} {x:vam} (h:x.ok D w) (hD:∀b,D b→b<w.heap.size→D' b):x.ok D' w:=
 ⟨h.le,h.a.fresh.mono λb hb=>hD b hb.1 hb.2,h.c.fresh.mono λb hb=>hD b hb.1 hb.2,h.d.fresh.mono λb hb=>hD b hb.1 hb.2⟩
def vb3 (L:List vam):List Value:=L.flatMap λx=>vas x.u x.a x.c x.d
def vb9 (K:Nat) (w:World) (v:Value) (L:List vam):Prop:=w.ownsRow K 41 8 v L.length (vb3 L)∧∀x∈L,x.ok (λb=>(v.ownBlock≠some b∧K≤b)∧vap w b) w
theorem vb9.below {K K':Nat} {w w':World} {v:Value} {L:List vam} (h:vb9 K w v L) (hb:Below K' w w') (hK:w.heap.size≤K'):vb9 K w' v L:=⟨aT h.1 hb hK,λx hx=>((h.2 x hx).mono λb hbb hl=>⟨hbb.1,hbb.2.keep (hb.block b (Nat.lt_of_lt_of_le hl hK))⟩).below hb hK⟩
theorem vd7:(Tryz.prog.info? 41).map (λi=>(i.zero,i.size,i.bytes))=some (some (.agg #[str [],.int .i64 0,str [],str [],.slice none 0 0,.bool false,.slice none 0 0,.slice none 0 0]),8,136):=by kernel_rfl
theorem vcz {R:Nat→Prop} {w W:World} {l:Loc} {L:bh} {j:Nat} (h:vag R w W l L j):
 Calls Tryz.prog 17 #[.pointer (some ⟨l.sb,0,none⟩)] W λe W'=>(∃v us,e=.returned v∧vb9 W.heap.size W' v us∧us.map (·.u)=(bZ L.units).map (vaj L.units))∧Below W.heap.size W W':=by
 have HN:=zy W h.read
 have hnm:=h.names
 go_enter Tryz.func17,Tryz.ntmps17
 go_upto_region 3 with(go_at_call 16;refine HN.mono ?_;clear HN;rintro e w1 ⟨nv,rfl,JC,aP⟩;obtain⟨np,nc,rfl⟩:=aJ JC)
 have vcq:∀s∈bZ L.units,s.length≤maxLen:=λs hs=>by have:=(hnm s hs).2;unfold maxLen;omega
 have vgo:=SS.row JC rfl vcq
 have h1:=h.below aP
 have hnl:(bZ L.units).length≤20:=by
  unfold bZ;rw[iP,List.length_map];exact h.inv.vi2
 clear JC
 generalize hNs:bZ L.units=vht at *
 generalize vbm:vht.length=NL at *
 replace vbm:=zh vbm
 replace hNs:=zh hNs
 replace hnm:=zh hnm
 replace vcq:=zh vcq
 have Rx:W.heap.size≤w1.heap.size:=aP.size
 go_loopw [3,11] (λuv y wx=>∃(i:Nat) (us:List vam),i≤NL∧y=.int .i64 i∧us.length=i∧us.map (·.u)=(vht.take i).map (vaj L.units)∧vb9 w1.heap.size wx uv us∧Below w1.heap.size w1 wx) (λ_ y _=>NL - (intOf y).toNat)
 case atStart=>exact⟨0,[],Nat.zero_le _,by go_num,rfl,by simp,⟨World.ownsRow_nil _ _ _ _,λx hx=>by cases hx⟩,zb _⟩
 case round =>
  obtain⟨i,us,hi1,rfl,CJ,N4,hown,gN⟩:=hrel;obtain⟨qv,vi8,vgw⟩:=aJ hown.1;subst vgw
  by_cases hlt:i<NL
  case pos =>
   obtain⟨x,hx⟩:∃x,vht[i]? =some x:=⟨_,List.getElem?_eq_getElem (by rw[vbm.out];exact hlt)⟩
   obtain⟨pb,po,rfl,_,d0⟩:=(vgo.below gN zr).at hx;have h3:=h1.below gN;have HX:=h3.vdd x (vcq.out x (List.mem_of_getElem? hx));have hil:(i:Int)<(NL:Int):=by omega
   have vdr:vat L.units x=0:=by unfold vat;rw[(hnm.out x (List.mem_of_getElem? hx)).1];rfl
   rw[vdr] at HX;have ve6:us.map (·.u)++[vaj L.units x]=(vht.take (i+1)).map (vaj L.units):=by
    rw[List.take_add_one,hx,N4];simp
   replace ve6:=zh ve6
   generalize vff:vaj L.units x=X0 at HX
   replace vff:=zh vff
   obtain⟨i0,kN,hz0,hz1,hz2⟩:=aV vd7;clear vdr N4;go_upto_region 6 with(go_at_call 27;refine HX.mono ?_;clear HX;rintro e w5 ⟨⟨uv,rfl,va,vc,vd,rfl,vd6,vbx,vby,vbz⟩,oo⟩;obtain⟨s1,s2,rfl,_⟩:=vbx.shape;obtain⟨s3,s4,rfl,_⟩:=vby.shape;obtain⟨vig,vih,rfl,_⟩:=vbz.shape);generalize Hw:World.alloc _ _=W6;have rE:Below w5.heap.size w5 W6:=by rw[←Hw];exact(zb w5).alloc zr _
   have ve2:W6.heap[w5.heap.size]? =some (.cells #[.string ⟨X0.name.toArray⟩,.int .i64 (X0.version:Int),.string ⟨X0.source.toArray⟩,.string ⟨X0.aO.toArray⟩,.slice s1 X0.uses.length s2,.bool X0.built,.slice s3 (aH X0.code).length s4,.slice vig X0.used.length vih] 41 (0,0)):=by rw[←Hw];exact heap_alloc_new w5 _
   clear Hw;have b6:=(vax ve2).1;have vek:=oo.trans (aa rE oo.size);have vbv:=gN.trans (aa vek gN.size);have vbw:=hown.below vek zr;have vg9:∀b,(Value.slice qv i vi8).ownBlock=some b→w1.heap.size≤b∧b<wr.heap.size:=λb hb=>hown.1.lt b (by rw[CJ];exact hb)
   have hnew:vam.ok (λb=>((Value.slice qv i vi8).ownBlock≠some b∧w1.heap.size≤b)∧vap W6 b) W6 ⟨X0,.slice s1 X0.uses.length s2,.slice s3 (aH X0.code).length s4,.slice vig X0.used.length vih⟩:=by
    have hD:∀b,wr.heap.size≤b∧vap w5 b→((Value.slice qv i vi8).ownBlock≠some b∧w1.heap.size≤b)∧vap W6 b:=λb hb=>⟨⟨λe=>by have:=(vg9 b e).2;omega,Nat.le_trans gN.size hb.1⟩,hb.2.below rE zr⟩
    exact⟨vd6,(vbx.below rE zr).mono hD,(vby.below rE zr).mono hD,(vbz.below rE zr).mono hD⟩
   have CA:Below W6.heap.size W6 (W6.alloc (.cells #[.string ⟨X0.name.toArray⟩,.int .i64 (X0.version:Int),.string ⟨X0.source.toArray⟩,.string ⟨X0.aO.toArray⟩,.slice s1 X0.uses.length s2,.bool X0.built,.slice s3 (aH X0.code).length s4,.slice vig X0.used.length vih] 41)):=(zb W6).alloc zr _;have vfm:=heap_alloc_new W6 (.cells #[.string ⟨X0.name.toArray⟩,.int .i64 (X0.version:Int),.string ⟨X0.source.toArray⟩,.string ⟨X0.aO.toArray⟩,.slice s1 X0.uses.length s2,.bool X0.built,.slice s3 (aH X0.code).length s4,.slice vig X0.used.length vih] 41);have MB:=aT vbw.1 CA zr;rw[CJ] at MB;have xR:=vbv.trans (aa CA vbv.size);clear vbx vby vbz hown ve2;go_wp2_with (at_builtin;refine gK _ rfl _ _ 36 rfl w1.heap.size 41 i0 _ 8 136 (by kernel_rfl) kN hz0 hz1 hz2 rfl (by decide) _ i _ rfl MB ⟨W6.heap.size,0,none⟩ 1 1 (vas X0 (.slice s1 X0.uses.length s2) (.slice s3 (aH X0.code).length s4) (.slice vig X0.used.length vih)) rfl rfl (λj u hj=>by rw[eH];exact(af vfm (0+j)).trans (by simpa[vas] using hj)) (λu hu=>by unfold vas at hu;simp only[List.mem_cons,List.not_mem_nil,or_false] at hu;rcases hu with rfl|rfl|rfl|rfl|rfl|rfl|rfl|rfl<;>rfl) (by decide) (by unfold maxLen;omega) (by omega) xR.size ?_;intro v' w7 vcl hgr Qd);have MJ:(W6.alloc (.cells #[.string ⟨X0.name.toArray⟩,.int .i64 (X0.version:Int),.string ⟨X0.source.toArray⟩,.string ⟨X0.aO.toArray⟩,.slice s1 X0.uses.length s2,.bool X0.built,.slice s3 (aH X0.code).length s4,.slice vig X0.used.length vih] 41)).heap.size=W6.heap.size+1:=by simp
   have hkeep:∀y:vam,y.ok (λb=>((Value.slice qv i vi8).ownBlock≠some b∧w1.heap.size≤b)∧vap W6 b) W6→y.ok (λb=>(v'.ownBlock≠some b∧w1.heap.size≤b)∧vap w7 b) w7:=λy hy=>by
    have e1:∀b,(Value.slice qv i vi8).ownBlock≠some b→b<W6.heap.size→w7.heap[b]? =W6.heap[b]? :=λb hb hl=>(hgr.block b (by rw[MJ];omega) (λe=>hb e.symm)).trans (CA.block b hl)
    have hy2:=hy.mono (D':=λb=>(((Value.slice qv i vi8).ownBlock≠some b∧w1.heap.size≤b)∧vap W6 b)∧b<W6.heap.size) λb hb hl=>⟨hb,hl⟩
    refine(hy2.agree λb hb hl=>e1 b hb.1.1.1 hl).mono λb hb _=>⟨⟨λe=>?_,hb.1.1.2⟩,hb.1.2.keep (e1 b hb.1.1.1 hb.2)⟩
    rcases Qd with Qd|Qd
    · rw[Qd] at e
      exact hb.1.1.1 e
    · rw[Qd,MJ] at e
      cases e;omega
   refine⟨⟨i+1,us++[⟨X0,.slice s1 X0.uses.length s2,.slice s3 (aH X0.code).length s4,.slice vig X0.used.length vih⟩],hlt,by go_num,by simp[CJ],?_,⟨?_,λy hy=>hkeep y ?_⟩,?_⟩,by simp only[intOf];omega⟩
   · rw[List.map_append,←ve6.out,vff.out]
     rfl
   · rw[List.length_append,CJ]
     rw[show vb3 (us++[⟨X0,.slice s1 X0.uses.length s2,.slice s3 (aH X0.code).length s4,.slice vig X0.used.length vih⟩])=vb3 us++vas X0 (.slice s1 X0.uses.length s2) (.slice s3 (aH X0.code).length s4) (.slice vig X0.used.length vih) by simp[vb3]];exact vcl
   · rcases List.mem_append.1 hy with hy|hy
     · have:=vbw.2 y hy
       rw[CJ] at this;exact this
     · rw[List.mem_singleton.1 hy]
       exact hnew
   · exact xR.grown hgr (by have:=xR.size;omega) λb e=>(vg9 b e).1
  case neg=>
   obtain rfl:i=NL:=by omega
   go_wp2_with fail;go_ret;refine⟨⟨_,us,rfl,⟨ef hown.1 Rx,λx hx=>(hown.2 x hx).mono λb hb _=>⟨⟨hb.1.1,Nat.le_trans Rx hb.1.2⟩,hb.2⟩⟩,?_⟩,aP.trans (aa gN Rx)⟩;rw[N4,List.take_of_length_le (Nat.le_of_eq vbm.out)];rw[hNs.out]
theorem vcc {w:World} {B k n c:Nat} {t:TypeId} {p:Option Addr} {cs:List Value} (h:w.ownsRow B t k (.slice p n c) n cs) (h0:0<n):∃g,p=some ⟨g,0,none⟩∧∀j u,cs[j]? =some u→w.cell? ⟨g,j,none⟩=some u:=by
 rcases h.2 with⟨_,h1⟩|⟨g,cap,cur,e,_⟩
 · omega
 · injection e with e1 _ _
   subst e1;refine⟨g,rfl,λj u hj=>?_⟩;have:=h.cells (g:=g) rfl j u hj
   rwa [eH,Nat.zero_add] at this
def vau (D:Nat→Prop) (w:World) (v:Value) (l:List az):Prop:=
 ∃p c,v=.slice p l.length c∧l.length≤maxLen∧(l=[]∨∃b o,p=some ⟨b,o,none⟩∧D b∧b<w.heap.size∧∀j u,l[j]? =some u→∃a c d,vam.ok D w ⟨u,a,c,d⟩∧w.rangeAt b (o+j * 8) (vas u a c d))
theorem vau.agree {D:Nat→Prop} {w w':World} {v:Value} {l:List az} (h:vau D w v l) (hk:∀b,D b→b<w.heap.size→w'.heap[b]? =w.heap[b]?):vau D w' v l:=by
 obtain⟨p,c,h1,h2,h3⟩:=h
 refine⟨p,c,h1,h2,?_⟩
 rcases h3 with h3|⟨b,o,e,h4,h5,h6⟩
 · exact .inl h3
 · refine .inr ⟨b,o,e,h4,wT (hk b h4 h5) h5,λj u hj=>?_⟩
   obtain⟨a,c,d,k1,k2⟩:=h6 j u hj;refine⟨a,c,d,k1.agree hk,λi x hi=>?_⟩;rw[World.cell?_of_block (w:=w) (a:=⟨b,o+j * 8+i,none⟩) (hk b h4 h5)];exact k2 i x hi
theorem vau.below {D:Nat→Prop} {w w':World} {v:Value} {l:List az} {K:Nat} (h:vau D w v l) (hb:Below K w w') (hK:w.heap.size≤K):vau D w' v l:=h.agree λb _ hl=>hb.block b (by omega)
theorem vau.at {D:Nat→Prop} {w:World} {p:Option Addr} {n c:Nat} {l:List az} (h:vau D w (.slice p n c) l) {j:Nat} {u:az} (hj:l[j]? =some u):∃b o,p=some ⟨b,o,none⟩∧∃a c d,vam.ok D w ⟨u,a,c,d⟩∧w.rangeAt b (o+j * 8) (vas u a c d):=by
 obtain⟨p',c',e,_,h4⟩:=h
 injection e with e1 _ _
 subst e1
 rcases h4 with h4|⟨b,o,e,h5,h6,h7⟩
 · rw[h4] at hj
   simp at hj
 · exact⟨b,o,e,h7 j u hj⟩
theorem vbg:∀(L:List vam) (j:Nat) (x:vam),L[j]? =some x→∀(i:Nat) (v:Value),(vas x.u x.a x.c x.d)[i]? =some v→(vb3 L)[j * 8+i]? =some v
 | [],j,x,h,_,_,_=>by simp at h
 | y::L,0,x,h,i,v,hi=>by
  obtain rfl:y=x:=by simpa using h
  rw[Nat.zero_mul,Nat.zero_add]
  show(vas y.u y.a y.c y.d++vb3 L)[i]? =some v
  rw[List.getElem?_append_left (List.getElem?_eq_some_iff.1 hi).1];exact hi
 | y::L,j+1,x,h,i,v,hi=>by
  show(vas y.u y.a y.c y.d++vb3 L)[(j+1) * 8+i]? =some v
  have hl:(vas y.u y.a y.c y.d).length=8:=rfl;rw[List.getElem?_append_right (by omega),hl,show(j+1) * 8+i - 8=j * 8+i by omega];exact vbg L j x (by simpa using h) i v hi
theorem vb9.units {K:Nat} {w:World} {v:Value} {us:List vam} (h:vb9 K w v us) (hl:us.length≤maxLen):vau (λb=>K≤b∧vap w b) w v (us.map (·.u)):=by
 have hn:(us.map (·.u)).length=us.length:=List.length_map ..
 obtain⟨p,c,hv⟩:=aJ h.1
 refine⟨p,c,by rw[hn];exact hv,by rw[hn];exact hl,?_⟩
 subst hv
 by_cases h0:us.length=0
 · left
   exact List.length_eq_zero_iff.1 (by rw[hn];exact h0)
 · right
   have hlt:=λg (hg:(Value.slice p us.length c).ownBlock=some g)=>h.1.lt g hg
   have hrb:=vap.own h.1 (by decide);obtain⟨g,rfl,hg⟩:=vcc h.1 (by omega);refine⟨g,0,rfl,hrb g rfl,(hlt g rfl).2,λj u hj=>?_⟩;rw[List.getElem?_map] at hj;obtain⟨x,hx,rfl⟩:=Option.map_eq_some_iff.1 hj;refine⟨x.a,x.c,x.d,(h.2 x (List.mem_of_getElem? hx)).mono λb hb _=>⟨hb.1.2,hb.2⟩,λi z hi=>?_⟩;rw[Nat.zero_add];exact hg _ _ (vbg us j x hx i z hi)
theorem vch {R:Nat→Prop} {w W:World} {l:Loc} {L:bh} {j:Nat} (h:vag R w W l L j):
 Calls Tryz.prog 17 #[.pointer (some ⟨l.sb,0,none⟩)] W λe W'=>(∃v,e=.returned v∧vau (λb=>W.heap.size≤b∧vap W' b) W' v ((bZ L.units).map (vaj L.units)))∧Below W.heap.size W W':=by
 refine(vcz h).mono ?_
 rintro e W' ⟨⟨v,us,rfl,ho,hm⟩,hb⟩
 refine⟨⟨v,rfl,?_⟩,hb⟩
 rw[←hm]
 refine ho.units ?_
 have e:=congrArg List.length hm
 rw[List.length_map,List.length_map] at e
 have:=h.inv.vi2
 unfold bZ at e
 rw[iP,List.length_map] at e
 unfold maxLen
 omega
theorem vag.IA {R:Nat→Prop} {w W:World} {l:Loc} {L:bh} {j:Nat} (h:vag R w W l L j):
 Calls Tryz.prog 24 #[.pointer (some ⟨l.sb,0,none⟩)] W λe W'=>(∃v,e=.returned v∧SS (λb=>W.heap.size≤b∧vap W' b) W' v (lZ L.units))∧Below W.heap.size W W':=by
 have hl:∀n∈bZ L.units,n.length≤maxLen:=λn hn=>by have:=(h.names n hn).2;unfold maxLen;omega
 refine(zD W h.read hl).mono ?_
 rintro e W' ⟨v,rfl,ho,hb⟩
 refine⟨⟨v,rfl,SS.eZ ho (λn hn=>hl n ?_) (vap.own ho (by decide))⟩,hb⟩
 unfold lZ at hn
 exact(List.mem_filter.1 hn).1
theorem vcg {w:World} {b o:Nat} {u:az} {a c d:Value} (h:w.rangeAt b o (vas u a c d)):
 w.cell? ⟨b,o,none⟩=some (str u.name)∧w.cell? ⟨b,o+1,none⟩=some (.int .i64 (u.version:Int))∧w.cell? ⟨b,o+2,none⟩=some (str u.source)∧w.cell? ⟨b,o+3,none⟩=some (str u.aO)∧w.cell? ⟨b,o+4,none⟩=some a∧w.cell? ⟨b,o+5,none⟩=some (.bool u.built)∧w.cell? ⟨b,o+6,none⟩=some c∧w.cell? ⟨b,o+7,none⟩=some d:=
 ⟨h 0 _ rfl,h 1 _ rfl,h 2 _ rfl,h 3 _ rfl,h 4 _ rfl,h 5 _ rfl,h 6 _ rfl,h 7 _ rfl⟩
theorem vce {D D' : Nat → Prop} (a b : List (List UInt8)) (v u : Value) (w : World) (hv : SS D w v a) (hu : SS D' w u b) :
 Calls Tryz.prog 29 #[v,u] w λe w'=>e=.returned (.bool (decide (a=b)))∧Below w.heap.size w w':=by
 have MT:=hv
 have ver:=hu
 obtain⟨p,c,rfl,-,hlm,-⟩:=hv.shape
 obtain⟨q,c',rfl,-,-,-⟩:=hu.shape
 clear hv hu
 by_cases hl:a.length=b.length
 · generalize hQ:decide (a=b)=Q
   replace hQ:=zh hQ
   go_enter Tryz.func29,Tryz.ntmps29;rw[←hl];rw[←hl] at ver;generalize vbm:a.length=NL at *
   replace vbm:=zh vbm
   replace hl:=zh hl
   go_upto_region 4 with fail;go_loopw [13] (λy wx=>∃i:Nat,i≤NL∧y=.int .i64 i∧a.take i=b.take i∧Below w.heap.size w wx) (λy _=>NL - (intOf y).toNat)
   case atStart=>exact⟨0,Nat.zero_le _,by go_num,by simp,zb _⟩
   case round =>
    obtain⟨i,hi,rfl,qi,gN⟩:=hrel
    by_cases hlt:i<NL
    case neg=>
     obtain rfl:i=NL:=by omega
     have hab:a=b:=by rwa [List.take_of_length_le (Nat.le_of_eq vbm.out),List.take_of_length_le (by rw[←hl.out];exact nl _)] at qi
     have Ht:Q=true:=by rw[←hQ.out];exact decide_eq_true hab
     replace Ht:=zh Ht
     clear qi hab;go_wp2_with fail;go_ret;exact⟨by rw[Ht.out];rfl,gN⟩
    case pos=>
     obtain⟨x,hx⟩:∃x,a[i]? =some x:=⟨_,List.getElem?_eq_getElem (by rw[vbm.out];exact hlt)⟩
     obtain⟨y,hy⟩:∃y,b[i]? =some y:=⟨_,List.getElem?_eq_getElem (by rw[←hl.out];exact hlt)⟩
     obtain⟨b1,o1,rfl,_,d0⟩:=(MT.below gN zr).at hx;obtain⟨b2,o2,rfl,_,d1⟩:=(ver.below gN zr).at hy;have hil:(i:Int)<(NL:Int):=by omega
     have hk1:(i:Int)+1≤9223372036854775807:=by unfold maxLen at hlm;omega
     have Qs:x=y→a.take (i+1)=b.take (i+1):=λe=>by rw[List.take_add_one,List.take_add_one,hx,hy,qi,e]
     have hne:x≠y→Q=false:=λe=>by
      rw[←hQ.out];refine decide_eq_false λh=>e ?_
      subst h;rw[hx] at hy;cases hy
      rfl
     replace Qs:=zh Qs
     replace hne:=zh hne
     replace hx:=zh hx
     replace hy:=zh hy
     clear qi;go_upto_region 6 with fail
     by_cases hxy:x=y
     · have ve5:=Qs.out hxy
       subst hxy
       replace ve5:=zh ve5
       refine Go.Proofs.YtemjidmkolfgnaaGreatDoor.u5 (D:=λ_=>True) (w:=wr) (d:=some 24) 8 [(0,.eq (.slice (some ⟨b1,o1,none⟩) NL c)),(1,.eq (.slice (some ⟨b2,o2,none⟩) NL c')),(5,vI i)] [.eq (.slice (some ⟨b1,o1,none⟩) NL c),vI i,vP b1 (o1+i),.eq (str x),.eq (.slice (some ⟨b2,o2,none⟩) NL c'),vI i,vP b2 (o2+i),.eq (str x),.eq (.bool false)]
        (λw'=>Below wr.heap.size wr w') (by kernel_rfl) rfl rfl (λ_ _ h hb=>h.trans (aa hb h.size)) (zb wr).drew ⟨rfl,rfl,rfl,trivial⟩ ?_ ?_
       · exact⟨iU rfl rfl (by kernel_rfl),iU rfl rfl (by kernel_rfl),iQ rfl (by kernel_rfl) rfl rfl rfl (λw=>by simp[go_sem,hil]),dV rfl (by kernel_rfl) rfl rfl (λW hS=>by have c1:=Below.keep hS d0;simp[go_sem,c1]),iU rfl rfl (by kernel_rfl),iU rfl rfl (by kernel_rfl),iQ rfl (by kernel_rfl) rfl rfl rfl (λw=>by simp[go_sem,hil]),dV rfl (by kernel_rfl) rfl rfl (λW hS=>by have c1:=Below.keep hS d1;simp[go_sem,c1]),gJ rfl (by kernel_rfl) rfl rfl rfl (λw=>by simp[go_sem]),trivial⟩
       intro av W4 Hu _ _;simp only[pq,pz,pw];go_wp2_with fail;exact⟨⟨i+1,hlt,by go_num,ve5.out,gN.trans (aa Hu gN.size)⟩,by simp only[intOf];omega⟩
     · have ve4:=hne.out hxy
       replace ve4:=zh ve4
       refine Go.Proofs.YtemjidmkolfgnaaGreatDoor.u5 (D:=λ_=>True) (w:=wr) (d:=some 24) 8 [(0,.eq (.slice (some ⟨b1,o1,none⟩) NL c)),(1,.eq (.slice (some ⟨b2,o2,none⟩) NL c')),(5,vI i)] [.eq (.slice (some ⟨b1,o1,none⟩) NL c),vI i,vP b1 (o1+i),.eq (str x),.eq (.slice (some ⟨b2,o2,none⟩) NL c'),vI i,vP b2 (o2+i),.eq (str y),.eq (.bool true)]
        (λw'=>Below wr.heap.size wr w') (by kernel_rfl) rfl rfl (λ_ _ h hb=>h.trans (aa hb h.size)) (zb wr).drew ⟨rfl,rfl,rfl,trivial⟩ ?_ ?_
       · exact⟨iU rfl rfl (by kernel_rfl),iU rfl rfl (by kernel_rfl),iQ rfl (by kernel_rfl) rfl rfl rfl (λw=>by simp[go_sem,hil]),dV rfl (by kernel_rfl) rfl rfl (λW hS=>by have c1:=Below.keep hS d0;simp[go_sem,c1]),iU rfl rfl (by kernel_rfl),iU rfl rfl (by kernel_rfl),iQ rfl (by kernel_rfl) rfl rfl rfl (λw=>by simp[go_sem,hil]),dV rfl (by kernel_rfl) rfl rfl (λW hS=>by have c1:=Below.keep hS d1;simp[go_sem,c1]),gJ rfl (by kernel_rfl) rfl rfl rfl (λw=>by simp[go_sem,hxy]),trivial⟩
       intro av W4 Hu _ _;simp only[pq,pz,pw];go_wp2_with fail;go_ret;exact⟨by rw[ve4.out];rfl,gN.trans (aa Hu gN.size)⟩
 · have hQ:decide (a=b)=false:=decide_eq_false λh=>hl (by rw[h])
   rw[hQ];have g1:((a.length:Int)==(b.length:Int))=false:=by simp;omega
   go_enter Tryz.func29,Tryz.ntmps29;go_wp2_with fail;go_ret;exact⟨rfl,zb _⟩
end
open Go
theorem vbq {us us':List (List UInt8×az)}:∀(l:List (List UInt8)) (d:List (List UInt8×List UInt8)),(∀n∈l,(aq us n).map (·.aO)=(aq us' n).map (·.aO))→Ci us l d=Ci us' l d
 | [],_,_=>rfl
 | n::r,d,h=>by
  have h1:=h n (by simp);have h2:=vbq r d.tail λm hm=>h m (by simp[hm])
  unfold Ci;rcases e1:aq us n with _|x<;>rcases e2:aq us' n with _|y
  · rfl
  · rw[e1,e2] at h1;cases h1
  · rw[e1,e2] at h1;cases h1
  · rw[e1,e2] at h1
    have h1:x.aO=y.aO:=by injection h1
    dsimp only;rw[h1,h2]
theorem vbh {us : List (List UInt8 × az)} : ∀ (l : List (List UInt8)) (d : List (List UInt8 × List UInt8)), (∀ n ∈ l, n ≠ []) → (Ci us l d = [] ↔ ∀ (i : Nat) (n : List UInt8), l[i]? = some n → ∃ x : az, aq us n = some x ∧ x.aO = ((d[i]?).map (fun y : List UInt8 × List UInt8 => y.2)).getD [])
 | [],_,_=>⟨λ_ i n h=>by simp at h,λ_=>rfl⟩
 | m :: r, d, hne => by
  have ih:=vbh (us:=us) r d.tail λn hn=>hne n (by simp[hn])
  have hm:=hne m (by simp);unfold Ci
  constructor
  · intro h i n hn
    rcases e1:aq us m with _|x
    · rw[e1] at h
      exact absurd h hm
    · rw [e1] at h
      dsimp only at h;split at h
      · rename_i hf
        rcases i with _|i
        · cases hn
          exact⟨x,e1,by rw[hf,List.head?_eq_getElem?]⟩
        · have:=ih.1 h i n (by simpa using hn)
          rw[List.getElem?_tail] at this;exact this
      · exact absurd h hm
  · intro h
    obtain⟨x,e1,hf⟩:=h 0 m rfl;rw[e1];dsimp only;rw[List.head?_eq_getElem?,if_pos hf];refine ih.2 λi n hn=>?_
    have:=h (i+1) n (by simpa using hn)
    rwa [List.getElem?_tail]
theorem vbo {us:List (List UInt8×az)} {n:List UInt8}:n∈bZ us↔(aq us n).isSome=true:=by
 unfold bZ
 rw[kJ]
 exact bJ.symm
theorem vay {us:List (List UInt8×az)} {n:List UInt8}:n∈lZ us↔∃u,aq us n=some u∧mT us u≠[]:=by
 unfold lZ
 rw[List.mem_filter,vbo]
 constructor
 · rintro⟨h1,h2⟩
   obtain⟨u,hu⟩:=Option.isSome_iff_exists.1 h1;refine⟨u,hu,λe=>?_⟩;unfold fC at h2;rw[hu] at h2;simp only[Option.getD_some,e] at h2;cases h2
 · rintro⟨u,hu,h⟩
   refine⟨by rw[hu];rfl,?_⟩;unfold fC;rw[hu];simp only[Option.getD_some,Bool.not_eq_true',List.isEmpty_eq_false_iff];exact h
theorem vd2 {L:bh} {j:Nat} (h:vak L j) {n:List UInt8} {u:az} (hu:aq L.units n=some u) (hs:n∉lZ L.units):
 u.built=true∧u.used.map (·.1)=u.uses∧∀(i:Nat) (x:List UInt8×List UInt8),u.used[i]? =some x→∃v,aq L.units x.1=some v∧v.aO=x.2:=by
 have hi:=h.units n u hu
 have hw:mT L.units u=[]:=Classical.byContradiction λe=>hs (vay.2 ⟨u,hu,e⟩)
 have hb:u.built=true:=by
  rcases hb:u.built with _|_
  · unfold mT at hw
    rw[hb] at hw;exact absurd (hi.name▸hw:n=[]) (vah hi.nm).1
  · rfl
 refine⟨hb,hi.vhy hb,λi x hx=>?_⟩
 unfold mT at hw
 rw[if_pos hb] at hw
 have hn:u.uses[i]? =some x.1:=by
  rw[←hi.vhy hb,List.getElem?_map,hx]
  rfl
 obtain⟨v,h1,h2⟩:=(vbh u.uses u.used λm hm=>(vah (hi.un m hm).1).1).1 hw i x.1 hn
 refine⟨v,h1,?_⟩
 rw[h2,hx]
 rfl
def vb0 (us:List (List UInt8×az)):Prop:=∀n u,aq us n=some u→∀x∈u.uses,(aq us x).isSome=true
theorem vcu {us:List (List UInt8×az)} (h:sN us=[]):vb0 us:=λn u hu x hx=>by
 rcases hq:aq us x with _|v
 · have hm:x∈sN us:=by
    unfold sN Iq;rw[kJ,sr,List.mem_filter,List.mem_flatMap];refine .inr ⟨⟨_,eS hu,hx⟩,by rw[hq];rfl⟩
   rw[h] at hm;simp at hm
 · rfl
theorem vb1 {L:bh} {n:List UInt8} (hn:vb0 L.units) (h:(aq L.units n).isSome=true):vaq L n []=true:=by
 obtain⟨u,hu⟩:=Option.isSome_iff_exists.1 h
 unfold vaq
 rw[hu]
 dsimp only
 rw[Bool.and_eq_true]
 refine⟨List.all_eq_true.2 λx hx=>hn n u hu x hx,by simp⟩
theorem vav {L:bh} {j:Nat} (h:vak L j) {n:List UInt8} {u:az} (hu:aq L.units n=some u) (code m:List UInt8):aq (ez L n code).units m=if m=n then some (tR L u code) else aq L.units m:=by
 unfold ez
 rw[hu]
 dsimp only[Option.getD_some]
 rw[kG,(h.units n u hu).name]
theorem vc7 {L:bh} {j:Nat} (h:vak L j) {n:List UInt8} {u:az} (hu:aq L.units n=some u) (code m:List UInt8):(aq (ez L n code).units m).map (·.aO)=(aq L.units m).map (·.aO):=by
 rw[vav h hu]
 split
 · rename_i e
   subst e;rw[hu]
   rfl
 · rfl
theorem vbr {L:bh} {j:Nat} (h:vak L j) {n:List UInt8} {u:az} (hu:aq L.units n=some u) (code:List UInt8) (hn:vb0 L.units):vb0 (ez L n code).units:=by
 have hs:∀m,(aq (ez L n code).units m).isSome=(aq L.units m).isSome:=λm=>by
  rw[vav h hu];split
  · rename_i e
    subst e;rw[hu]
    rfl
  · rfl
 intro m v hv x hx
 rw[hs]
 rw[vav h hu] at hv
 split at hv
 · cases hv
   exact hn n u hu x hx
 · exact hn m v hv x hx
theorem vb6 {L:bh} {j:Nat} (h:vak L j) {n:List UInt8} {u:az} (hu:aq L.units n=some u) (code m:List UInt8) (hn:vb0 L.units):m∈lZ (ez L n code).units↔m∈lZ L.units∧m≠n:=by
 rw[vay,vay,vav h hu]
 have key:∀v:az,mT (ez L n code).units v=mT L.units v:=λv=>by
  unfold mT;split
  · exact vbq _ _ λx _=>vc7 h hu code x
  · rfl
 by_cases e:m=n
 · subst e
   rw[if_pos rfl]
   constructor
   · rintro⟨v,hv,hw⟩
     cases hv;refine absurd ?_ hw;rw[key];unfold mT;rw[if_pos (show(tR L u code).built=true from rfl)];have hi:=h.units m u hu;refine(vbh _ _ λx hx=>(vah (hi.un x hx).1).1).2 λi x hx=>?_
     have hx':u.uses[i]? =some x:=hx;obtain⟨v,hv⟩:=Option.isSome_iff_exists.1 (hn m u hu x (List.mem_of_getElem? hx'));refine⟨v,hv,?_⟩
     show v.aO=(((cM L u)[i]?).map _).getD []
     unfold cM;rw[List.getElem?_map,hx']
     show v.aO=((aq L.units x).getD .zero).aO
     rw[hv]
     rfl
   · rintro⟨_,h2⟩
     exact absurd rfl h2
 · rw[if_neg e]
   simp only[key];exact⟨λh1=>⟨h1,e⟩,λh1=>h1.1⟩
theorem vba {L:bh} {n:List UInt8} (hn:vb0 L.units) (h:(aq L.units n).isSome=true):vao L n []=ez L n []:=by
 unfold vao
 rw[vb1 hn h,if_pos rfl]
theorem vb8 {L:bh} {j:Nat} (h:vak L j):(lZ L.units).Nodup:=by
 unfold lZ bZ
 exact(vc2 h.nd).filter _
theorem vc3 {us:List (List UInt8×az)} {n:List UInt8} (h:n∈lZ us):(aq us n).isSome=true:=by
 obtain⟨u,hu,_⟩:=vay.1 h
 rw[hu]
 rfl
theorem vcx {L:bh} {j:Nat} (h:vak L j):(lZ L.units).length≤20:=by
 unfold lZ bZ
 refine Nat.le_trans (List.length_filter_le _ _) ?_
 rw[iP,List.length_map]
 exact h.vi2
theorem vdb {l:List (List UInt8)} {n:List UInt8} (hd:l.Nodup) (h:∀m,m∈l↔m=n):l=[n]:=by
 rcases l with _|⟨a,l⟩
 · have:=(h n).2 rfl
   simp at this
 · have ha:a=n:=(h a).1 (by simp)
   subst ha;rcases l with _|⟨b,l⟩
   · rfl
   · have hb:b=a:=(h b).1 (by simp)
     subst hb;simp at hd
structure vdf (L:bh) (todo:List (List UInt8)) (one:List UInt8):Prop where
 nm:vb0 L.units
 nd:todo.Nodup
 no:one∉todo
 st:∀m,m∈lZ L.units↔m∈todo∨m=one
theorem vc1 {l:List (List UInt8)} {k:Nat} {x:List UInt8} (hk:l[k]? =some x):l.Perm (x::(l.take k++l.drop (k+1))):=by
 have hs:l=l.take k++x::l.drop (k+1):=by
  obtain⟨hl,rfl⟩:=List.getElem?_eq_some_iff.1 hk;rw[←List.drop_eq_getElem_cons hl,List.take_append_drop]
 conv=>lhs;rw[hs]
 exact List.perm_middle
theorem vdf.start {L:bh} {j k:Nat} (h:vak L j) (hm:sN L.units=[]) {one:List UInt8} (hk:(lZ L.units)[k]? =some one):vdf L ((lZ L.units).take k++(lZ L.units).drop (k+1)) one:=by
 have hp:=vc1 hk
 have hd:=hp.nodup_iff.1 (vb8 h)
 rw[List.nodup_cons] at hd
 exact⟨vcu hm,hd.2,hd.1,λm=>by rw[hp.mem_iff,List.mem_cons,or_comm]⟩
theorem vdf.step {L:bh} {todo:List (List UInt8)} {one n:List UInt8} {j k:Nat} (h:vak L j) (hf:vdf L todo one) (hk:todo[k]? =some n):
 vaq L n []=true∧vdf (vao L n []) (todo.take k++todo.drop (k+1)) one:=by
 have hp:=vc1 hk
 have hd:=hp.nodup_iff.1 hf.nd
 rw[List.nodup_cons] at hd
 have hn:n∈lZ L.units:=(hf.st n).2 (.inl (List.mem_of_getElem? hk))
 have hs:=vc3 hn
 obtain⟨u,hu⟩:=Option.isSome_iff_exists.1 hs
 have hno:one≠n:=λe=>hf.no (e▸List.mem_of_getElem? hk)
 rw[vba hf.nm hs]
 refine⟨vb1 hf.nm hs,vbr h hu [] hf.nm,hd.2,λhm=>hf.no (hp.mem_iff.2 (List.mem_cons.2 (.inr hm))),λm=>?_⟩
 rw[vb6 h hu [] m hf.nm,hf.st,hp.mem_iff,List.mem_cons]
 constructor
 · rintro⟨(h1|h1)|h1,h2⟩
   · exact absurd h1 h2
   · exact .inl h1
   · exact .inr h1
 · rintro(h1|h1)
   · exact⟨.inl (.inr h1),λe=>hd.1 (e▸h1)⟩
   · exact⟨.inr h1,λe=>hno (h1▸e)⟩
theorem vdf.last {L:bh} {one:List UInt8} {j:Nat} (h:vak L j) (hf:vdf L [] one):lZ L.units=[one]∧vaq L one []=true∧lZ (vao L one []).units=[]:=by
 have h1:lZ L.units=[one]:=vdb (vb8 h) λm=>by rw[hf.st];simp
 have hs:=vc3 (us:=L.units) (n:=one) (by rw[h1];simp)
 obtain⟨u,hu⟩:=Option.isSome_iff_exists.1 hs
 rw[vba hf.nm hs]
 refine⟨h1,vb1 hf.nm hs,List.eq_nil_iff_forall_not_mem.2 λm hm=>?_⟩
 rw[vb6 h hu [] m hf.nm,h1,List.mem_singleton] at hm
 exact hm.2 hm.1
theorem vcj {l:List (List UInt8)} {s:List UInt8}:(l.any λy=>s==y)=decide (s∈l):=by
 rw[Bool.eq_iff_iff,List.any_eq_true,decide_eq_true_iff]
 simp
section
variable {x:vbj} {L vhi:bh} {vhz:Bool} {F:List UInt8} {j:Nat} {u:az}
end
