/-
  Lemmas for the statement: contracts of the package store: Built, Drop. Conditions: bounds of lengths; the variable strings.asciiSpace.
-/
import Derived.Test.YtemjidmkolfgnaaGreatDoorSBn
import Derived.Test.YtemjidmkolfgnaaGreatDoorSB41
set_option maxHeartbeats 25600000
namespace Go.Proofs.YtemjidmkolfgnaaGreatDoor
section
open Go Go.RowKit Go.Maps
theorem FM {D:Nat→Prop} {w:World} {v:Value} {l:List UInt8} (h:CV D w v (aH l)):(convert 38 9 v).run Tryz.prog w=.ok (str l) w:=by
 obtain⟨p,c,rfl,_,_,h4⟩:=h
 rw[ak]
 rcases p with _|a
 · obtain rfl:l=[]:=by
    rcases h4 with h4|⟨b,o,e,_⟩
    · simpa[aH] using h4
    · cases e
   exact run_convert_bytes_nil _ 38 5 Tryz.underlying38 Tryz.underlying5 _ _ _ Tryz.underlying9
 · refine run_convert_bytes_back w _ _ 5 a c l Tryz.underlying38 Tryz.underlying5 Tryz.underlying9 λj hj=>?_
   rcases h4 with h4|⟨b,o,e,_,_,hc⟩
   · have:l=[]:=by simpa[aH] using h4
     subst this;cases hj
   · injection e with e
     subst e;rw[eH];exact hc j _ (by rw[jo,List.getElem?_eq_getElem hj];rfl)
theorem EX (a b c:List UInt8) (w:World):Calls Tryz.prog 90 #[.agg #[str a,str b],str c] w λe w'=>e=.returned (.bool (a==c))∧Below w.heap.size w w':=by
 have gN:=heap_alloc_new w (.cells #[str a,str b] 55)
 have hA:=(zb w).alloc zr (.cells #[str a,str b] 55)
 have c0:=(af gN 0).trans rfl
 go_enter Tryz.func90,Tryz.ntmps90
 go_wp2_with fail
 go_ret
 exact⟨rfl,hA⟩
set_option maxRecDepth 8000 in
theorem rz {D D':Nat→Prop} (used:List (List UInt8×List UInt8)) (uses:List (List UInt8)) (v u:Value) (w:World) (hv:ck D w v used) (hu:SS D' w u uses) (hn:used.length≤100000) (_hm:uses.length≤100000):
 Calls Tryz.prog 89 #[v,u,.func (.func 90) #[] #[]] w λe w'=>e=.returned (.bool (decide (used.map (·.1)=uses)))∧Below w.heap.size w w':=by
 obtain⟨r,hr⟩:∃r,decide (used.map (·.1)=uses)=r:=⟨_,rfl⟩
 rw[hr]
 replace hr:=zh hr
 obtain⟨pv,cv,rfl,_⟩:=hv.shape
 obtain⟨pu,cu,rfl,_⟩:=hu.shape
 by_cases hl:used.length=uses.length
 case neg=>
  obtain rfl:r=false:=by
   rw[←hr.out,decide_eq_false_iff_not];intro e;exact hl (by rw[←e,List.length_map])
  have hq:((used.length:Int)==(uses.length:Int))=false:=by rw[beq_eq_false_iff_ne];omega
  clear hr hl;go_enter Tryz.func89,Tryz.ntmps89;go_wp2_with fail;go_ret;exact⟨rfl,zb _⟩
 case pos =>
  have hq:((used.length:Int)==(uses.length:Int))=true:=by simp[hl]
  have KC:((used.length:Int) != (uses.length:Int))=false:=by simp[bne,hq]
  replace hl:=zh hl
  go_enter Tryz.func89,Tryz.ntmps89;go_wp2_with fail;go_loopw [17] (λy wx=>∃i:Nat,i≤used.length∧y=.int .i64 i∧Below w.heap.size w wx∧(used.take i).map (·.1)=uses.take i) (λy _=>used.length - (intOf y).toNat)
  case atStart=>exact⟨0,Nat.zero_le _,by go_num,zb _,rfl⟩
  case round =>
   obtain⟨i,hi,rfl,cN,hk⟩:=hrel
   by_cases hlt:i<used.length
   case neg=>
    obtain rfl:i=used.length:=by omega
    obtain rfl:r=true:=by
     rw[←hr.out,decide_eq_true_eq];rw[List.take_length,hl.out,List.take_length] at hk;exact hk
    clear hr hk;go_wp2_with fail;go_ret;exact⟨rfl,cN⟩
   case pos=>
    obtain⟨x,hx⟩:∃x,used[i]? =some x:=⟨_,List.getElem?_eq_getElem hlt⟩
    obtain⟨y,hy⟩:∃y,uses[i]? =some y:=⟨_,List.getElem?_eq_getElem (by have:=hl.out;omega)⟩
    obtain⟨b,o,rfl,_,d0,d1⟩:=(hv.below cN zr).at hx;obtain⟨b2,o2,rfl,_,e0⟩:=(hu.below cN zr).at hy;have hA:=(zb wr).alloc zr (.cells #[str x.1,str x.2] 55);have gN:=heap_alloc_new wr (.cells #[str x.1,str x.2] 55);have n0:=(af gN 0).trans rfl;have n1:=(af gN 1).trans rfl;have VY:=Below.keep hA e0;have hil:(i:Int)<(uses.length:Int):=by have:=hl.out;omega
    have h63:(i:Int)+1≤9223372036854775807:=by omega
    have HS:=EX x.1 x.2 y (wr.alloc (.cells #[str x.1,str x.2] 55));have z7:=cN.trans (aa hA cN.size);rcases hxy:x.1==y with _|_
    · obtain rfl:r=false:=by
       rw[←hr.out,decide_eq_false_iff_not];intro e;have e2:=congrArg (λl:List (List UInt8)=>l[i]?) e;simp only[List.getElem?_map,hx,hy,Option.map_some,Option.some.injEq] at e2;rw[e2] at hxy;simp at hxy
      rw[hxy] at HS;clear hr hk hx hy hxy;go_wp2_with (go_at_call 90;refine HS.mono ?_;clear HS;rintro e w1 ⟨rfl,aP⟩);go_ret;exact⟨rfl,z7.trans (aa aP z7.size)⟩
    · have hk2:=zh (show(used.take (i+1)).map (·.1)=uses.take (i+1) by
       rw[List.take_add_one,List.take_add_one,hx,hy,List.map_append,hk];simp only[Option.toList_some,List.map_cons,List.map_nil];rw[eq_of_beq hxy])
      rw[hxy] at HS;clear hr hk hx hy hxy;go_wp2_with (go_at_call 90;refine HS.mono ?_;clear HS;rintro e w1 ⟨rfl,aP⟩);exact⟨⟨i+1,hlt,by go_num,z7.trans (aa aP z7.size),hk2.out⟩,by simp only[intOf];omega⟩
def lK (us:List (List UInt8×az)) (x:List UInt8×List UInt8):Bool:=
 match aq us x.1 with
 | some v=>v.aO==x.2
 | none=>false
def iu (L:bh) (name:List UInt8) (version:Int) (code:List UInt8) (used:List (List UInt8×List UInt8)):Nat:=
 match aq L.units name with
 | none=>5
 | some u=>if((u.version:Int)==version)=false then 193 else if decide (code.length≤3000)=false then 2 else if decide (used.map (·.1)=u.uses)=false then 1 else if used.all (lK L.units)=false then 194 else 0
structure lB (w:World) (n0 n1 n2 n3 n4 sb:Nat) (name:List UInt8) (version:Int) (cv uv:Value):Prop where
 c0:w.heap[n0]? =some (.cells #[.pointer (some ⟨sb,0,none⟩)] 26 (0,0))
 c1:w.heap[n1]? =some (.cells #[str name] 9 (0,0))
 c2:w.heap[n2]? =some (.cells #[.int .i64 version] 3 (0,0))
 c3:w.heap[n3]? =some (.cells #[cv] 38 (0,0))
 c4:w.heap[n4]? =some (.cells #[uv] 39 (0,0))
theorem lB.below {w w':World} {n0 n1 n2 n3 n4 sb:Nat} {name:List UInt8} {version:Int} {cv uv:Value} (h:lB w n0 n1 n2 n3 n4 sb name version cv uv) {K:Nat} (hb:Below K w w') (hK:w.heap.size≤K):lB w' n0 n1 n2 n3 n4 sb name version cv uv:=by
 have key:∀{n:Nat} {x:Obj},w.heap[n]? =some x→w'.heap[n]? =some x:=λe=>(hb.block _ (Nat.lt_of_lt_of_le (aj e) hK)).trans e
 exact⟨key h.c0,key h.c1,key h.c2,key h.c3,key h.c4⟩
theorem lB.cells {w:World} {n0 n1 n2 n3 n4 sb:Nat} {name:List UInt8} {version:Int} {cv uv:Value} (h:lB w n0 n1 n2 n3 n4 sb name version cv uv):w.cell? ⟨n0,0,none⟩=some (.pointer (some ⟨sb,0,none⟩))∧w.cell? ⟨n1,0,none⟩=some (str name)∧w.cell? ⟨n2,0,none⟩=some (.int .i64 version)∧w.cell? ⟨n3,0,none⟩=some cv∧w.cell? ⟨n4,0,none⟩=some uv:=
 ⟨(af h.c0 0).trans rfl,(af h.c1 0).trans rfl,(af h.c2 0).trans rfl,(af h.c3 0).trans rfl,(af h.c4 0).trans rfl⟩
def iD (name code:List UInt8):List UInt8:=aU 0 [eW,name,code]
structure G7 (L:bh) (at_ dn:Nat) (name code:List UInt8) (used:List (List UInt8×List UInt8)):Prop where
 lib:AM L
 ln:name.length≤1000
 lc:code.length≤10000
 nu:used.length≤1000
 nz:∀u,aq L.units name=some u→(0:UInt8)∉name
 at_:at_+bV (iD name code).length≤dn
 dn:dn≤65536
def tF (R:Nat→Prop) (B:Nat) (w:World) (l:Loc) (L:bh) (at_:Nat) (name:List UInt8) (version:Int) (code:List UInt8) (used:List (List UInt8×List UInt8)) (E:Nat) (w1:World):Prop:=
 E=iu L name version code used∧(if E=0 then bq (RO R w.heap.size) B w1 l (ez L name code) (at_+bV (iD name code).length) else bq R B w1 l L at_)∧KW B l.mu l.ml w w1
set_option maxRecDepth 8000 in
theorem x9 {R D D':Nat→Prop} {B:Nat} {l:Loc} {L:bh} {at_:Nat} {n0 n1 n2 n3 n4:Nat} {cv uv:Value} (name:List UInt8) (version:Int) (code:List UInt8) (used:List (List UInt8×List UInt8)) (w:World) (hE:lB w n0 n1 n2 n3 n4 l.sb name version cv uv) (hc:CV D w cv (aH code)) (hv:ck D' w uv used) (hS:bq R B w l L at_) (hm:fe w) (lN:0<B) (hP:G7 L at_ l.dn name code used):
 Calls Tryz.prog 88 #[.pointer (some ⟨n0,0,none⟩),.pointer (some ⟨n1,0,none⟩),.pointer (some ⟨n2,0,none⟩),.pointer (some ⟨n3,0,none⟩),.pointer (some ⟨n4,0,none⟩)] w λe w1=>∃E,e=vM E∧tF R B w l L at_ name version code used E w1:=by
 have mm:B≤w.heap.size:=Nat.le_trans hS.hB.1 (Nat.le_of_lt (aj hS.head))
 have jE:∀(E:Nat) (w1:World),E≠0→iu L name version code used=E→Below w.heap.size w w1→tF R B w l L at_ name version code used E w1:=λE w1 h0 he hb=>⟨he.symm,by rw[if_neg h0];exact hS.below hb zr mm,KW.ai hb zr mm⟩
 obtain⟨pc,cc,rfl,Fs⟩:=hc.shape
 obtain⟨pu,cu,rfl,JJ,N4⟩:=hv.shape
 rw[ak] at hE hc Fs
 obtain⟨vu,hlk,oP⟩:=hS.lib.units.iL (k:=name) (by have:=hP.ln;unfold maxLen;omega)
 have ri:iu L name version code used=match aq L.units name with
  | none=>5
  | some u=>if((u.version:Int)==version)=false then 193 else if decide (code.length≤3000)=false then 2 else if decide (used.map (·.1)=u.uses)=false then 1 else if used.all (lK L.units)=false then 194 else 0:=rfl
 have CJ:=hP.lib.uses name
 have hnz:=hP.nz
 generalize v8:aq L.units name=lu at *
 obtain⟨ua,uc,ud,rfl,_,kO,nH,nI⟩:=oP
 obtain⟨q1,q2,rfl,_⟩:=kO.shape
 obtain⟨q3,q4,rfl,_⟩:=nH.shape
 obtain⟨q5,q6,rfl,_⟩:=nI.shape
 have Bl:l.mu<w.heap.size:=by
  obtain⟨es,cc,h1⟩:=hS.lib.units.map;exact aj h1
 have A6:=(zb w).alloc zr (.cells #[str [],.int .i64 0,str [],str [],.slice none 0 0,.bool false,.slice none 0 0,.slice none 0 0] 41)
 have Ou:=hE.cells
 have I2:=(hE.below A6 zr).cells
 have yt:=(af hS.head 0).trans rfl
 have Mh:=Below.keep A6 yt
 obtain⟨U,hU⟩:∃U,lu.getD .zero=U:=⟨_,rfl⟩
 rw[hU] at hlk kO CJ
 have jQ:∀W,Below w.heap.size w W→(Instr.lookup 106 (.map (some l.mu)) (str name) true).run Tryz.prog W=.ok (.tuple #[.agg #[str U.name,.int .i64 (U.version:Int),str U.source,str U.aO,.slice q1 U.uses.length q2,.bool U.built,.slice q3 (aH U.code).length q4,.slice q5 U.used.length q6],.bool lu.isSome]) W:=λW hW=>by
  exact hlk W true (hW.block _ Bl)
 have j1:=jQ _ (zb w)
 have j2:=jQ _ (zb w).drew
 have j3:=jQ _ A6
 have j4:=jQ _ A6.drew
 clear hlk jQ nH nI
 obtain⟨JO,DP⟩:∃b,lu.isSome=b:=⟨_,rfl⟩
 rw[DP] at j1 j2 j3 j4
 replace DP:=zh DP
 replace v8:=zh v8
 replace hU:=zh hU
 go_enter Tryz.func88,Tryz.ntmps88
 go_upto_region 0 with fail
 apply mM
 · intro hone
   go_region
   all_goals exact hone
 obtain⟨W1,rB⟩:∃W1,(w.alloc (.cells #[str U.name,.int .i64 (U.version:Int),str U.source,str U.aO,.slice q1 U.uses.length q2,.bool U.built,.slice q3 (aH U.code).length q4,.slice q5 U.used.length q6] 41)).drew=W1:=⟨_,rfl⟩
 have fc:Below w.heap.size w W1:=rB▸((zb w).alloc zr _).drew
 have DE:W1.heap[w.heap.size]? =some (.cells #[str U.name,.int .i64 (U.version:Int),str U.source,str U.aO,.slice q1 U.uses.length q2,.bool U.built,.slice q3 (aH U.code).length q4,.slice q5 U.used.length q6] 41 (0,0)):=rB▸heap_alloc_new w _
 rw[rB]
 clear rB j1 j2 j3 j4 A6 I2 Mh Ou yt
 have o6:=hE.below fc zr
 have J8:=o6.cells
 have u1:=(af DE 1).trans rfl
 have u4:=(af DE 4).trans rfl
 rcases lu with _|u
 · obtain rfl:JO=false:=DP.out.symm
   go_wp2_with (go_at_call 58;refine(cm 5 _).mono ?_;rintro e w2 ⟨rfl,rfl⟩);exact⟨rfl,5,(bQ (by decide)).symm,jE 5 _ (by decide) ri fc⟩
 obtain rfl:JO=true:=DP.out.symm
 obtain rfl:u=U:=hU.out
 dsimp only at ri
 by_cases h1:((u.version:Int)==version)=false
 · rw[if_pos h1] at ri
   go_wp2_with (first
    | (go_at_call 58;refine(bt 5 _).mono ?_;rintro e w2 ⟨rfl,rfl⟩)
    | (go_at_call 58;refine(cm 193 _).mono ?_;rintro e w2 ⟨rfl,rfl⟩))
   exact⟨rfl,193,(bQ (by decide)).symm,jE 193 _ (by decide) ri fc⟩
 rw[if_neg h1] at ri
 rw[Bool.not_eq_false] at h1
 by_cases h2:decide (code.length≤3000)=false
 · rw[if_pos h2] at ri
   have h2:decide ((code.length:Int)≤3000)=false:=decide_eq_false (by have:=of_decide_eq_false h2;omega);go_wp2_with (first
    | (go_at_call 58;refine(bt 5 _).mono ?_;rintro e w2 ⟨rfl,rfl⟩)
    | (go_at_call 58;refine(bt 193 _).mono ?_;rintro e w2 ⟨rfl,rfl⟩)
    | (go_at_call 58;refine(cm 2 _).mono ?_;rintro e w2 ⟨rfl,rfl⟩))
   exact⟨rfl,2,(bQ (by decide)).symm,jE 2 _ (by decide) ri fc⟩
 rw[if_neg h2] at ri
 have Tx:(code.length:Int)≤3000:=by simp at h2;omega
 clear h2
 have HEq:=rz used u.uses _ _ W1 (hv.below fc zr) (kO.below fc zr) (by have:=hP.nu;omega) (by omega)
 by_cases h3:decide (used.map (·.1)=u.uses)=false
 · rw[if_pos h3] at ri
   rw[h3] at HEq;go_wp2_with (first
    | (go_at_call 89;refine HEq.mono ?_;clear HEq;rintro e w3 ⟨rfl,cK⟩)
    | (go_at_call 58;refine(bt 5 _).mono ?_;rintro e w2 ⟨rfl,rfl⟩)
    | (go_at_call 58;refine(bt 193 _).mono ?_;rintro e w2 ⟨rfl,rfl⟩)
    | (go_at_call 58;refine(bt 2 _).mono ?_;rintro e w2 ⟨rfl,rfl⟩)
    | (go_at_call 58;refine(cm 1 _).mono ?_;rintro e w2 ⟨rfl,rfl⟩))
   exact⟨rfl,1,(bQ (by decide)).symm,jE 1 _ (by decide) ri (fc.trans (aa cK fc.size))⟩
 rw[if_neg h3] at ri
 rw[Bool.not_eq_false] at h3
 rw[h3] at HEq
 clear h3
 go_upto_region 5 with(first
  | (go_at_call 89;refine HEq.mono ?_;clear HEq;rintro e w3 ⟨rfl,cK⟩)
  | (go_at_call 58;refine(bt 5 _).mono ?_;rintro e w2 ⟨rfl,rfl⟩)
  | (go_at_call 58;refine(bt 193 _).mono ?_;rintro e w2 ⟨rfl,rfl⟩)
  | (go_at_call 58;refine(bt 2 _).mono ?_;rintro e w2 ⟨rfl,rfl⟩)
  | (go_at_call 58;refine(bt 1 _).mono ?_;rintro e w2 ⟨rfl,rfl⟩))
 have eV:=fc.trans (aa cK fc.size)
 have J9:=(hE.below eV zr).cells
 clear cK fc o6 J8 u1 u4 DE h1 Tx kO
 go_wp2_with fail
 clear J9
 have Ws:=hP.nu
 have Bl:l.mu<w.heap.size:=Bl
 go_loopw [40] (λy wx=>∃i:Nat,i≤used.length∧y=.int .i64 i∧Below w.heap.size w wx∧(used.take i).all (lK L.units)=true) (λy _=>used.length - (intOf y).toNat)
 case atStart=>exact⟨0,Nat.zero_le _,by go_num,eV,rfl⟩
 case round=>
  obtain⟨i,hi,rfl,cN,hal⟩:=hrel;have A4:=(hE.below cN zr).cells
  by_cases hlt:i<used.length
  case pos=>
   obtain⟨x,hx⟩:∃x,used[i]? =some x:=⟨_,List.getElem?_eq_getElem hlt⟩
   have uh:=List.mem_of_getElem? hx;obtain⟨bu,ou,rfl,_,d0,d1⟩:=(hv.below cN zr).at hx;have hxl:=(hv.le x uh).1;obtain⟨vx,hlk,Fy⟩:=hS.lib.units.iL (k:=x.1) hxl;have Ft:lK L.units x=match aq L.units x.1 with
    | some v=>v.aO==x.2
    | none=>false:=rfl
   obtain⟨lx,H7⟩:∃lx,aq L.units x.1=lx:=⟨_,rfl⟩
   rw[H7] at hlk Fy Ft;obtain⟨xa,xc,xd,rfl,_,yF,rH,Bp⟩:=Fy;obtain⟨Cp,Cq,rfl,_⟩:=yF.shape;obtain⟨Cr,Cs,rfl,_⟩:=rH.shape;obtain⟨Ct,Cu,rfl,_⟩:=Bp.shape;clear yF rH Bp;obtain⟨X,hX⟩:∃X,lx.getD .zero=X:=⟨_,rfl⟩
   rw[hX] at hlk;have h63:(i:Int)+1≤9223372036854775807:=by omega
   have qi:(used.take (i+1)).all (lK L.units)=lK L.units x:=by
    rw[List.take_add_one,hx,List.all_append,hal];simp
   have fW:lK L.units x=false→iu L name version code used=194:=λh=>by
    rw[ri,if_pos];rw[←Bool.not_eq_true,List.all_eq_true];intro hh;rw[hh x uh] at h;cases h
   clear hal hx uh H7
   replace qi:=zh qi
   replace hX:=zh hX
   go_upto_region 8 with fail;obtain⟨W3,Hv⟩:∃W3,wr.alloc (.cells #[str x.1,str x.2] 55)=W3:=⟨_,rfl⟩
   have Jr:W3.heap[wr.heap.size]? =some (.cells #[str x.1,str x.2] 55 (0,0)):=Hv▸heap_alloc_new wr _;have eV:Below w.heap.size w W3:=Hv▸cN.alloc cN.size _;rw[Hv];clear Hv d0 d1 A4;generalize wr.heap.size=P8 at *;have OR:=hE.below eV zr;have Jg:=hS.below eV zr mm;have J9:=OR.cells;have NW:=(af Jg.head 0).trans rfl;have p0:=(af Jr 0).trans rfl;have A7:=(zb W3).alloc zr (.cells #[str [],.int .i64 0,str [],str [],.slice none 0 0,.bool false,.slice none 0 0,.slice none 0 0] 41);have I2:=(OR.below A7 zr).cells;have Mh:=Below.keep A7 NW;have pA:=Below.keep A7 p0;have jQ:∀W,Below w.heap.size w W→(Instr.lookup 106 (.map (some l.mu)) (str x.1) true).run Tryz.prog W=.ok (.tuple #[.agg #[str X.name,.int .i64 (X.version:Int),str X.source,str X.aO,.slice Cp X.uses.length Cq,.bool X.built,.slice Cr (aH X.code).length Cs,.slice Ct X.used.length Cu],.bool lx.isSome]) W:=λW hW=>hlk W true (hW.block _ Bl)
   have j1:=jQ _ eV;have j2:=jQ _ eV.drew;have j3:=jQ _ (eV.trans (aa A7 eV.size));have j4:=jQ _ (eV.trans (aa A7 eV.size)).drew;clear hlk jQ;obtain⟨M4,qc⟩:∃b,lx.isSome=b:=⟨_,rfl⟩
   rw[qc] at j1 j2 j3 j4
   replace qc:=zh qc
   apply mM
   · intro hone
     go_region
     all_goals exact hone
   obtain⟨W4,Fq⟩:∃W4,(W3.alloc (.cells #[str X.name,.int .i64 (X.version:Int),str X.source,str X.aO,.slice Cp X.uses.length Cq,.bool X.built,.slice Cr (aH X.code).length Cs,.slice Ct X.used.length Cu] 41)).drew=W4:=⟨_,rfl⟩
   have tX:Below W3.heap.size W3 W4:=Fq▸((zb W3).alloc zr _).drew;have L7:W4.heap[W3.heap.size]? =some (.cells #[str X.name,.int .i64 (X.version:Int),str X.source,str X.aO,.slice Cp X.uses.length Cq,.bool X.built,.slice Cr (aH X.code).length Cs,.slice Ct X.used.length Cu] 41 (0,0)):=Fq▸heap_alloc_new W3 _;have x3:=(af L7 3).trans rfl;have p1:=(af (ag Jr tX) 1).trans rfl;have jN:=eV.trans (aa tX eV.size);rw[Fq];clear Fq j1 j2 j3 j4 A7 I2 Mh pA J9 NW p0 Jr L7 OR Jg tX eV;generalize W3.heap.size=P9 at *;rcases lx with _|y
   · obtain rfl:M4=false:=qc.out.symm
     have he:=fW Ft;clear fW qi;go_wp2_with (go_at_call 58;refine(cm 194 _).mono ?_;rintro e w2 ⟨rfl,rfl⟩);exact⟨rfl,194,(bQ (by decide)).symm,jE 194 _ (by decide) he jN⟩
   obtain rfl:M4=true:=qc.out.symm;obtain rfl:y=X:=hX.out;dsimp only at Ft;rcases hq:(y.aO==x.2) with _|_
   · have he:=fW (Ft.trans hq)
     clear fW qi;go_wp2_with (go_at_call 58;refine(cm 194 _).mono ?_;rintro e w2 ⟨rfl,rfl⟩);exact⟨rfl,194,(bQ (by decide)).symm,jE 194 _ (by decide) he jN⟩
   · have Qs:=zh (qi.out.trans (Ft.trans hq))
     clear fW qi Ft;go_wp2_with (go_at_call 58;refine(bt 194 _).mono ?_;rintro e w2 ⟨rfl,rfl⟩);exact⟨⟨i+1,hlt,by go_num,jN,Qs.out⟩,by simp only[intOf];omega⟩
  case neg=>
   obtain rfl:i=used.length:=by omega
   rw[List.take_length] at hal;rw[if_neg (by rw[hal];decide)] at ri;have hcv:=FM (hc.below cN zr);have hnz:=hnz u rfl;have hA:=(zb wr).alloc zr (.cells ([eW,name,code].map str).toArray 9);have z7:=cN.trans (aa hA cN.size);have yy:=hP.ln;have hlc:=hP.lc;have hss:=SS.new (λ_=>True) wr trivial [eW,name,code] 9 (0,0) (by unfold maxLen;simp) (λs hs=>by
    have g5:s.length≤100000:=by
     simp only[List.mem_cons,List.not_mem_nil,or_false] at hs;rcases hs with rfl|rfl|rfl
     · decide
     all_goals omega
    unfold maxLen;omega)
   have HD:=yd [eW,name,code] _ (wr.alloc (.cells ([eW,name,code].map str).toArray 9)) hss (hS.below z7 zr mm) (hm.below z7) lN (nV.built name code hnz) hP.lib (by simp[aU];omega) hP.at_ hP.dn;clear hss hal hlt hi;go_wp2_with (first
    | (go_at_call 62;refine HD.mono ?_;clear HD;rintro e w5 ⟨rfl,Kn,F5⟩)
    | (go_at_call 58;refine(bt 0 _).mono ?_;rintro e w2 ⟨rfl,rfl⟩))
   go_end0
   exact⟨0,rfl,ri.symm,by rw[if_pos rfl];exact Kn.mono λb hb=>hb.imp id λh=>Nat.le_trans z7.size h,(KW.ai z7 zr mm).trans F5⟩
def KP (R:Nat→Prop) (B:Nat) (w:World) (l:Loc) (L:bh) (at_:Nat) (name:List UInt8) (version:Int) (code:List UInt8) (used:List (List UInt8×List UInt8)) (e:Ending) (w':World):Prop:=
 e=.returned (.int .i64 (iu L name version code used:Int))∧(if iu L name version code used=0 then bq (RO R w.heap.size) B w' l (ez L name code) (at_+bV (iD name code).length) else bq R B w' l L at_)∧KW B l.mu l.ml w w'
set_option maxRecDepth 8000 in
theorem zq {R D D':Nat→Prop} {B:Nat} {l:Loc} {L:bh} {at_:Nat} (name:List UInt8) (version:Int) (code:List UInt8) (used:List (List UInt8×List UInt8)) (cv uv:Value) (w:World) (hc:CV D w cv (aH code)) (hv:ck D' w uv used) (hS:bq R B w l L at_) (hm:fe w) (lN:0<B) (hP:G7 L at_ l.dn name code used):
 Calls Tryz.prog 45 #[.pointer (some ⟨l.sb,0,none⟩),str name,.int .i64 version,cv,uv] w (KP R B w l L at_ name version code used):=by
 have Kz:∀(fn:Fn) (first cap:Array Value) (w:World),(Instr.makeFunc fn first cap).run Tryz.prog w=.ok (.func fn first cap) w:=λ_ _ _ _=>rfl
 obtain⟨pc,cc,rfl,_⟩:=hc.shape
 obtain⟨pu,cu,rfl,_⟩:=hv.shape
 obtain⟨W5,rC,oo,QC,g0,g1,g2,g3,g4⟩:=mC w (.cells #[.pointer (some ⟨l.sb,0,none⟩)] 26) (.cells #[str name] 9) (.cells #[.int .i64 version] 3) (.cells #[.slice pc (aH code).length cc] 38) (.cells #[.slice pu used.length cu] 39)
 have c0:=(af g0 0).trans rfl
 have mm:B≤w.heap.size:=Nat.le_trans hS.hB.1 (Nat.le_of_lt (aj hS.head))
 have rE:=oo.alloc (by omega) (.cells #[.int .i64 0] 49)
 have Ja:lB W5 w.heap.size (w.heap.size+1) (w.heap.size+1+1) (w.heap.size+1+1+1) (w.heap.size+1+1+1+1) l.sb name version (.slice pc (aH code).length cc) (.slice pu used.length cu):=⟨g0,g1,g2,g3,g4⟩
 have CA:=(zb W5).alloc zr (.cells #[.int .i64 0] 49)
 have ME:=heap_alloc_new W5 (.cells #[.int .i64 0] 49)
 have HP:=x9 name version code used (W5.alloc (.cells #[.int .i64 0] 49)) (Ja.below CA zr) (hc.below rE zr) (hv.below rE zr) (hS.lt.below rE zr mm) (hm.below rE) lN hP
 have HT:=tr (enters_of Tryz.func88 (by kernel_rfl) rfl) (λE w1=>tF (λb=>R b∧b<w.heap.size) B (W5.alloc (.cells #[.int .i64 0] 49)) l L at_ name version code used E w1) W5 (HP.mono λe w1 ⟨E,h1,h2⟩=>⟨⟨E,h1,h2⟩,h2.2.2.row ME (by decide)⟩)
 clear HP
 go_enter Tryz.func45,Tryz.ntmps45
 go_wp2_with (go_at_call 56;refine HT.mono ?_;clear HT;rintro e w2 ⟨E,w1,rfl,hQ,hg⟩)
 obtain⟨hE,Fp,hK⟩:=hQ
 have hr1:w1.heap[W5.heap.size]? =some (.cells #[.int .i64 0] 49 (0,0)):=hK.row ME (by decide)
 have Jb:KW B l.mu l.ml w w2:=((KW.ai rE zr mm).trans hK).grown hg (by omega) mm
 go_ret
 unfold KP
 rw[←hE]
 refine⟨rfl,?_,Jb⟩
 split at Fp
 · rename_i h0
   rw [if_pos h0];exact (Fp.grown hg (fun h => h.elim (fun h => by have := h.2; omega) (fun h => by simp at h; omega)) hr1 (by decide)).mono fun b hb => by
    rcases hb with hb|hb
    · exact .inl hb.1
    · refine .inr ?_
      simp at hb;omega
 · rename_i h0
   rw[if_neg h0];exact(Fp.grown hg (λh=>by have:=h.2;omega) hr1 (by decide)).mono λb hb=>hb.1
def mA (name:List UInt8):List UInt8:=aU 0 [iE,name]
def vJ (L:bh) (name:List UInt8):Nat:=if(aq L.units name).isSome then 0 else 5
def o8 (L:bh) (name:List UInt8):bh:=⟨fK L.units name,L.last⟩
def CM (R:Nat→Prop) (B:Nat) (w:World) (l:Loc) (L:bh) (at_:Nat) (name:List UInt8) (e:Ending) (w':World):Prop:=
 e=.returned (.int .i64 (vJ L name:Int))∧(if vJ L name=0 then bq (RO R w.heap.size) B w' l (o8 L name) (at_+bV (mA name).length) else bq R B w' l L at_)∧KW B l.mu l.ml w w'
set_option maxRecDepth 8000 in
theorem BV {R:Nat→Prop} {B:Nat} {l:Loc} {L:bh} {at_:Nat} (name:List UInt8) (w:World) (hS:bq R B w l L at_) (hm:fe w) (lN:0<B) (hb:AM L) (hl:name.length≤1000) (hat:at_+bV (mA name).length≤l.dn) (hd:l.dn≤65536):
 Calls Tryz.prog 28 #[.pointer (some ⟨l.sb,0,none⟩),str name] w (CM R B w l L at_ name):=by
 have mm:B≤w.heap.size:=Nat.le_trans hS.hB.1 (Nat.le_of_lt (aj hS.head))
 obtain⟨vu,hlk,oP⟩:=hS.lib.units.iL (k:=name) (by unfold maxLen;omega)
 have hde:vJ L name=if(aq L.units name).isSome then 0 else 5:=rfl
 generalize (aq L.units name).isSome=JO at *
 obtain⟨ua,uc,ud,rfl,_,kO,nH,nI⟩:=oP
 obtain⟨q1,q2,rfl,_⟩:=kO.shape
 obtain⟨q3,q4,rfl,_⟩:=nH.shape
 obtain⟨q5,q6,rfl,_⟩:=nI.shape
 clear kO nH nI
 generalize (aq L.units name).getD .zero=U at *
 have yt:=(af hS.head 0).trans rfl
 have j1:=hlk w true rfl
 have hA:=(zb w).alloc zr (.cells #[str U.name,.int .i64 (U.version:Int),str U.source,str U.aO,.slice q1 U.uses.length q2,.bool U.built,.slice q3 (aH U.code).length q4,.slice q5 U.used.length q6] 41)
 clear hlk
 rcases JO with _|_
 · rw[if_neg (by decide)] at hde
   replace hde:=zh hde
   go_enter Tryz.func28,Tryz.ntmps28;go_wp2_with fail;go_ret;unfold CM;rw[hde.out,if_neg (by decide)];exact⟨rfl,hS.below hA zr mm,KW.ai hA zr mm⟩
 · rw[if_pos rfl] at hde
   replace hde:=zh hde
   go_enter Tryz.func28,Tryz.ntmps28;go_upto_region 6 with fail;have hsz:w.heap.size≤(w.alloc (.cells #[str U.name,.int .i64 (U.version:Int),str U.source,str U.aO,.slice q1 U.uses.length q2,.bool U.built,.slice q3 (aH U.code).length q4,.slice q5 U.used.length q6] 41)).heap.size:=hA.size;generalize w.alloc (.cells #[str U.name,.int .i64 (U.version:Int),str U.source,str U.aO,.slice q1 U.uses.length q2,.bool U.built,.slice q3 (aH U.code).length q4,.slice q5 U.used.length q6] 41)=W1 at *;have Cz:=hA.alloc hsz (.cells ([iE,name].map str).toArray 9);have hss:=SS.new (λ_=>True) W1 trivial [iE,name] 9 (0,0) (by unfold maxLen;simp) (λs hs=>by
    have g5:s.length≤100000:=by
     simp only[List.mem_cons,List.not_mem_nil,or_false] at hs;rcases hs with rfl|rfl
     · decide
     · omega
    unfold maxLen;omega)
   have HD:=yd [iE,name] _ _ hss (hS.below Cz zr mm) (hm.below Cz) lN (nV.drop name) hb (by simp[aU];omega) hat hd;clear hss;go_wp2_with (go_at_call 62;refine HD.mono ?_;clear HD;rintro e w5 ⟨rfl,Kn,F5⟩);go_ret;unfold CM;rw[hde.out,if_pos rfl];exact⟨rfl,Kn.mono λb hb=>hb.imp id λh=>Nat.le_trans Cz.size h,(KW.ai Cz zr mm).trans F5⟩
end
open Go Go.RowKit
abbrev kA:List UInt8:=[97]
abbrev kB:List UInt8:=[98]
abbrev kC:List UInt8:=[99]
def N9:bh:=ep .new kB [120] (dP kB false) (aU 44 [])
def JQ:bh:=ep N9 kA [121] (dP kA false) (aU 44 [kB])
def Oa:bh:=ez JQ kB [7]
def KK:bh:=ez Oa kA []
def JR:bh:=ep KK kB [122] (dP kB true) (aU 44 [])
def M5:bh:=o8 JR kB
theorem Vo:jg .new kB [120] (dP kB false) []=0:=by decide+kernel
theorem Vp:jg N9 kA [121] (dP kA false) [kB]=0:=by decide+kernel
theorem QL:((aq bh.new.last kB).getD 0+1=1)∧((aq N9.last kA).getD 0+1=1)∧((aq KK.last kB).getD 0+1=2):=by decide+kernel
theorem QJ:lZ JQ.units=[kA,kB]:=by decide+kernel
theorem QI:iz JQ.units 5 [] []=some [[kB],[kA]]:=by decide+kernel
theorem Vh:iu JQ kB 1 [7] []=0:=by decide+kernel
theorem Vi:iu Oa kA 1 [] [(kB,dP kB false)]=0:=by decide+kernel
theorem QK:lZ KK.units=[]:=by decide+kernel
theorem Vq:jg KK kB [122] (dP kB true) []=0:=by decide+kernel
theorem Vs:Ck JR.units kA=(kB,0):=by decide+kernel
theorem Vj:iu JR kA 1 [] [(kB,dP kB false)]=194:=by decide+kernel
theorem Vk:vJ JR kB=0:=by decide+kernel
theorem Vr:jg M5 kC [120] (dP kA false) []=4:=by decide+kernel
theorem Vm:sN M5.units=[kB]:=by decide+kernel
theorem Vn:bZ M5.units=[kA]:=by decide+kernel
def fM (L:bh):Bool:=decide (L.units.length<20)&&decide (L.last.length<20)&&L.last.all (λx=>decide (x.2<100))&&L.units.all λx=>decide (x.2.uses.length≤22)&&(!x.2.built||decide (x.2.uses.length≤x.2.used.length))&&decide (x.1.length≤100)
theorem o9 {L:bh} (h:fM L=true):AM L:=by
 unfold fM at h
 simp only[Bool.and_eq_true,decide_eq_true_eq,List.all_eq_true] at h
 obtain⟨⟨⟨h1,h2⟩,h3⟩,h4⟩:=h
 refine⟨by omega,by omega,λn=>?_,λn=>?_⟩
 · rcases hq:aq L.last n with _|x
   · exact(by decide:(0:Nat)<1000000)
   · have:=h3 _ (eS hq)
     show x<1000000
     omega
 · rcases hq:aq L.units n with _|x
   · exact(by decide:(0:Nat)≤1000)
   · have:=(h4 _ (eS hq)).1.1
     dsimp only at this
     show x.uses.length≤1000
     omega
theorem GC {L:bh} (h:fM L=true):∀n u,aq L.units n=some u→zU u:=by
 unfold fM at h
 simp only[Bool.and_eq_true,decide_eq_true_eq,List.all_eq_true,Bool.or_eq_true,Bool.not_eq_true'] at h
 intro n u hu
 have:=(h.2 _ (eS hu)).1
 dsimp only at this
 exact⟨by omega,λhb=>by
  rcases this.2 with h|h
  · rw[hb] at h;cases h
  · exact h⟩
theorem uy {L:bh} (h:fM L=true):∀n,(aq L.units n).isSome=true→n.length≤maxLen:=by
 unfold fM at h
 simp only[Bool.and_eq_true,decide_eq_true_eq,List.all_eq_true] at h
 intro n hn
 obtain⟨u,hu⟩:=Option.isSome_iff_exists.1 hn
 have:=(h.2 _ (eS hu)).2
 dsimp only at this
 unfold maxLen
 omega
theorem Im:fM .new=true∧fM N9=true∧fM JQ=true∧fM Oa=true∧fM KK=true∧fM JR=true∧fM M5=true:=by decide+kernel
structure iV (w W:World) (l:Loc) (L:bh) (K n:Nat):Prop where
 st:∃at_,at_≤K∧bq (λ_=>True) w.heap.size W l L at_
 cV:Below w.heap.size w W
 tab:gx w
 max:fe w
 ok:fM L=true
 dn:l.dn=n∧n≤65536
 pos:0<w.heap.size
theorem iV.below {w W W':World} {l:Loc} {L:bh} {K n:Nat} (h:iV w W l L K n) (hb:Below W.heap.size W W'):iV w W' l L K n:=by
 obtain⟨at_,h1,h2⟩:=h.st
 exact⟨⟨at_,h1,h2.below hb zr h.cV.size⟩,h.cV.trans (aa hb h.cV.size),h.tab,h.max,h.ok,h.dn,h.pos⟩
theorem iV.read {w W:World} {l:Loc} {L:bh} {K n:Nat} (h:iV w W l L K n):tJ (λ_=>True) W l.sb l.mu L.units:=by
 obtain⟨at_,_,h2⟩:=h.st
 exact h2.read (GC h.ok)
theorem mH {n k:Nat} (h:n≤27 * k) (hk:1≤k):bV n≤k:=by
 unfold bV
 omega
theorem iV.put {D:Nat→Prop} {w W:World} {l:Loc} {L:bh} {K n:Nat} (h:iV w W l L K n) (name src text:List UInt8) (uses:List (List UInt8)) (v:Value) (hv:SS D W v uses) (hE:jg L name src text uses=0) (hok:fM (ep L name src text (aU 44 uses))=true) (hl:name.length≤100∧src.length≤100∧text.length≤100∧uses.length≤20∧(∀u∈uses,u.length≤100)∧(aU 44 uses).length≤100) (ht:(kH name src text uses).length≤270) (hK:K+10≤n) (SN:Nat) (Qz:(aq L.last name).getD 0+1=SN):
 Calls Tryz.prog 21 #[.pointer (some ⟨l.sb,0,none⟩),str name,str src,str text,v] W λe W'=>e=.returned (.tuple #[.int .i64 (SN:Int),.int .i64 0])∧iV w W' l (ep L name src text (aU 44 uses)) (K+10) n:=by
 obtain⟨at_,h1,h2⟩:=h.st
 obtain⟨e1,e2,e3,e4,e5,e6⟩:=hl
 have hmk:=mH (k:=10) ht (by decide)
 have hd:=h.dn
 refine(xB name src text uses v W hv h2 (h.tab.below h.cV zr) (h.max.below h.cV) h.pos ⟨o9 h.ok,by omega,by omega,by omega,by omega,λu hu=>by have:=e5 u hu;omega,by omega,by omega,by omega⟩).mono ?_
 intro e W' hQ
 obtain⟨hQ,nC⟩:=hQ
 rw[if_pos hE,Qz] at hQ
 exact⟨hQ.1,⟨_,by omega,hQ.2.mono λ_ _=>trivial⟩,h.cV.trans nC.cV,h.tab,h.max,hok,h.dn,h.pos⟩
theorem iV.Nh {D:Nat→Prop} {w W:World} {l:Loc} {L:bh} {K n E:Nat} (h:iV w W l L K n) (name src text:List UInt8) (uses:List (List UInt8)) (v:Value) (hv:SS D W v uses) (hE:jg L name src text uses=E) (h0:E≠0) (hl:name.length≤100∧src.length≤100∧text.length≤100∧uses.length≤20∧(∀u∈uses,u.length≤100)∧(aU 44 uses).length≤100) (ht:(kH name src text uses).length≤270) (hK:K+10≤n):
 Calls Tryz.prog 21 #[.pointer (some ⟨l.sb,0,none⟩),str name,str src,str text,v] W λe W'=>e=.returned (.tuple #[.int .i64 0,.int .i64 (E:Int)])∧iV w W' l L K n:=by
 obtain⟨at_,h1,h2⟩:=h.st
 obtain⟨e1,e2,e3,e4,e5,e6⟩:=hl
 have hmk:=mH (k:=10) ht (by decide)
 have hd:=h.dn
 refine(xB name src text uses v W hv h2 (h.tab.below h.cV zr) (h.max.below h.cV) h.pos ⟨o9 h.ok,by omega,by omega,by omega,by omega,λu hu=>by have:=e5 u hu;omega,by omega,by omega,by omega⟩).mono ?_
 intro e W' hQ
 obtain⟨hQ,nC⟩:=hQ
 rw[hE,if_neg h0] at hQ
 exact⟨hQ.1,⟨_,h1,hQ.2⟩,h.cV.trans nC.cV,h.tab,h.max,h.ok,h.dn,h.pos⟩
theorem iV.built {D D':Nat→Prop} {w W:World} {l:Loc} {L L':bh} {K n E:Nat} (h:iV w W l L K n) (name:List UInt8) (version:Nat) (code:List UInt8) (used:List (List UInt8×List UInt8)) (cv uv:Value) (hc:CV D W cv (aH code)) (hv:ck D' W uv used) (hE:iu L name version code used=E) (hL:L'=if E=0 then ez L name code else L) (hok:fM L'=true) (hl:name.length≤100∧code.length≤100∧used.length≤20) (hz:(0:UInt8)∉name) (hK:K+10≤n):
 Calls Tryz.prog 45 #[.pointer (some ⟨l.sb,0,none⟩),str name,.int .i64 (version:Int),cv,uv] W λe W'=>e=.returned (.int .i64 (E:Int))∧iV w W' l L' (K+10) n:=by
 obtain⟨at_,h1,h2⟩:=h.st
 obtain⟨e1,e2,e3⟩:=hl
 have ht:(iD name code).length≤270:=by unfold iD;simp[aU];omega
 have hmk:=mH (k:=10) ht (by decide)
 have hd:=h.dn
 refine(zq name version code used cv uv W hc hv h2 (h.max.below h.cV) h.pos ⟨o9 h.ok,by omega,by omega,by omega,λ_ _=>hz,by omega,by omega⟩).mono ?_
 intro e W' hQ
 obtain⟨LY,Ht,nC⟩:=hQ
 rw[hE] at LY Ht
 refine⟨LY,?_,h.cV.trans nC.cV,h.tab,h.max,hok,h.dn,h.pos⟩
 subst hL
 split at Ht
 · rename_i h0
   rw[if_pos h0];exact⟨_,by omega,Ht.mono λ_ _=>trivial⟩
 · rename_i h0
   rw[if_neg h0];exact⟨_,by omega,Ht⟩
theorem iV.drop {w W:World} {l:Loc} {L:bh} {K n:Nat} (h:iV w W l L K n) (name:List UInt8) (hE:vJ L name=0) (hok:fM (o8 L name)=true) (hl:name.length≤100) (hK:K+10≤n):
 Calls Tryz.prog 28 #[.pointer (some ⟨l.sb,0,none⟩),str name] W λe W'=>e=.returned (.int .i64 0)∧iV w W' l (o8 L name) (K+10) n:=by
 obtain⟨at_,h1,h2⟩:=h.st
 have ht:(mA name).length≤270:=by unfold mA;simp[aU];omega
 have hmk:=mH (k:=10) ht (by decide)
 have hd:=h.dn
 refine(BV name W h2 (h.max.below h.cV) h.pos (o9 h.ok) (by omega) (by omega) (by omega)).mono ?_
 intro e W' hQ
 obtain⟨LY,Ht,nC⟩:=hQ
 rw[hE] at LY Ht
 rw[if_pos rfl] at Ht
 exact⟨LY,⟨_,by omega,Ht.mono λ_ _=>trivial⟩,h.cV.trans nC.cV,h.tab,h.max,hok,h.dn,h.pos⟩
theorem zo {w:World} {B:Nat} {v:Value} {S:List (List UInt8)} (h:w.ownsRow B 9 1 v S.length (aA S)) (hl:∀s∈S,s.length≤maxLen):∃p c,v=.slice p S.length c∧SS (λ_=>True) w (.slice p S.length c) S:=by
 obtain⟨p,c,rfl⟩:=aJ h
 exact⟨p,c,rfl,(SS.row h rfl hl).mono λ_ _=>trivial⟩
theorem iV.IA {w W:World} {l:Loc} {L:bh} {K n:Nat} (h:iV w W l L K n) {S:List (List UInt8)} (hE:lZ L.units=S):
 Calls Tryz.prog 24 #[.pointer (some ⟨l.sb,0,none⟩)] W λe W'=>∃p c,e=.returned (.slice p S.length c)∧SS (λ_=>True) W' (.slice p S.length c) S∧iV w W' l L K n:=by
 have hn:∀n∈bZ L.units,n.length≤maxLen:=λn hn=>by
  unfold bZ at hn;rw[kJ] at hn;exact uy h.ok n (bJ.2 hn)
 refine(zD W h.read hn).mono ?_
 rintro e W' ⟨v,rfl,h1,h2⟩
 have hs:∀s∈S,s.length≤maxLen:=λs hs=>by
  rw[←hE] at hs;exact hn s (List.mem_filter.1 hs).1
 rw[hE] at h1
 obtain⟨p,c,rfl,h3⟩:=zo h1 hs
 exact⟨p,c,rfl,h3,h.below h2⟩
theorem iV.names {w W:World} {l:Loc} {L:bh} {K n:Nat} (h:iV w W l L K n) {S:List (List UInt8)} (hE:bZ L.units=S):
 Calls Tryz.prog 16 #[.pointer (some ⟨l.sb,0,none⟩)] W λe W'=>∃p c,e=.returned (.slice p S.length c)∧SS (λ_=>True) W' (.slice p S.length c) S∧iV w W' l L K n:=by
 refine(zy W h.read).mono ?_
 rintro e W' ⟨v,rfl,h1,h2⟩
 rw[hE] at h1
 obtain⟨p,c,rfl,h3⟩:=zo h1 (λs hs=>by
  rw[←hE] at hs;unfold bZ at hs;rw[kJ] at hs;exact uy h.ok s (bJ.2 hs))
 exact⟨p,c,rfl,h3,h.below h2⟩
theorem iV.missing {w W:World} {l:Loc} {L:bh} {K n:Nat} (h:iV w W l L K n) {S:List (List UInt8)} (hE:sN L.units=S) (hs:∀s∈S,s.length≤maxLen):
 Calls Tryz.prog 15 #[.pointer (some ⟨l.sb,0,none⟩)] W λe W'=>∃p c,e=.returned (.slice p S.length c)∧SS (λ_=>True) W' (.slice p S.length c) S∧iV w W' l L K n:=by
 refine(uR W h.read).mono ?_
 rintro e W' ⟨v,rfl,h1,h2⟩
 rw[hE] at h1
 obtain⟨p,c,rfl,h3⟩:=zo h1 hs
 exact⟨p,c,rfl,h3,h.below h2⟩
theorem iV.why {w W:World} {l:Loc} {L:bh} {K n:Nat} (h:iV w W l L K n) (name:List UInt8) (hn:name.length≤maxLen) {r:List UInt8} {E:Nat} (hE:Ck L.units name=(r,E)):
 Calls Tryz.prog 46 #[.pointer (some ⟨l.sb,0,none⟩),str name] W λe W'=>e=.returned (.tuple #[str r,.int .i64 (E:Int)])∧iV w W' l L K n:=by
 have:=E6 name hn W h.read
 rw[hE] at this
 exact this.mono λe W' hh=>⟨hh.1,h.below hh.2⟩
theorem iV.order {w W:World} {l:Loc} {L:bh} {K n f:Nat} (h:iV w W l L K n) {G:List (List (List UInt8))} (hE:iz L.units f [] []=some G) (hf:f≤10000):
 Calls Tryz.prog 14 #[.pointer (some ⟨l.sb,0,none⟩)] W λe W'=>∃p c,e=.returned (.slice p G.length c)∧oK W' (.slice p G.length c) G∧iV w W' l L K n:=by
 refine(zA W h.read (uy h.ok) hE hf).mono ?_
 rintro e W' ⟨v,rfl,h1,h2⟩
 obtain⟨p,c,rfl⟩:=h1.shape
 exact⟨p,c,rfl,h1.read,h.below h2⟩
theorem ck.new {w:World} (l:List (List UInt8×List UInt8)) (z:Nat×Nat) (h:l.length≤maxLen) (hl:∀x∈l,x.1.length≤maxLen∧x.2.length≤maxLen):ck (λ_=>True) (w.alloc (.cells (l9 l).toArray 55 z)) (.slice (some ⟨w.heap.size,0,none⟩) l.length l.length) l:=by
 have hh:=heap_alloc_new w (.cells (l9 l).toArray 55 z)
 refine⟨_,_,rfl,nl _,h,hl,.inr ⟨_,0,rfl,trivial,aj hh,λj hj=>?_⟩⟩
 obtain⟨g1,g2⟩:=qT l j hj
 rw[Nat.zero_add]
 exact⟨(af hh (j * 2)).trans (by simpa using g1),(af hh (j * 2+1)).trans (by simpa using g2)⟩
theorem Ev (w:World) (x y:List UInt8) (hx:x.length≤maxLen) (hy:y.length≤maxLen):oK (((w.alloc (.cells (aA [x]).toArray 9)).alloc (.cells (aA [y]).toArray 9)).alloc (.cells #[.slice (some ⟨w.heap.size,0,none⟩) 1 1,.slice (some ⟨w.heap.size+1,0,none⟩) 1 1] 31)) (.slice (some ⟨w.heap.size+1+1,0,none⟩) 2 2) [[x],[y]]:=by
 have m1:(1:Nat)≤maxLen∧(2:Nat)≤maxLen:=by unfold maxLen;omega
 have s1:=SS.new (λ_=>True) w trivial [x] 9 (0,0) m1.1 (by simpa using hx)
 have s2:=SS.new (λ_=>True) (w.alloc (.cells (aA [x]).toArray 9)) trivial [y] 9 (0,0) m1.1 (by simpa using hy)
 have a1:=(zb (w.alloc (.cells (aA [x]).toArray 9))).alloc zr (.cells (aA [y]).toArray 9)
 have a2:=(zb ((w.alloc (.cells (aA [x]).toArray 9)).alloc (.cells (aA [y]).toArray 9))).alloc zr (.cells #[.slice (some ⟨w.heap.size,0,none⟩) 1 1,.slice (some ⟨w.heap.size+1,0,none⟩) 1 1] 31)
 have s3:=(s1.below a1 zr).below a2 zr
 have s4:=s2.below a2 zr
 rw[World.size_alloc] at s4
 have hc:=CV.new (D:=λ_=>True) (n:=w.heap.size+1+1) (w:=(w.alloc (.cells (aA [x]).toArray 9)).alloc (.cells (aA [y]).toArray 9)) (by simp) trivial [.slice (some ⟨w.heap.size,0,none⟩) 1 1,.slice (some ⟨w.heap.size+1,0,none⟩) 1 1] 31 (0,0) m1.2
 refine⟨[([x],.slice (some ⟨w.heap.size,0,none⟩) 1 1),([y],.slice (some ⟨w.heap.size+1,0,none⟩) 1 1)],rfl,hc,λz hz=>?_⟩
 rcases List.mem_cons.1 hz with rfl|hz
 · exact s3
 · rw[List.mem_singleton.1 hz]
   exact s4
theorem iV.new {w w1 w2:World} {n a b1 b2 sb lg:Nat} {ds:List UInt8} (ht:gx w) (hm:fe w) (hp:0<w.heap.size) (hn:64≤n∧n≤65536) (hD:bw w.heap.size w1 a b1 b2 (.slice none 0 0) (oZ n)) (aP:Below w.heap.size w w1) (hh:w2.heap[sb]? =some (.cells #[.map (some w1.heap.size),.map (some (w1.heap.size+1)),.pointer (some ⟨lg,0,none⟩)] 111 (0,0))) (hL:gA (λ_=>True) w2 w1.heap.size (w1.heap.size+1) .new) (hG:jH w2 lg a ⟨0,ds,false⟩) (h1:w1.heap.size≤sb) (h2:w1.heap.size≤lg) (bO:Below w1.heap.size w1 w2):
 iV w w2 ⟨sb,w1.heap.size,w1.heap.size+1,lg,a,b1,b2,n⟩ .new 0 n:=by
 have hs:=aP.size
 refine⟨⟨0,nl _,hh,hL,⟨ds,hG⟩,⟨_,_,hD.below bO zr,rfl,rfl,rfl,nl _,by show(-(2 * ((0:Nat):Int)))≤0;omega,by show(0:Int)≤0;omega⟩,⟨by show _≤sb;omega,hs,by show _≤w1.heap.size+1;omega,by show _≤lg;omega⟩,Nat.zero_le _⟩,aP.trans (aa bO hs),ht,hm,Im.1,⟨rfl,hn.2⟩,hp⟩
set_option maxRecDepth 20000 in
theorem s6 (w:World) (ht:gx w) (hm:fe w) (hp:0<w.heap.size):
 Calls Tryz.prog 12 #[] w λe w'=>e=.returned (.bool true)∧Below w.heap.size w w':=by
 have HN:=wY 4000 (by decide) w
 go_enter Tryz.func12,Tryz.ntmps12
 go_upto_region 4 with(go_at_call 31;refine HN.mono ?_;clear HN;rintro e w1 ⟨⟨a,b1,b2,rfl,hD⟩,aP⟩)
 have HO:=EK (λ_=>True) w1 hD (S:=oZ 4000) rfl rfl
 go_upto_region 7 with(go_at_call 35;refine HO.mono ?_;clear HO;rintro e w2 ⟨⟨sb,lg,ds,rfl,hh,hL,hG,h1,h2⟩,bO⟩)
 have O1:=iV.new ht hm hp (by decide) hD aP hh hL hG h1 h2 bO
 obtain⟨l,hl⟩:∃l:Loc,(⟨sb,w1.heap.size,w1.heap.size+1,lg,a,b1,b2,4000⟩:Loc)=l:=⟨_,rfl⟩
 have hsb:sb=l.sb:=by rw[←hl]
 rw[hl] at O1
 subst hsb
 clear hD aP hh hL hG h1 h2 bO hl
 go_upto_region 8 with(first
  | (go_at_call 21;refine(Rx.put kB [120] (dP kB false) [] _ (SS.nil (λ_=>True) _ _ _) Vo Im.2.1 (by decide+kernel) (by decide+kernel) (by decide) 1 QL.1).mono ?_;rintro e w4 ⟨rfl,nC⟩)
  | (go_at_call 50;refine(gy kB false _ (by decide)).mono ?_;rintro e w3 ⟨rfl,cK⟩;have Rx:=O1.below cK))
 go_upto_region 9 with(first
  | (go_at_call 21;refine(hK4.put kA [121] (dP kA false) [kB] _ hs4 Vp Im.2.2.1 (by decide+kernel) (by decide+kernel) (by decide) 1 QL.2.1).mono ?_;rintro e w6 ⟨rfl,F5⟩)
  | (go_at_call 50;refine(gy kA false _ (by decide)).mono ?_;rintro e w5 ⟨rfl,oo⟩;have rA:=nC.below oo;have hs4:=SS.new (λ_=>True) w5 trivial [kB] 9 (0,0) (by decide) (by decide);have hK4:=rA.below ((zb w5).alloc zr (.cells (aA [kB]).toArray 9))))
 clear O1 Rx nC rA hK4 hs4
 have nC:iV w w6 l JQ 20 4000:=F5
 clear F5
 go_upto_region 11 with(first
  | (go_at_call 49;refine HL.mono ?_;clear HL;rintro e CL ⟨rfl,L8⟩;have Lw:=Dy.below L8)
  | (go_at_call 14;refine(RA.order QI (by decide)).mono ?_;rintro e w9 ⟨p9,c9,rfl,yA,LN⟩;have vZ:=Ev w9 kB kA (by decide) (by decide);have Rb:=(zb w9).alloc zr (.cells (aA [kB]).toArray 9);have Cz:=Rb.alloc (by simp) (.cells (aA [kA]).toArray 9);have A7:=Cz.alloc (by simp;omega) (.cells #[.slice (some ⟨w9.heap.size,0,none⟩) 1 1,.slice (some ⟨w9.heap.size+1,0,none⟩) 1 1] 31);have HL:=rO [[kB],[kA]] [[kB],[kA]] _ _ _ (yA.below A7 zr) vZ (by decide) (by decide);rw[decide_eq_true rfl] at HL;have Dy:=LN.below A7)
  | (go_at_call 51;refine HQ.mono ?_;clear HQ;rintro e w8 ⟨rfl,xQ⟩;have RA:=(Rz.below OD).below xQ)
  | (go_at_call 24;refine(nC.IA QJ).mono ?_;rintro e w7 ⟨p7,c7,rfl,MI,Rz⟩;have Sr:=SS.new (λ_=>True) w7 trivial [kA,kB] 9 (0,0) (by decide) (by decide);have OD:=(zb w7).alloc zr (.cells (aA [kA,kB]).toArray 9);have HQ:=gZ [kA,kB] [kA,kB] _ _ _ (MI.below OD zr) Sr;rw[decide_eq_true rfl] at HQ))
 have nC:iV w CL l JQ 20 4000:=Lw
 clear Rz RA LN Lw Dy MI Sr yA vZ Rb Cz A7 OD xQ L8
 have Me:=CV.new (D:=λ_=>True) (n:=CL.heap.size) rfl trivial (aH [7]) 5 (0,0) (by decide)
 have Lx:=nC.below ((zb CL).alloc zr (.cells (aH [7]).toArray 5))
 have HB:=Lx.built (L':=Oa) (E:=0) kB 1 [7] [] _ _ Me (ck.nil (λ_=>True) _ none 0) Vh rfl Im.2.2.2.1 (by decide) (by decide) (by decide)
 go_upto_region 12 with(go_at_call 45;refine HB.mono ?_;clear HB;rintro e Od ⟨rfl,rA⟩)
 clear nC Lx Me
 have m1:(1:Nat)≤maxLen∧∀x∈[(kB,dP kB false)],x.1.length≤maxLen∧x.2.length≤maxLen:=by decide
 go_upto_region 13 with(first
  | (go_at_call 45;refine HB.mono ?_;clear HB;rintro e w13 ⟨rfl,hK4⟩)
  | (go_at_call 50;refine(gy kB false _ (by decide)).mono ?_;rintro e w12 ⟨rfl,L9⟩;have Dy:=rA.below L9;have MP:=ck.new (w:=w12) [(kB,dP kB false)] (0,0) m1.1 m1.2;have Lz:=Dy.below ((zb w12).alloc zr (.cells (l9 [(kB,dP kB false)]).toArray 55));have HB:=Lz.built (L':=KK) (E:=0) kA 1 [] [(kB,dP kB false)] _ _ (CV.nil (λ_=>True) _ none 0) MP Vi rfl Im.2.2.2.2.1 (by decide) (by decide) (by decide)))
 clear rA Dy Lz MP L9
 go_upto_region 15 with(go_at_call 24;refine(hK4.IA QK).mono ?_;rintro e w14 ⟨Wz,c14,rfl,_,LC⟩)
 go_upto_region 16 with(first
  | (go_at_call 21;refine(LD.put kB [122] (dP kB true) [] _ (SS.nil (λ_=>True) _ _ _) Vq Im.2.2.2.2.2.1 (by decide+kernel) (by decide+kernel) (by decide) 2 QL.2.2).mono ?_;rintro e w16 ⟨rfl,LF⟩)
  | (go_at_call 50;refine(gy kB true _ (by decide)).mono ?_;rintro e w15 ⟨rfl,Ma⟩;have LD:=LC.below Ma))
 have F5:iV w w16 l JR 50 4000:=LF
 clear hK4 LC LD LF Ma
 go_upto_region 17 with(go_at_call 46;refine(F5.why kA (by decide) Vs).mono ?_;rintro e w17 ⟨rfl,LG⟩)
 go_upto_region 18 with(first
  | (go_at_call 45;refine HB.mono ?_;clear HB;rintro e w19 ⟨rfl,LJ⟩)
  | (go_at_call 50;refine(gy kB false _ (by decide)).mono ?_;rintro e w18 ⟨rfl,Mb⟩;have LI:=LG.below Mb;have MQ:=ck.new (w:=w18) [(kB,dP kB false)] (0,0) m1.1 m1.2;have Hr:=LI.below ((zb w18).alloc zr (.cells (l9 [(kB,dP kB false)]).toArray 55));have HB:=Hr.built (L':=JR) (E:=194) kA 1 [] [(kB,dP kB false)] _ _ (CV.nil (λ_=>True) _ none 0) MQ Vj rfl Im.2.2.2.2.2.1 (by decide) (by decide) (by decide)))
 clear F5 LG LI Hr MQ Mb
 go_upto_region 20 with(go_at_call 28;refine(LJ.drop kB Vk Im.2.2.2.2.2.2 (by decide) (by decide)).mono ?_;rintro e w20 ⟨rfl,LK⟩)
 have Ry:iV w w20 l M5 70 4000:=LK
 clear LJ LK
 go_upto_region 21 with(first
  | (go_at_call 21;refine(LM.Nh kC [120] (dP kA false) [] _ (SS.nil (λ_=>True) _ _ _) Vr (by decide) (by decide+kernel) (by decide+kernel) (by decide)).mono ?_;rintro e w22 ⟨rfl,O2⟩)
  | (go_at_call 50;refine(gy kA false _ (by decide)).mono ?_;rintro e w21 ⟨rfl,Mc⟩;have LM:=Ry.below Mc))
 clear Ry LM Mc
 have Us:kB.length≤maxLen:=by decide
 go_wp2_with (first
  | (go_at_call 16;refine(O4.names Vn).mono ?_;rintro e w26 ⟨WC,VU,rfl,Qm,O5⟩;have Qn:=SS.new (λ_=>True) w26 trivial [kA] 9 (0,0) (by decide) (by decide);have Ld:=(zb w26).alloc zr (.cells (aA [kA]).toArray 9);have HR:=gZ [kA] [kA] _ _ _ (Qm.below Ld zr) Qn;rw[decide_eq_true rfl] at HR)
  | (go_at_call 51;refine HR.mono ?_;clear HR;rintro e w27 ⟨rfl,PG⟩;have O6:=(O5.below Ld).below PG)
  | (go_at_call 51;refine HQ.mono ?_;clear HQ;rintro e w25 ⟨rfl,PF⟩;have O4:=(O3.below Lc).below PF)
  | (go_at_call 15;refine(O2.missing Vm (by decide)).mono ?_;rintro e w23 ⟨WA,VT,rfl,Qk,O3⟩;have Ql:=SS.new (λ_=>True) w23 trivial [kB] 9 (0,0) (by decide) (by decide);have Lc:=(zb w23).alloc zr (.cells (aA [kB]).toArray 9);have HQ:=gZ [kB] [kB] _ _ _ (Qk.below Lc zr) Ql;rw[decide_eq_true rfl] at HQ))
 go_ret
 exact⟨rfl,O6.cV⟩
end Go.Proofs.YtemjidmkolfgnaaGreatDoor
