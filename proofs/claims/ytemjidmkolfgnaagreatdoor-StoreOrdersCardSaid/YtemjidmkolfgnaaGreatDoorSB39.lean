/-
  Lemmas for the statement: contracts of the package store: Names, Why, Stale. Conditions: bounds of lengths; the variable strings.asciiSpace.
-/
import Derived.Test.YtemjidmkolfgnaaGreatDoorSBn
import Derived.Test.YtemjidmkolfgnaaGreatDoorSB38
set_option maxHeartbeats 12800000
namespace Go.Proofs.YtemjidmkolfgnaaGreatDoor
open Go Go.RowKit Go.Maps
def mL (name:List UInt8) (uses:List (List UInt8)) (j:Nat):Bool:=
 match uses[j]? with
 | some u=>isName u&&u != name&&(j==0||match uses[j - 1]? with
  | some p=>Op.bytesLess p u
  | none=>true)
 | none=>true
def mg (name:List UInt8) (uses:List (List UInt8)):Bool:=(List.range uses.length).all (mL name uses)
def jg (L:bh) (name src text:List UInt8) (uses:List (List UInt8)):Nat:=
 if(isName name&&j7 src&&decide (uses.length≤20))=false then 1
 else if mg name uses=false then 1
 else if(decide ((jx iO text).2=0)&&decide ((jx iO text).1.name=name)&&decide (text.length≤3000))=false then 4
 else if((aq L.units name).isSome||decide (L.units.length<20))=false then 2
 else 0
theorem qU {name:List UInt8} {uses:List (List UInt8)}:mg name uses=true↔∀j,j<uses.length→mL name uses j=true:=by
 unfold mg
 rw[List.all_eq_true]
 simp only[List.mem_range]
theorem zM {name:List UInt8} {uses:List (List UInt8)} {j:Nat} (hj:j<uses.length) (h:mL name uses j=false):mg name uses=false:=by
 rw[Bool.eq_false_iff,ne_eq,qU]
 intro hall
 rw[hall j hj] at h
 cases h
structure lC (w:World) (n0 n1 n2 n3 n4 sb:Nat) (name src text:List UInt8) (uv:Value):Prop where
 c0:w.heap[n0]? =some (.cells #[str name] 9 (0,0))
 c1:w.heap[n1]? =some (.cells #[str src] 9 (0,0))
 c2:w.heap[n2]? =some (.cells #[uv] 31 (0,0))
 c3:w.heap[n3]? =some (.cells #[str text] 9 (0,0))
 c4:w.heap[n4]? =some (.cells #[.pointer (some ⟨sb,0,none⟩)] 26 (0,0))
theorem lC.below {w w':World} {n0 n1 n2 n3 n4 sb:Nat} {name src text:List UInt8} {uv:Value} (h:lC w n0 n1 n2 n3 n4 sb name src text uv) {K:Nat} (hb:Below K w w') (hK:w.heap.size≤K):lC w' n0 n1 n2 n3 n4 sb name src text uv:=by
 have key:∀{n:Nat} {x:Obj},w.heap[n]? =some x→w'.heap[n]? =some x:=λe=>(hb.block _ (Nat.lt_of_lt_of_le (aj e) hK)).trans e
 exact⟨key h.c0,key h.c1,key h.c2,key h.c3,key h.c4⟩
theorem lC.cells {w:World} {n0 n1 n2 n3 n4 sb:Nat} {name src text:List UInt8} {uv:Value} (h:lC w n0 n1 n2 n3 n4 sb name src text uv):w.cell? ⟨n0,0,none⟩=some (str name)∧w.cell? ⟨n1,0,none⟩=some (str src)∧w.cell? ⟨n2,0,none⟩=some uv∧w.cell? ⟨n3,0,none⟩=some (str text)∧w.cell? ⟨n4,0,none⟩=some (.pointer (some ⟨sb,0,none⟩)):=
 ⟨(af h.c0 0).trans rfl,(af h.c1 0).trans rfl,(af h.c2 0).trans rfl,(af h.c3 0).trans rfl,(af h.c4 0).trans rfl⟩
def kH (name src text:List UInt8) (uses:List (List UInt8)):List UInt8:=aU 0 [kP,name,src,text,aU 44 uses]
structure Hf (L:bh) (at_ dn:Nat) (name src text:List UInt8) (uses:List (List UInt8)):Prop where
 lib:AM L
 ln:name.length≤1000
 ls:src.length≤10000
 lt:text.length≤10000
 nu:uses.length≤1000
 lu:∀u∈uses,u.length≤1000
 ju:(aU 44 uses).length≤60000
 at_:at_+bV (kH name src text uses).length≤dn
 dn:dn≤65536
def tI (R:Nat→Prop) (B:Nat) (w:World) (l:Loc) (L:bh) (at_:Nat) (name src text:List UInt8) (uses:List (List UInt8)) (E:Nat) (w1:World):Prop:=
 E=jg L name src text uses∧(if E=0 then bq (RO R w.heap.size) B w1 l (ep L name src text (aU 44 uses)) (at_+bV (kH name src text uses).length) else bq R B w1 l L at_)∧KW B l.mu l.ml w w1
theorem zj {L:bh} {name src text:List UInt8} {uses:List (List UInt8)} (h:(isName name&&j7 src&&decide (uses.length≤20))=false):jg L name src text uses=1:=by unfold jg;rw[if_pos h]
theorem ET {L:bh} {name src text:List UInt8} {uses:List (List UInt8)} (h1:isName name=true) (h2:j7 src=true) (h3:uses.length≤20) (h:mg name uses=false):jg L name src text uses=1:=by
 unfold jg
 rw[if_neg (by simp[h1,h2,h3]),if_pos h]
theorem EI {name:List UInt8} {uses:List (List UInt8)} {j:Nat} {x:List UInt8} (hx:uses[j]? =some x):mL name uses j=(isName x&&x != name&&(j==0||match uses[j - 1]? with
 | some p=>Op.bytesLess p x
 | none=>true)):=by
 unfold mL
 rw[hx]
theorem JY {L:bh} {name src text:List UInt8} {uses:List (List UInt8)} (h1:isName name=true) (h2:j7 src=true) (h3:uses.length≤20) (h4:mg name uses=true) (h:(decide ((jx iO text).2=0)&&decide ((jx iO text).1.name=name)&&decide (text.length≤3000))=false):jg L name src text uses=4:=by
 unfold jg
 rw[if_neg (by simp[h1,h2,h3]),if_neg (by simp[h4]),if_pos h]
theorem JX {L:bh} {name src text:List UInt8} {uses:List (List UInt8)} (h1:isName name=true) (h2:j7 src=true) (h3:uses.length≤20) (h4:mg name uses=true) (h5:(jx iO text).2=0∧(jx iO text).1.name=name∧text.length≤3000):
 jg L name src text uses=if((aq L.units name).isSome||decide (L.units.length<20))=false then 2 else 0:=by
 unfold jg
 rw[if_neg (by simp[h1,h2,h3]),if_neg (by simp[h4]),if_neg (by simp[h5])]
theorem M7 {w:World} {R:Nat→Prop} {m:Nat} {us:List (List UInt8×az)} {t e:TypeId} (ht:Tryz.prog.underlying t=some (.map 9 e)) (h:cB R w m us) (ty:TypeId):(Builtin.len_ #[t] ty #[.map (some m)]).run Tryz.prog w=.ok (.int .i64 us.length) w:=by
 obtain⟨UL,rfl,h2,_⟩:=h
 rw[h2.len ht ty,List.length_map,List.length_map]
structure zT (wc:World) (cst:List Value) (parts:List (List UInt8)) (Post:World→Prop) (listed:Array Bool) (vals:Nat→Value) (w:World):Prop where
 c:∀j v,cst[j]? =some v→listed.getD j false=true→vals j=v
 pre:listed.getD 7 false=false→Below wc.heap.size wc w∧(listed.getD 6 false=true→SS (λ_=>True) w (vals 6) parts)
 post:listed.getD 7 false=true→vals 7=.int .i64 0∧Post w
 last:listed.getD 8 false=true→vals 8=.int .i64 0
theorem zT.read {wc w w':World} {cst:List Value} {parts:List (List UInt8)} {Post:World→Prop} {listed:Array Bool} {vals:Nat→Value} (h:zT wc cst parts Post listed vals w) (h7:listed.getD 7 false=false) {j:Nat} (hj:j≠6∧j≠7∧j≠8) {v:Value} (hv:∀u,cst[j]? =some u→v=u) (hb:Below w.heap.size w w'):zT wc cst parts Post (listed.setIfInBounds j true) (Fa vals j v) w':=by
 refine⟨λi u hi hl=>?_,λ_=>⟨(h.pre h7).1.trans (aa hb (h.pre h7).1.size),λh6=>?_⟩,λLb=>?_,λh8=>?_⟩
 · by_cases hij:i=j
   · subst hij
     rw[iR];exact hv u hi
   · rw[fE vals v hij]
     rw[getD_set_ne false (λe=>hij e.symm)] at hl;exact h.c i u hi hl
 · rw[fE vals v (λe=>hj.1 e.symm)]
   rw[getD_set_ne false hj.1] at h6;exact((h.pre h7).2 h6).below hb zr
 · rw[getD_set_ne false hj.2.1,h7] at Lb
   cases Lb
 · rw[fE vals v (λe=>hj.2.2 e.symm)]
   rw[getD_set_ne false hj.2.2] at h8;exact h.last h8
theorem G0 {t:List UInt8} (h:j7 t=true):Nz t:=λc hc=>by
 rintro rfl
 unfold j7 at h
 simp only[Bool.and_eq_true,Bool.not_eq_true'] at h
 have:=List.any_eq_false.1 h.2 0 hc
 exact this (by decide)
theorem ki {o:Oper} {a:Act} {w:World} {K:Act→World→Prop} {Q:Exit→Act→World→Prop} {f:FuncId} {x y:Operand} {tys:Array TypeId} (ho:o.op=.call {callee:=.value (.func f),args:= #[x,y],argTypes:=tys }) (en:∀args w,(callFunc f args).run Tryz.prog w=.ok (.enter f args) w)
 {v1 v2:Value} (e1:a.eval x=v1) (e2:a.eval y=v2) {R:Value→World→Prop} (hc:Calls Tryz.prog f #[v1,v2] w λe w'=>∃u,e=.returned u∧R u w') (hn:∀u w',R u w'→K (a.put o.dst u) w'):o.wp Tryz.prog a w K Q:=by
 subst e1 e2
 have hrun:(execOp a.eval o).run Tryz.prog w=.ok (.enter f #[a.eval x,a.eval y]) w:=by
  simp[execOp,ho,resolve,Deferred.ofValue,invoke,Act.eval,en]
 unfold Oper.wp
 rw[hrun,Oper.upon_enter]
 refine hc.mono ?_
 rintro e w' ⟨u,rfl,hu⟩
 exact hn u w' hu
set_option maxRecDepth 8000 in
theorem ES {R D : Nat → Prop} {B : Nat} {l : Loc} {L : bh} {at_ : Nat} {n0 n1 n2 n3 n4 : Nat} {uv : Value} (name src text : List UInt8) (uses : List (List UInt8)) (w : World) (hE : lC w n0 n1 n2 n3 n4 l.sb name src text uv) (hv : SS D w uv uses) (hS : bq R B w l L at_) (ht : gx w) (hm : fe w) (lN : 0 < B) (hP : Hf L at_ l.dn name src text uses) :
 Calls Tryz.prog 57 #[.pointer (some ⟨n0,0,none⟩),.pointer (some ⟨n1,0,none⟩),.pointer (some ⟨n2,0,none⟩),.pointer (some ⟨n3,0,none⟩),.pointer (some ⟨n4,0,none⟩)] w λe w1=>∃E,e=vM E∧tI R B w l L at_ name src text uses E w1:=by
 have mm:B≤w.heap.size:=Nat.le_trans hS.hB.1 (Nat.le_of_lt (aj hS.head))
 have jE:∀(E:Nat) (w1:World),E≠0→jg L name src text uses=E→Below w.heap.size w w1→tI R B w l L at_ name src text uses E w1:=λE w1 h0 he hb=>⟨he.symm,by rw[if_neg h0];exact hS.below hb zr mm,KW.ai hb zr mm⟩
 have Jh:=zh (λW (hW:Below w.heap.size w W)=>ht.below hW zr)
 have LW:=zh (λW (hW:Below w.heap.size w W)=>hm.below hW)
 have HN:=λW (hW:Below w.heap.size w W)=>bp name W (Jh.out W hW) (by have:=hP.ln;unfold maxLen;omega)
 have HX:=λW=>yM src W (by have:=hP.ls;omega)
 have ec:=hE.cells
 obtain⟨pu,cu,rfl,JJ,N4,CJ⟩:=hv.shape
 rcases h1:isName name with _|_
 · have he:=zj (L:=L) (text:=text) (src:=src) (uses:=uses) (name:=name) (by rw[h1];rfl)
   rw[h1] at HN;have HN:=HN w (zb _);go_enter Tryz.func57,Tryz.ntmps57;go_wp2_with (first
    | (go_at_call 59;refine HN.mono ?_;clear HN;rintro e w1 ⟨rfl,aP⟩)
    | (go_at_call 58;refine(cm 1 _).mono ?_;rintro e w2 ⟨rfl,rfl⟩))
   exact⟨rfl,1,(bQ (by decide)).symm,jE 1 _ (by decide) he aP⟩
 rw[h1] at HN
 rcases h2:j7 src with _|_
 · have he:=zj (L:=L) (text:=text) (src:=src) (uses:=uses) (name:=name) (by rw[h1,h2];rfl)
   rw[h2] at HX;have HN:=HN w (zb _);go_enter Tryz.func57,Tryz.ntmps57;go_wp2_with (first
    | (go_at_call 60;refine(HX _).mono ?_;clear HX;rintro e w3 ⟨rfl,cK⟩;have eV:=aP.trans (aa cK aP.size))
    | (go_at_call 59;refine HN.mono ?_;clear HN;rintro e w1 ⟨rfl,aP⟩;have J8:=(hE.below aP zr).cells)
    | (go_at_call 58;refine(cm 1 _).mono ?_;rintro e w2 ⟨rfl,rfl⟩))
   exact⟨rfl,1,(bQ (by decide)).symm,jE 1 _ (by decide) he eV⟩
 rw[h2] at HX
 by_cases h3:uses.length≤20
 case neg=>
  have he:=zj (L:=L) (text:=text) (src:=src) (uses:=uses) (name:=name) (by simp[h3]);have HN:=HN w (zb _);have h3:decide ((uses.length:Int)≤20)=false:=decide_eq_false (by omega);go_enter Tryz.func57,Tryz.ntmps57;go_wp2_with (first
   | (go_at_call 60;refine(HX _).mono ?_;clear HX;rintro e w3 ⟨rfl,cK⟩;have eV:=aP.trans (aa cK aP.size);have J9:=(hE.below eV zr).cells)
   | (go_at_call 59;refine HN.mono ?_;clear HN;rintro e w1 ⟨rfl,aP⟩;have J8:=(hE.below aP zr).cells)
   | (go_at_call 58;refine(cm 1 _).mono ?_;rintro e w2 ⟨rfl,rfl⟩))
  exact⟨rfl,1,(bQ (by decide)).symm,jE 1 _ (by decide) he eV⟩
 have Ty:(uses.length:Int)≤20:=by omega
 have QY:=HN w (zb _)
 go_enter Tryz.func57,Tryz.ntmps57
 go_upto_region 1 with(first
  | (go_at_call 60;refine(HX _).mono ?_;clear HX;rintro e w3 ⟨rfl,cK⟩;have eV:=aP.trans (aa cK aP.size);have J9:=(hE.below eV zr).cells)
  | (go_at_call 59;refine QY.mono ?_;clear QY;rintro e w1 ⟨rfl,aP⟩;have J8:=(hE.below aP zr).cells)
  | (go_at_call 58;refine(bt 1 _).mono ?_;rintro e w2 ⟨rfl,rfl⟩))
 clear ec J8
 go_wp2_with fail
 clear J9
 go_loopw [25] (λy wx=>∃i:Nat,i≤uses.length∧y=.int .i64 i∧Below w.heap.size w wx∧∀j,j<i→mL name uses j=true) (λy _=>uses.length - (intOf y).toNat)
 case atStart=>exact⟨0,Nat.zero_le _,by go_num,eV,λj h=>absurd h (Nat.not_lt_zero _)⟩
 case round =>
  obtain⟨i,hi,rfl,cN,hok⟩:=hrel;have A4:=(hE.below cN zr).cells
  by_cases hlt:i<uses.length
  case pos=>
   obtain⟨x,hx⟩:∃x,uses[i]? =some x:=⟨_,List.getElem?_eq_getElem hlt⟩
   obtain⟨bu,ou,rfl,_,DH⟩:=(hv.below cN zr).at hx;have hxl:=CJ x (List.mem_of_getElem? hx);have Cw:=bp x wr (Jh.out wr cN) hxl;have qd:=EI (name:=name) hx;have h63:(i:Int)+1≤9223372036854775807:=by omega
   have G6:mL name uses i=false→jg L name src text uses=1:=λh=>ET h1 h2 h3 (zM hlt h)
   rcases Gp:isName x with _|_
   · have he:=G6 (by rw[qd,Gp];rfl)
     rw[Gp] at Cw;clear hok qd G6;go_wp2_with (first
      | (go_at_call 59;refine Cw.mono ?_;clear Cw;rintro e w4 ⟨rfl,hb4⟩)
      | (go_at_call 58;refine(cm 1 _).mono ?_;rintro e w2 ⟨rfl,rfl⟩))
     exact⟨rfl,1,(bQ (by decide)).symm,jE 1 _ (by decide) he (cN.trans (aa hb4 cN.size))⟩
   rw[Gp] at Cw
   by_cases hxe:x=name
   · have he:=G6 (by rw[qd,hxe];simp)
     have hq:(x==name)=true:=by simp[hxe]
     clear hok qd G6 hxe;go_wp2_with (first
      | (go_at_call 59;refine Cw.mono ?_;clear Cw;rintro e w4 ⟨rfl,hb4⟩;have I1:=(hE.below (cN.trans (aa hb4 cN.size)) zr).cells)
      | (go_at_call 58;refine(cm 1 _).mono ?_;rintro e w2 ⟨rfl,rfl⟩))
     exact⟨rfl,1,(bQ (by decide)).symm,jE 1 _ (by decide) he (cN.trans (aa hb4 cN.size))⟩
   have hq:(x==name)=false:=by simp[hxe]
   by_cases hz:i=0
   · have N7:((i:Int)==0)=true:=by simp[hz]
     have yz:∀j,j<i+1→mL name uses j=true:=λj hj=>by
      obtain rfl:j=i:=by omega
      rw[qd,Gp,hz];simp[hxe]
     have yz:=zh yz;clear hok qd G6 hxe hz;go_wp2_with (first
      | (go_at_call 59;refine Cw.mono ?_;clear Cw;rintro e w4 ⟨rfl,hb4⟩;have I1:=(hE.below (cN.trans (aa hb4 cN.size)) zr).cells)
      | (go_at_call 58;refine(bt 1 _).mono ?_;rintro e w2 ⟨rfl,rfl⟩))
     exact⟨⟨i+1,hlt,by go_num,cN.trans (aa hb4 cN.size),yz.out⟩,by simp only[intOf];omega⟩
   obtain⟨m,rfl⟩:∃m,i=m+1:=⟨i - 1,by omega⟩
   obtain⟨p,hp⟩:∃p,uses[m]? =some p:=⟨_,List.getElem?_eq_getElem (by omega)⟩
   obtain⟨_,_,hb,_,Ks⟩:=(hv.below cN zr).at hp;cases hb;rw[show m+1 - 1=m by omega,hp,Gp] at qd;have N7:((m:Int)+1==0)=false:=by rw[beq_eq_false_iff_ne];omega
   have hml:(m:Int)+1<(uses.length:Int):=by omega
   have UN:(m:Int)<(uses.length:Int):=by omega
   rcases hl:Op.bytesLess p x with _|_
   · have he:=G6 (by rw[qd];simp[hl])
     clear hok qd G6 hxe hp hx hi hlt;go_wp2_with (first
      | (go_at_call 59;refine Cw.mono ?_;clear Cw;rintro e w4 ⟨rfl,hb4⟩;have I1:=(hE.below (cN.trans (aa hb4 cN.size)) zr).cells;have PM:=Below.keep hb4 Ks)
      | (go_at_call 58;refine(cm 1 _).mono ?_;rintro e w2 ⟨rfl,rfl⟩))
     exact⟨rfl,1,(bQ (by decide)).symm,jE 1 _ (by decide) he (cN.trans (aa hb4 cN.size))⟩
   · have yz:∀j,j<m+1+1→mL name uses j=true:=λj hj=>by
      by_cases hjm:j=m+1
      · subst hjm
        rw[qd];simp[hxe,hl]
      · exact hok j (by omega)
     have yz:=zh yz;have hlt2:=zh hlt;clear hok qd G6 hxe hp hx hi hlt;go_wp2_with (first
      | (go_at_call 59;refine Cw.mono ?_;clear Cw;rintro e w4 ⟨rfl,hb4⟩;have I1:=(hE.below (cN.trans (aa hb4 cN.size)) zr).cells;have PM:=Below.keep hb4 Ks)
      | (go_at_call 58;refine(bt 1 _).mono ?_;rintro e w2 ⟨rfl,rfl⟩))
     have hlt:=hlt2.out;exact⟨⟨m+1+1,hlt,by go_num,cN.trans (aa hb4 cN.size),yz.out⟩,by simp only[intOf];omega⟩
  case neg =>
   obtain rfl:i=uses.length:=by omega
   have h4:=qU.2 hok;clear hok hlt hi HN;have HR:=A5 text wr (by have:=hP.lt;omega) (by
    have e1:=gI 10 (Lib.trimSuffix text [10]);have e2:=fQ text [10];have:=hP.lt;omega) (Jh.out wr cN) (LW.out wr cN)
   obtain⟨RD,Pm⟩:∃RD,jx iO text=RD:=⟨_,rfl⟩
   have B4:=λh=>JY (L:=L) h1 h2 h3 h4 (text:=text) h
   have B2:=λh=>JX (L:=L) h1 h2 h3 h4 (text:=text) h
   rw[Pm] at HR B4 B2;have N8:=λh:RD.2=0=>(GO (s:=text) (by rw[Pm];exact h)).not
   have Vf:=(jb h1).not;have hzs:=(G0 h2).not;obtain⟨F,c⟩:=RD;dsimp only at HR B4 B2 N8;clear Pm h1 h2 h3 Ty h4
   by_cases hc:c=0
   case neg=>
    have he:=B4 (by simp[hc]);have hq:((c:Int)==0)=false:=by rw[beq_eq_false_iff_ne];omega
    clear hc B4 B2;go_wp2_with (first
     | (go_at_call 61;refine HR.mono ?_;clear HR;rintro e w4 ⟨fv,rfl,hF,hb4⟩;obtain⟨nv,ov,rfl,_,Hp,Hq⟩:=hF;obtain⟨p1,c1,rfl,_⟩:=Hp.shape;obtain⟨p2,c2,rfl,_⟩:=Hq.shape)
     | (go_at_call 58;refine(cm 4 _).mono ?_;rintro e w2 ⟨rfl,rfl⟩))
    exact⟨rfl,4,(bQ (by decide)).symm,jE 4 _ (by decide) he ((cN.trans (aa hb4 cN.size)).alloc (Nat.le_trans cN.size hb4.size) _)⟩
   have hq:((c:Int)==0)=true:=by simp[hc]
   by_cases hn:F.name=name
   case neg=>
    have he:=B4 (by simp[hn]);have KC:(F.name==name)=false:=by simp[hn]
    clear hc hn B4 B2;go_wp2_with (first
     | (go_at_call 61;refine HR.mono ?_;clear HR;rintro e w4 ⟨fv,rfl,hF,hb4⟩;obtain⟨nv,ov,rfl,_,Hp,Hq⟩:=hF;obtain⟨p1,c1,rfl,_⟩:=Hp.shape;obtain⟨p2,c2,rfl,_⟩:=Hq.shape;have Kc:=(zb w4).alloc zr (.cells #[str F.name,.int .u8 F.kind,.bool F.par,.slice p1 F.aB.length c1,.slice p2 F.ops.length c2] 123);have jN:=cN.trans (aa hb4 cN.size);have lR:=jN.trans (aa Kc jN.size);have I1:=(hE.below lR zr).cells;have bx:=(cH (heap_alloc_new w4 (.cells #[str F.name,.int .u8 F.kind,.bool F.par,.slice p1 F.aB.length c1,.slice p2 F.ops.length c2] 123))).1)
     | (go_at_call 58;refine(cm 4 _).mono ?_;rintro e w2 ⟨rfl,rfl⟩))
    exact⟨rfl,4,(bQ (by decide)).symm,jE 4 _ (by decide) he lR⟩
   have KC:(F.name==name)=true:=by simp[hn]
   by_cases hl:text.length≤3000
   case neg=>
    have he:=B4 (by simp[hl]);have UQ:decide ((text.length:Int)≤3000)=false:=decide_eq_false (by omega);clear hc hn hl B4 B2;go_wp2_with (first
     | (go_at_call 61;refine HR.mono ?_;clear HR;rintro e w4 ⟨fv,rfl,hF,hb4⟩;obtain⟨nv,ov,rfl,_,Hp,Hq⟩:=hF;obtain⟨p1,c1,rfl,_⟩:=Hp.shape;obtain⟨p2,c2,rfl,_⟩:=Hq.shape;have Kc:=(zb w4).alloc zr (.cells #[str F.name,.int .u8 F.kind,.bool F.par,.slice p1 F.aB.length c1,.slice p2 F.ops.length c2] 123);have jN:=cN.trans (aa hb4 cN.size);have lR:=jN.trans (aa Kc jN.size);have I1:=(hE.below lR zr).cells;have bx:=(cH (heap_alloc_new w4 (.cells #[str F.name,.int .u8 F.kind,.bool F.par,.slice p1 F.aB.length c1,.slice p2 F.ops.length c2] 123))).1)
     | (go_at_call 58;refine(cm 4 _).mono ?_;rintro e w2 ⟨rfl,rfl⟩))
    exact⟨rfl,4,(bQ (by decide)).symm,jE 4 _ (by decide) he lR⟩
   have UQ:(text.length:Int)≤3000:=by omega
   replace B2:=B2 ⟨hc,hn,hl⟩
   replace N8:=N8 hc
   clear B4 hc hn hl;go_upto_region 8 with(first
    | (go_at_call 61;refine HR.mono ?_;clear HR;rintro e w4 ⟨fv,rfl,hF,hb4⟩;obtain⟨nv,ov,rfl,_,Hp,Hq⟩:=hF;obtain⟨p1,c1,rfl,_⟩:=Hp.shape;obtain⟨p2,c2,rfl,_⟩:=Hq.shape;have Kc:=(zb w4).alloc zr (.cells #[str F.name,.int .u8 F.kind,.bool F.par,.slice p1 F.aB.length c1,.slice p2 F.ops.length c2] 123);have jN:=cN.trans (aa hb4 cN.size);have lR:=jN.trans (aa Kc jN.size);have I1:=(hE.below lR zr).cells;have bx:=(cH (heap_alloc_new w4 (.cells #[str F.name,.int .u8 F.kind,.bool F.par,.slice p1 F.aB.length c1,.slice p2 F.ops.length c2] 123))).1)
    | (go_at_call 58;refine(bt 4 _).mono ?_;rintro e w2 ⟨rfl,rfl⟩))
   clear bx I1;obtain⟨W0,pX⟩:∃W0,w4.alloc (.cells #[str F.name,.int .u8 F.kind,.bool F.par,.slice p1 F.aB.length c1,.slice p2 F.ops.length c2] 123)=W0:=⟨_,rfl⟩
   rw[pX] at lR ⊢;clear Kc Hp Hq hb4 jN pX;have NJ:=hE.below lR zr;have yo:=hS.below lR zr mm;have Ki:=LW.out W0 lR;have MT:=hv.below lR zr;obtain⟨vu,hlk,oP⟩:=yo.lib.units.iL (k:=name) (by have:=hP.ln;unfold maxLen;omega);obtain⟨ua,uc,ud,rfl,_,kO,nH,nI⟩:=oP;obtain⟨q1,q2,rfl,_⟩:=kO.shape;obtain⟨q3,q4,rfl,_⟩:=nH.shape;obtain⟨q5,q6,rfl,_⟩:=nI.shape;clear kO nH nI;generalize hU:(aq L.units name).getD .zero=U at *;have Bl:l.mu<W0.heap.size:=by
    obtain⟨es,cc,h1⟩:=yo.lib.units.map;exact aj h1
   have A6:=(zb W0).alloc zr (.cells #[str [],.int .i64 0,str [],str [],.slice none 0 0,.bool false,.slice none 0 0,.slice none 0 0] 41);have Ou:=NJ.cells;have I2:=(NJ.below A6 zr).cells;have yt:=(af yo.head 0).trans rfl;have Mh:=Below.keep A6 yt;have jQ:∀W,Below W0.heap.size W0 W→(Instr.lookup 106 (.map (some l.mu)) (str name) true).run Tryz.prog W=.ok (.tuple #[.agg #[str U.name,.int .i64 (U.version:Int),str U.source,str U.aO,.slice q1 U.uses.length q2,.bool U.built,.slice q3 (aH U.code).length q4,.slice q5 U.used.length q6],.bool (aq L.units name).isSome]) W:=λW hW=>hlk W true (hW.block _ Bl)
   have j1:=jQ _ (zb W0);have j2:=jQ _ (zb W0).drew;have j3:=jQ _ A6;have j4:=jQ _ A6.drew;clear hlk jQ;generalize (aq L.units name).isSome=JO at *;apply mM
   · intro hone
     go_region
     all_goals exact hone
   obtain⟨W1,rB⟩:∃W1,(W0.alloc (.cells #[str U.name,.int .i64 (U.version:Int),str U.source,str U.aO,.slice q1 U.uses.length q2,.bool U.built,.slice q3 (aH U.code).length q4,.slice q5 U.used.length q6] 41)).drew=W1:=⟨_,rfl⟩
   have A9:Below W0.heap.size W0 W1:=rB▸((zb W0).alloc zr _).drew;rw[rB];clear rB j1 j2 j3 j4 A6 I2 Mh Ou yt;have ON:=Nat.le_trans mm lR.size;have fc:=lR.trans (aa A9 lR.size);have o6:=NJ.below A9 zr;have hS1:=yo.below A9 zr ON;have hM1:=Ki.below A9;have yF:=MT.below A9 zr;clear NJ yo Ki MT A9 lR;have J8:=o6.cells;have Hy:=(af hS1.head 0).trans rfl;have yy:=λty=>M7 Tryz.underlying106 hS1.lib.units ty
   have hlb:(L.units.length:Int)≤9223372036854775807:=by have:=hP.lib.units;omega
   by_cases hin:(JO||decide (L.units.length<20))=false
   · rw[if_pos hin] at B2
     rw[Bool.or_eq_false_iff] at hin;obtain⟨rfl,hin⟩:=hin;have UR:decide ((L.units.length:Int)<20)=false:=decide_eq_false (by have:=of_decide_eq_false hin;omega);clear hin;go_wp2_with (go_at_call 58;refine(cm 2 _).mono ?_;rintro e w2 ⟨rfl,rfl⟩);exact⟨rfl,2,(bQ (by decide)).symm,jE 2 _ (by decide) B2 fc⟩
   rw[if_neg hin] at B2;go_upto_region 9 with fail
   go_cut [] from 81 to 91 (λwx=>wx=W1)
   case first=>
    rcases JO with _|_
    · have UR:(L.units.length:Int)<20:=by
       simp at hin;omega
      clear hin;go_wp2_with (go_at_call 58;refine(bt 2 _).mono ?_;rintro e w2 ⟨rfl,rfl⟩)
      go_meet
      case rel=>exact rfl
    · go_wp2_with (go_at_call 58;refine(bt 2 _).mono ?_;rintro e w2 ⟨rfl,rfl⟩)
      go_meet
      case rel=>exact rfl
   obtain rfl:=hcut;have Wb:=zh (λW (hW:KW B l.mu l.ml wc W)=>hM1.cV lN hW.cV);have HJ:=enters_of Tryz.func63 (by kernel_rfl) rfl;have HD:=enters_of Tryz.func62 (by kernel_rfl) rfl;go_upto_region 10 with fail;have Bq:∀{listed:Array Bool} {i:Nat},(listed.getD 7 false=true→listed.getD i false=true)→listed.getD i true=false→listed.getD 7 false=false:=λ{listed i} hi hl=>by
    rcases hq:listed.getD 7 false with _|_
    · rfl
    · have:=hi hq
      rw[qz hl] at this;cases this
   refine rT (zT wc [.pointer (some ⟨l.sb,0,none⟩),str name,str src,str text,.slice pu uses.length cu,str (aU 44 uses)] [kP,name,src,text,aU 44 uses] (λw'=>bq (RO R w.heap.size) B w' l (ep L name src text (aU 44 uses)) (at_+bV (kH name src text uses).length)∧KW B l.mu l.ml w w')) (by kernel_rfl) (by kernel_rfl) (by kernel_rfl) ⟨λj v _ h=>(kI h).elim,λ_=>⟨(zb wc).drew,λh=>(kI h).elim⟩,λh=>(kI h).elim,λh=>(kI h).elim⟩ ⟨?_,?_,?_,?_,?_,?_,?_,?_,?_,trivial⟩ ?_
   · intro listed vals a wx hsz hl hS hcl _ hd ho next hnx
     have h7:=Bq (listed:=listed) (λh=>bl hcl rfl (by kernel_rfl) h) hl;have e:a.eval (.tmp 4)=.pointer (some ⟨n4,0,none⟩):=(ho 4 (bG (by kernel_rfl))).trans rfl;have A4:=(o6.below (hS.pre h7).1 zr).cells;refine aR (v:=.pointer (some ⟨l.sb,0,none⟩)) ?_ (hnx _ _ (hS.read h7 (by decide) (λu hu=>Option.some.inj hu) (zb _)));unfold execOp;simp only[e];simp[go_sem,A4]
   · intro listed vals a wx hsz hl hS hcl _ hd ho next hnx
     have h7:=Bq (listed:=listed) (λh=>bl hcl (i:=6) rfl (by kernel_rfl) (bl hcl rfl (by kernel_rfl) h)) hl;have e:a.eval (.tmp 0)=.pointer (some ⟨n0,0,none⟩):=(ho 0 (bG (by kernel_rfl))).trans rfl;have A4:=(o6.below (hS.pre h7).1 zr).cells;refine aR (v:=str name) ?_ (hnx _ _ (hS.read h7 (by decide) (λu hu=>Option.some.inj hu) (zb _)));unfold execOp;simp only[e];simp[go_sem,A4]
   · intro listed vals a wx hsz hl hS hcl _ hd ho next hnx
     have h7:=Bq (listed:=listed) (λh=>bl hcl (i:=6) rfl (by kernel_rfl) (bl hcl rfl (by kernel_rfl) h)) hl;have e:a.eval (.tmp 1)=.pointer (some ⟨n1,0,none⟩):=(ho 1 (bG (by kernel_rfl))).trans rfl;have A4:=(o6.below (hS.pre h7).1 zr).cells;refine aR (v:=str src) ?_ (hnx _ _ (hS.read h7 (by decide) (λu hu=>Option.some.inj hu) (zb _)));unfold execOp;simp only[e];simp[go_sem,A4]
   · intro listed vals a wx hsz hl hS hcl _ hd ho next hnx
     have h7:=Bq (listed:=listed) (λh=>bl hcl (i:=6) rfl (by kernel_rfl) (bl hcl rfl (by kernel_rfl) h)) hl;have e:a.eval (.tmp 3)=.pointer (some ⟨n3,0,none⟩):=(ho 3 (bG (by kernel_rfl))).trans rfl;have A4:=(o6.below (hS.pre h7).1 zr).cells;refine aR (v:=str text) ?_ (hnx _ _ (hS.read h7 (by decide) (λu hu=>Option.some.inj hu) (zb _)));unfold execOp;simp only[e];simp[go_sem,A4]
   · intro listed vals a wx hsz hl hS hcl _ hd ho next hnx
     have h7:=Bq (listed:=listed) (λh=>bl hcl (i:=5) rfl (by kernel_rfl) (bl hcl (i:=6) rfl (by kernel_rfl) (bl hcl rfl (by kernel_rfl) h))) hl;have e:a.eval (.tmp 2)=.pointer (some ⟨n2,0,none⟩):=(ho 2 (bG (by kernel_rfl))).trans rfl;have A4:=(o6.below (hS.pre h7).1 zr).cells;refine aR (v:=.slice pu uses.length cu) ?_ (hnx _ _ (hS.read h7 (by decide) (λu hu=>Option.some.inj hu) (zb _)));unfold execOp;simp only[e];simp[go_sem,A4]
   · intro listed vals a wx hsz hl hS hcl DR hd ho next hnx
     have h7:=Bq (listed:=listed) (λh=>bl hcl (i:=6) rfl (by kernel_rfl) (bl hcl rfl (by kernel_rfl) h)) hl;have e:=(vF hd 4 (by kernel_rfl) rfl).trans (hS.c 4 _ rfl (wR DR 4 (by kernel_rfl)));have hJ:=o7 uses [44] _ wx (yF.below (hS.pre h7).1 zr) (by rw[iH];have:=hP.ju;omega) (by have:=hP.nu;omega);rw[iH] at hJ;exact ki (R:=λu w'=>u=str (aU 44 uses)∧Below wx.heap.size wx w') rfl HJ e rfl (hJ.mono λe w' h=>⟨_,h.1,rfl,h.2⟩) λu w' hu=>hnx u w' (hS.read h7 (by decide) (λu2 Bo=>by cases Bo;exact hu.1) hu.2)
   · intro listed vals a wx hsz hl hS hcl DR hd ho next hnx
     have h7:=Bq (listed:=listed) (λh=>bl hcl rfl (by kernel_rfl) h) hl;have e1:=(vF hd 1 (by kernel_rfl) rfl).trans (hS.c 1 _ rfl (wR DR 1 (by kernel_rfl)));have e2:=(vF hd 2 (by kernel_rfl) rfl).trans (hS.c 2 _ rfl (wR DR 2 (by kernel_rfl)));have e3:=(vF hd 3 (by kernel_rfl) rfl).trans (hS.c 3 _ rfl (wR DR 3 (by kernel_rfl)));have e4:=(vF hd 5 (by kernel_rfl) rfl).trans (hS.c 5 _ rfl (wR DR 5 (by kernel_rfl)));refine aR (v:=.slice (some ⟨wx.heap.size,0,none⟩) 5 5) (w':=wx.alloc (.cells ([kP,name,src,text,aU 44 uses].map str).toArray 9)) ?_ (hnx _ _ ?_)
     · unfold execOp
       simp only[List.map_toArray,List.map_cons,List.map_nil,e1,e2,e3,e4];simp[go_sem,Act.eval]
     · have hss:=SS.new (λ_=>True) wx trivial [kP,name,src,text,aU 44 uses] 9 (0,0) (by unfold maxLen;simp) (λs hs=>by
        have g1:=hP.ln;have g2:=hP.ls;have g3:=hP.lt;have g4:=hP.ju;have g5:s.length≤100000:=by
         simp only[List.mem_cons,List.not_mem_nil,or_false] at hs;rcases hs with rfl|rfl|rfl|rfl|rfl
         · decide
         all_goals omega
        unfold maxLen;omega)
       have hb:=(zb wx).alloc zr (.cells ([kP,name,src,text,aU 44 uses].map str).toArray 9);refine⟨λi u hi hl2=>?_,λ_=>⟨(hS.pre h7).1.trans (aa hb (hS.pre h7).1.size),λh6=>by rw[iR];exact hss⟩,λLb=>?_,λh8=>by rw[fE vals _ (by decide)];rw[getD_set_ne false (by decide)] at h8;exact hS.last h8⟩
       · have Se:i<6:=(List.getElem?_eq_some_iff.1 hi).1
         rw[fE vals _ (by omega)];rw[getD_set_ne false (by omega)] at hl2;exact hS.c i u hi hl2
       · rw[getD_set_ne false (by decide),h7] at Lb
         cases Lb
   · intro listed vals a wx hsz hl hS hcl DR hd ho next hnx
     have h7:=qz hl;have e1:=(vF hd 0 (by kernel_rfl) rfl).trans (hS.c 0 _ rfl (wR DR 0 (by kernel_rfl)));have e2:=vF hd 6 (by kernel_rfl) rfl;obtain⟨gN,hss⟩:=hS.pre h7;have hss:=hss (wR DR 6 (by kernel_rfl));have jO:=hS1.below gN zr (Nat.le_trans mm fc.size);have Gj:=Nat.le_trans fc.size gN.size;refine ki (R:=λu w'=>u=.int .i64 0∧bq (RO R wx.heap.size) B w' l (ep L name src text (aU 44 uses)) (at_+bV (aU 0 [kP,name,src,text,aU 44 uses]).length)∧KW B l.mu l.ml wx w') rfl HD e1 e2 ((yd [kP,name,src,text,aU 44 uses] (vals 6) wx hss jO (hM1.below gN) lN (nV.put name src text (aU 44 uses) Vf hzs N8) hP.lib (by have g1:=hP.ln;have g2:=hP.ls;have g3:=hP.lt;have g4:=hP.ju;simp[aU];omega) hP.at_ hP.dn).mono λe w' h=>⟨_,h.1,rfl,h.2⟩) λu w' hu=>hnx u w' ⟨λi u2 hi hl2=>?_,λh=>?_,λ_=>⟨by rw[iR];exact hu.1,hu.2.1.mono λb hb=>hb.imp id λh=>Nat.le_trans Gj h,?_⟩,λh8=>by rw[fE vals _ (by decide)];rw[getD_set_ne false (by decide)] at h8;exact hS.last h8⟩
     · have Se:i<6:=(List.getElem?_eq_some_iff.1 hi).1
       rw[fE vals _ (by omega)];rw[getD_set_ne false (by omega)] at hl2;exact hS.c i u2 hi hl2
     · have Qr:listed.size=9:=hsz
       simp[Array.getD_eq_getD_getElem?,Qr] at h
     · exact(KW.ai (fc.trans (aa gN fc.size)) zr mm).trans hu.2.2
   · intro listed vals a wx hsz hl hS hcl DR hd ho next hnx
     have h7:=wR DR 7 (by kernel_rfl);have e1:=(vF hd 7 (by kernel_rfl) rfl).trans (hS.post h7).1;refine aR (v:=.int .i64 0) ?_ (hnx _ _ ⟨λi u hi hl2=>?_,λh=>?_,λ_=>⟨by rw[fE vals _ (by decide)];exact(hS.post h7).1,(hS.post h7).2⟩,λ_=>iR vals 8 _⟩)
     · unfold execOp
       simp only[e1];simp[go_sem]
     · have Se:i<6:=(List.getElem?_eq_some_iff.1 hi).1
       rw[fE vals _ (by omega)];rw[getD_set_ne false (by omega)] at hl2;exact hS.c i u hi hl2
     · rw[getD_set_ne false (by decide),h7] at h
       cases h
   intro a5 w5 hdf iw hout ⟨listed,vals,hall,Pr,jv⟩;obtain⟨_,T5,Jb⟩:=Pr.post (hall 7 (by decide));have h8:=(jv 8 _ 8 rfl rfl).trans (Pr.last (hall 8 (by decide)));rw[dO hdf iw hout];simp only[JW,pz,pw];rw[h8];clear hdf iw hout jv hall Pr h8;go_wp2_with (go_at_call 58;refine(bt 0 _).mono ?_;rintro e w2 ⟨rfl,rfl⟩)
   go_end0
   exact⟨0,rfl,B2.symm,by rw[if_pos rfl];exact T5,Jb⟩
structure tJ (R:Nat→Prop) (w:World) (sb mu:Nat) (us:List (List UInt8×az)):Prop where
 head:∃x y,w.heap[sb]? =some (.cells #[.map (some mu),x,y] 111 (0,0))
 units:cB R w mu us
 ok:∀n u,aq us n=some u→zU u
 len:us.length≤1000
theorem tJ.below {R:Nat→Prop} {w w':World} {sb mu K:Nat} {us:List (List UInt8×az)} (h:tJ R w sb mu us) (hb:Below K w w') (hK:w.heap.size≤K):tJ R w' sb mu us:=by
 obtain⟨x,y,hh⟩:=h.head
 obtain⟨es,c,hm⟩:=h.units.map
 exact⟨⟨x,y,(hb.block _ (Nat.lt_of_lt_of_le (aj hh) hK)).trans hh⟩,h.units.ey (dI.ai hb hK) (hb.block _ (Nat.lt_of_lt_of_le (aj hm) hK)),h.ok,h.len⟩
theorem bq.read {R:Nat→Prop} {B:Nat} {w:World} {l:Loc} {L:bh} {at_:Nat} (h:bq R B w l L at_) (hu:∀n u,aq L.units n=some u→zU u):tJ R w l.sb l.mu L.units:=⟨⟨_,_,h.head⟩,h.lib.units,hu,h.lib.le.1⟩
theorem tJ.cell {R:Nat→Prop} {w:World} {sb mu:Nat} {us:List (List UInt8×az)} (h:tJ R w sb mu us):w.cell? ⟨sb,0,none⟩=some (.map (some mu)):=by
 obtain⟨x,y,hh⟩:=h.head
 exact(af hh 0).trans rfl
theorem tJ.wX {R:Nat→Prop} {w:World} {sb mu:Nat} {us:List (List UInt8×az)} (h:tJ R w sb mu us):mu<w.heap.size:=by
 obtain⟨es,c,hm⟩:=h.units.map
 exact aj hm
def bZ (us:List (List UInt8×az)):List (List UInt8):=gH (us.map (·.1))
theorem nQ {R:Nat→Prop} {m:Nat} {us:List (List UInt8×az)} (w:World) (h:cB R w m us) (hn:us.length≤1000):
 Calls Tryz.prog 53 #[.map (some m)] w λe w'=>∃v,e=.returned v∧w'.ownsRow w.heap.size 9 1 v (bZ us).length (aA (bZ us))∧Below w.heap.size w w':=by
 obtain⟨U,h1,h2,_⟩:=h
 subst h1
 rw[List.length_map] at hn
 refine(xA w h2 (by rw[List.length_map];omega)).mono ?_
 rintro e w' ⟨v,rfl,h3,h4⟩
 refine⟨v,rfl,?_,h4⟩
 unfold bZ
 rw[iP,List.length_map,List.length_map,List.map_map]
 rw[List.length_map,List.map_map] at h3
 exact h3
theorem zy {R:Nat→Prop} {sb mu:Nat} {us:List (List UInt8×az)} (w:World) (h:tJ R w sb mu us):
 Calls Tryz.prog 16 #[.pointer (some ⟨sb,0,none⟩)] w λe w'=>∃v,e=.returned v∧w'.ownsRow w.heap.size 9 1 v (bZ us).length (aA (bZ us))∧Below w.heap.size w w':=by
 have HS:=nQ w h.units h.len
 have hc:=h.cell
 clear h
 go_enter Tryz.func16,Tryz.ntmps16
 go_wp2_with (go_at_call 53;refine HS.mono ?_;clear HS;rintro e w1 ⟨v,rfl,h1,h2⟩;obtain⟨pv,cv,rfl⟩:=aJ h1)
 go_ret
 exact⟨_,rfl,h1,h2⟩
def Ck (us:List (List UInt8×az)) (name:List UInt8):List UInt8×Nat:=
 match aq us name with
 | none=>([],5)
 | some u=>(mT us u,0)
set_option maxRecDepth 8000 in
theorem E6 {R:Nat→Prop} {sb mu:Nat} {us:List (List UInt8×az)} (name:List UInt8) (hn:name.length≤maxLen) (w:World) (h:tJ R w sb mu us):
 Calls Tryz.prog 46 #[.pointer (some ⟨sb,0,none⟩),str name] w λe w'=>e=.returned (.tuple #[str (Ck us name).1,.int .i64 ((Ck us name).2:Int)])∧Below w.heap.size w w':=by
 obtain⟨W0,pX⟩:∃x,Ck us name=x:=⟨_,rfl⟩
 rw[pX]
 obtain⟨vu,hlk,oP⟩:=h.units.iL hn
 have hok:=h.ok name
 unfold Ck at pX
 obtain⟨lu,v8⟩:∃lu,aq us name=lu:=⟨_,rfl⟩
 rw[v8] at pX hlk oP hok
 clear v8
 obtain⟨ua,uc,ud,rfl,wm,kO,nH,nI⟩:=oP
 obtain⟨q1,q2,rfl,_⟩:=kO.shape
 obtain⟨q3,q4,rfl,_⟩:=nH.shape
 obtain⟨q5,q6,rfl,_⟩:=nI.shape
 have j1:=hlk w true rfl
 have hc:=h.cell
 clear hlk
 rcases lu with _|u
 · obtain rfl:W0=([],5):=pX.symm
   dsimp only[Option.getD_none,Option.isSome_none] at j1;clear hok;go_enter Tryz.func46,Tryz.ntmps46;go_wp2_with fail;go_ret2;exact⟨rfl,(zb w).alloc zr _⟩
 · obtain rfl:W0=(mT us u,0):=pX.symm
   dsimp only[Option.getD_some,Option.isSome_some] at j1 kO nH nI wm;have MR:=hok u rfl;clear hok;go_enter Tryz.func46,Tryz.ntmps46;go_upto_region 6 with fail;have hA:=(zb w).alloc zr (.cells #[str u.name,.int .i64 (u.version:Int),str u.source,str u.aO,.slice q1 u.uses.length q2,.bool u.built,.slice q3 (aH u.code).length q4,.slice q5 u.used.length q6] 41);have hU:=heap_alloc_new w (.cells #[str u.name,.int .i64 (u.version:Int),str u.source,str u.aO,.slice q1 u.uses.length q2,.bool u.built,.slice q3 (aH u.code).length q4,.slice q5 u.used.length q6] 41);have hsz:=hA.size;generalize w.alloc (.cells #[str u.name,.int .i64 (u.version:Int),str u.source,str u.aO,.slice q1 u.uses.length q2,.bool u.built,.slice q3 (aH u.code).length q4,.slice q5 u.used.length q6] 41)=W1 at *;have hv:dN (Fr R w) w (.agg #[str u.name,.int .i64 (u.version:Int),str u.source,str u.aO,.slice q1 u.uses.length q2,.bool u.built,.slice q3 (aH u.code).length q4,.slice q5 u.used.length q6]) u:=⟨_,_,_,rfl,wm,kO,nH,nI⟩;have HY:=enters_of Tryz.func64 (by kernel_rfl) rfl;clear kO nH nI;refine dW (S:=λ_ w'=>Below W1.heap.size W1 w') (A:=λj v=>match j with
    | 0=>v=.pointer (some ⟨sb,0,none⟩)
    | 1=>v=.pointer (some ⟨sb,0,none⟩)
    | 2=>v=.pointer (some ⟨sb,0,none⟩)
    | 3=>v=.agg #[str u.name,.int .i64 (u.version:Int),str u.source,str u.aO,.slice q1 u.uses.length q2,.bool u.built,.slice q3 (aH u.code).length q4,.slice q5 u.used.length q6]
    | 4=>v=str (mT us u)
    | 5=>v=str (mT us u)
    | 6=>v=.int .i64 0
    | _=>True) (by kernel_rfl) (by kernel_rfl) (by kernel_rfl) (zb W1).drew ⟨?_,?_,?_,?_,?_,?_,?_,trivial⟩ ?_
   · exact fh (λ_ _ h=>h) rfl λlisted a' wx hS aC hout=>by
      have e1:a'.eval (.tmp 0)=.pointer (some ⟨sb,0,none⟩):=(hout 0 (bG (by kernel_rfl))).trans rfl;unfold execOp;simp only[e1];simp[go_sem]
   · exact fh (λ_ _ h=>h) rfl λlisted a' wx hS aC hout=>by
      have e1:a'.eval (.tmp 22)=.pointer (some ⟨sb,0,none⟩):=aC 0 22 (by kernel_rfl) rfl;unfold execOp;simp only[e1];simp[go_sem]
   · exact fh (λ_ _ h=>h) rfl λlisted a' wx hS aC hout=>by
      have e1:a'.eval (.tmp 23)=.pointer (some ⟨sb,0,none⟩):=aC 1 23 (by kernel_rfl) rfl;unfold execOp;simp only[e1];simp[go_sem]
   · exact fh (λ_ _ h=>h) rfl λlisted a' wx hS aC hout=>by
      have e1:a'.eval (.tmp 6)=.pointer (some ⟨w.heap.size,0,none⟩):=(hout 6 (bG (by kernel_rfl))).trans rfl;have hq:=ag hU hS;have d0:=(af hq 0).trans rfl;have d1:=(af hq 1).trans rfl;have d2:=(af hq 2).trans rfl;have d3:=(af hq 3).trans rfl;have d4:=(af hq 4).trans rfl;have d5:=(af hq 5).trans rfl;have d6:=(af hq 6).trans rfl;have d7:=(af hq 7).trans rfl;unfold execOp;simp only[e1];simp[go_sem,d0,d1,d2,d3,d4,d5,d6,d7]
   · exact iB λlisted a' wx hsz hl hS aC hout next hnx=>by
      have e1:a'.eval (.tmp 24)=.pointer (some ⟨sb,0,none⟩):=aC 2 24 (by kernel_rfl) rfl;have e2:a'.eval (.tmp 25)=.agg #[str u.name,.int .i64 (u.version:Int),str u.source,str u.aO,.slice q1 u.uses.length q2,.bool u.built,.slice q3 (aH u.code).length q4,.slice q5 u.used.length q6]:=aC 3 25 (by kernel_rfl) rfl;refine ki (R:=λuu w'=>uu=str (mT us u)∧Below wx.heap.size wx w') rfl HY e1 e2 ((AH u _ wx (Below.keep (hA.trans (aa hS hA.size)) hc) (h.below (hA.trans (aa hS hA.size)) zr).units (hv.agree λb hb hl=>(hA.trans (aa hS hA.size)).block b hl) MR).mono λe w' hh=>⟨_,hh.1,rfl,hh.2⟩) λu w' hu=>hnx u w' hu.1 (hS.trans (aa hu.2 hS.size))
   · exact fh (λ_ _ h=>h) rfl λlisted a' wx hS aC hout=>by
      have e1:a'.eval (.tmp 26)=str (mT us u):=aC 4 26 (by kernel_rfl) rfl;unfold execOp;simp only[e1];simp[go_sem]
   · exact fh (λ_ _ h=>h) rfl λlisted a' wx hS aC hout=>by
      unfold execOp
      rfl
   intro a4 w4 hdf iw hout ⟨listed,hall,hS⟩ jv;have k4:=jv 5 _ 4 rfl rfl;have k5:=jv 6 _ 5 rfl rfl;rw[dO hdf iw hout];simp only[JW,pz,pw];rw[k4,k5];clear hdf iw hout jv hall k4 k5;go_wp2_with fail;go_ret2;exact⟨rfl,hA.trans (aa hS hA.size)⟩
def fC (us:List (List UInt8×az)) (n:List UInt8):Bool:= !(mT us ((aq us n).getD .zero)).isEmpty
def lZ (us:List (List UInt8×az)):List (List UInt8):=(bZ us).filter (fC us)
set_option maxRecDepth 8000 in
theorem zD {R:Nat→Prop} {sb mu:Nat} {us:List (List UInt8×az)} (w:World) (h:tJ R w sb mu us) (hnl:∀n∈bZ us,n.length≤maxLen):
 Calls Tryz.prog 24 #[.pointer (some ⟨sb,0,none⟩)] w λe w'=>∃v,e=.returned v∧w'.ownsRow w.heap.size 9 1 v (lZ us).length (aA (lZ us))∧Below w.heap.size w w':=by
 obtain⟨i0,kN,hz0,hz1,hz2⟩:=aV fL
 have HS:=nQ w h.units h.len
 have hc:=h.cell
 have RJ:(bZ us).length≤1000:=by
  unfold bZ;rw[iP,List.length_map];exact h.len
 have ML:lZ us=(bZ us).filter (fC us):=rfl
 have hmem:∀n∈bZ us,∃u,aq us n=some u:=λn hn=>by
  unfold bZ at hn;rw[kJ] at hn;exact Option.isSome_iff_exists.1 (bJ.2 hn)
 generalize bZ us=NL at *
 generalize lZ us=SL at *
 have HY:=enters_of Tryz.func64 (by kernel_rfl) rfl
 have CJ:sb<w.heap.size:=by
  obtain⟨x,y,hh⟩:=h.head;exact aj hh
 go_enter Tryz.func24,Tryz.ntmps24
 go_wp2_with (go_at_call 53;refine HS.mono ?_;clear HS;rintro e w1 ⟨v,rfl,hrow,aP⟩;obtain⟨pv,cv,rfl⟩:=aJ hrow)
 have h1:=h.below aP zr
 have JG:=aP.size
 go_loopw [3,15] (λv y wx=>∃i:Nat,i≤NL.length∧y=.int .i64 i∧wx.ownsRow w1.heap.size 9 1 v ((NL.take i).filter (fC us)).length (aA ((NL.take i).filter (fC us)))∧Below w1.heap.size w1 wx) (λ_ y _=>NL.length - (intOf y).toNat)
 case atStart=>exact⟨0,Nat.zero_le _,by go_num,World.ownsRow_nil _ _ _ _,zb _⟩
 case round =>
  obtain⟨i,hi,rfl,hout,cN⟩:=hrel;have hBw:=aP.trans (aa cN JG);have DH:=Below.keep hBw hc;have Gj:=cN.size
  by_cases hlt:i<NL.length
  case neg=>
   obtain rfl:i=NL.length:=by omega
   rw[List.take_length,←ML] at hout;obtain⟨p3,c3,rfl⟩:=aJ hout
   replace ML:=zh ML
   go_wp2_with fail;go_ret;exact⟨_,rfl,ef hout JG,hBw⟩
  case pos=>
   obtain⟨p3,c3,rfl⟩:=aJ hout;obtain⟨n,hn⟩:∃n,NL[i]? =some n:=⟨_,List.getElem?_eq_getElem hlt⟩
   have hnm:=List.mem_of_getElem? hn;obtain⟨u,hu⟩:=hmem n hnm;obtain⟨bn,rfl⟩:∃b,pv=some ⟨b,0,none⟩:=by
    rcases hrow.2 with⟨e,_⟩|⟨g,cap,cur,e,_⟩
    · injection e with e1 e2 e3;omega
    · injection e with e1;exact⟨g,e1⟩
   have sD:=aT hrow cN zr;have NV:=sD.cells (g:=bn) rfl i (str n) (by unfold aA;rw[List.getElem?_map,hn];rfl);rw[eH,Nat.zero_add] at NV;have hx:=h1.below cN zr;obtain⟨vu,hlk,oP⟩:=hx.units.iL (k:=n) (hnl n hnm);rw[hu] at hlk oP;obtain⟨ua,uc,ud,rfl,wm,kO,nH,nI⟩:=oP;obtain⟨q1,q2,rfl,_⟩:=kO.shape;obtain⟨q3,q4,rfl,_⟩:=nH.shape;obtain⟨q5,q6,rfl,_⟩:=nI.shape;dsimp only[Option.getD_some,Option.isSome_some] at hlk kO nH nI wm;have hv:dN (Fr R wr) wr (.agg #[str u.name,.int .i64 (u.version:Int),str u.source,str u.aO,.slice q1 u.uses.length q2,.bool u.built,.slice q3 (aH u.code).length q4,.slice q5 u.used.length q6]) u:=⟨_,_,_,rfl,wm,kO,nH,nI⟩;clear kO nH nI;have MR:=h.ok n u hu;have hst:fC us n= !(mT us u).isEmpty:=by
    unfold fC;rw[hu]
    rfl
   have qi:(NL.take (i+1)).filter (fC us)=(NL.take i).filter (fC us)++if fC us n=true then [n] else []:=by
    rw[List.take_add_one,hn,List.filter_append];simp only[Option.toList_some,List.filter_cons,List.filter_nil]
   have htl:((NL.take i).filter (fC us)).length≤1000:=Nat.le_trans (List.length_filter_le _ _) (by rw[List.length_take];omega);have h63:(i:Int)+1≤9223372036854775807:=by omega
   have hmx:=hx.wX;clear hn hnm hu sD ML;generalize (NL.take i).filter (fC us)=FL at *
   replace qi:=zh qi
   go_upto_region 7 with fail;refine dW (S:=λ_ w'=>Below wr.heap.size wr w') (A:=λj v=>match j with
    | 0=>v=.pointer (some ⟨sb,0,none⟩)
    | 1=>v=.pointer (some ⟨sb,0,none⟩)
    | 2=>v=.pointer (some ⟨sb,0,none⟩)
    | 3=>v=.pointer (some ⟨sb,0,none⟩)
    | 4=>v=.pointer (some ⟨sb,0,none⟩)
    | 5=>v=.pointer (some ⟨sb,0,none⟩)
    | 6=>v=.pointer (some ⟨sb,0,none⟩)
    | 7=>v=.map (some mu)
    | 8=>v=str n
    | 9=>v=.agg #[str u.name,.int .i64 (u.version:Int),str u.source,str u.aO,.slice q1 u.uses.length q2,.bool u.built,.slice q3 (aH u.code).length q4,.slice q5 u.used.length q6]
    | 10=>v=str (mT us u)
    | 11=>v=.bool (fC us n)
    | _=>True) (by kernel_rfl) (by kernel_rfl) (by kernel_rfl) (zb wr).drew ⟨?_,?_,?_,?_,?_,?_,?_,?_,?_,?_,?_,?_,trivial⟩ ?_
   · exact fh (λ_ _ h=>h) rfl λlisted a' wx hS aC hout=>by
      have e1:a'.eval (.tmp 0)=.pointer (some ⟨sb,0,none⟩):=(hout 0 (bG (by kernel_rfl))).trans rfl;unfold execOp;simp only[e1];simp[go_sem]
   · exact fh (λ_ _ h=>h) rfl λlisted a' wx hS aC hout=>by
      have e1:a'.eval (.tmp 19)=.pointer (some ⟨sb,0,none⟩):=aC 0 19 (by kernel_rfl) rfl;unfold execOp;simp only[e1];simp[go_sem]
   · exact fh (λ_ _ h=>h) rfl λlisted a' wx hS aC hout=>by
      have e1:a'.eval (.tmp 20)=.pointer (some ⟨sb,0,none⟩):=aC 1 20 (by kernel_rfl) rfl;unfold execOp;simp only[e1];simp[go_sem]
   · exact fh (λ_ _ h=>h) rfl λlisted a' wx hS aC hout=>by
      have e1:a'.eval (.tmp 0)=.pointer (some ⟨sb,0,none⟩):=(hout 0 (bG (by kernel_rfl))).trans rfl;unfold execOp;simp only[e1];simp[go_sem]
   · exact fh (λ_ _ h=>h) rfl λlisted a' wx hS aC hout=>by
      have e1:a'.eval (.tmp 22)=.pointer (some ⟨sb,0,none⟩):=aC 3 22 (by kernel_rfl) rfl;unfold execOp;simp only[e1];simp[go_sem]
   · exact fh (λ_ _ h=>h) rfl λlisted a' wx hS aC hout=>by
      have e1:a'.eval (.tmp 23)=.pointer (some ⟨sb,0,none⟩):=aC 4 23 (by kernel_rfl) rfl;unfold execOp;simp only[e1];simp[go_sem]
   · exact fh (λ_ _ h=>h) rfl λlisted a' wx hS aC hout=>by
      have e1:a'.eval (.tmp 24)=.pointer (some ⟨sb,0,none⟩):=aC 5 24 (by kernel_rfl) rfl;unfold execOp;simp only[e1];simp[go_sem]
   · exact fh (λ_ _ h=>h) rfl λlisted a' wx hS aC hout=>by
      have e1:a'.eval (.tmp 25)=.pointer (some ⟨sb,0,none⟩):=aC 6 25 (by kernel_rfl) rfl;have c:=Below.keep hS DH;unfold execOp;simp only[e1];simp[go_sem,c]
   · exact fh (λ_ _ h=>h) rfl λlisted a' wx hS aC hout=>by
      have e1:a'.eval (.tmp 5)=str n:=(hout 5 (bG (by kernel_rfl))).trans rfl;unfold execOp;simp only[e1];simp[go_sem]
   · exact fh (λ_ _ h=>h) rfl λlisted a' wx hS aC hout=>by
      have e1:a'.eval (.tmp 26)=.map (some mu):=aC 7 26 (by kernel_rfl) rfl;have e2:a'.eval (.tmp 27)=str n:=aC 8 27 (by kernel_rfl) rfl;have c:=hlk wx false (hS.block _ hmx);unfold execOp;simp only[e1,e2];simp[c]
   · exact iB λlisted a' wx hsz hl hS aC hout next hnx=>by
      have e1:a'.eval (.tmp 21)=.pointer (some ⟨sb,0,none⟩):=aC 2 21 (by kernel_rfl) rfl;have e2:a'.eval (.tmp 28)=.agg #[str u.name,.int .i64 (u.version:Int),str u.source,str u.aO,.slice q1 u.uses.length q2,.bool u.built,.slice q3 (aH u.code).length q4,.slice q5 u.used.length q6]:=aC 9 28 (by kernel_rfl) rfl;refine ki (R:=λuu w'=>uu=str (mT us u)∧Below wx.heap.size wx w') rfl HY e1 e2 ((AH u _ wx (Below.keep hS DH) (hx.below hS zr).units (hv.agree λb hb hl=>hS.block b hl) MR).mono λe w' hh=>⟨_,hh.1,rfl,hh.2⟩) λu w' hu=>hnx u w' hu.1 (hS.trans (aa hu.2 hS.size))
   · exact fh (λ_ _ h=>h) rfl λlisted a' wx hS aC hout=>by
      have e1:a'.eval (.tmp 29)=str (mT us u):=aC 10 29 (by kernel_rfl) rfl;rw[hst];unfold execOp;simp only[e1];simp[go_sem]
   intro a4 w4 hdf iw Ia ⟨listed,hall,hS⟩ jv;have SD:=jv 11 _ 30 rfl rfl;rw[dO hdf iw Ia];simp only[JW,pz,pw];rw[SD];clear hdf iw Ia jv hall SD;have DY:=aT hout hS zr;have jN:=cN.trans (aa hS Gj);have Eb:=jN.size;rcases hb:fC us n with _|_
   · rw[hb,if_neg (by decide),List.append_nil] at qi
     go_wp2_with fail;exact⟨⟨i+1,hlt,by go_num,by rw[qi.out];exact DY,jN⟩,by simp only[intOf];omega⟩
   · rw[hb,if_pos rfl] at qi
     go_wp2_with (at_builtin;refine wpList_append_own _ rfl _ _ 31 rfl w1.heap.size 9 i0 _ 1 16 dg kN hz0 hz1 hz2 rfl (by decide) _ _ _ rfl (DY.alloc _) ⟨w4.heap.size,0,none⟩ 1 1 [str n] rfl rfl (cell_one_new _ _ _) (by intro u hu;rw[List.mem_singleton.1 hu];rfl) (by unfold maxLen;omega) (by omega) (by simp;omega) ?_;intro v' w5 wh qa _);have lR:=(jN.alloc Eb (.cells #[str n] 9)).grown qa (by simp;omega) (λb e=>(DY.lt b e).1);exact⟨⟨i+1,hlt,by go_num,by rw[qi.out];simpa[aA] using wh,lR⟩,by simp only[intOf];omega⟩
end Go.Proofs.YtemjidmkolfgnaaGreatDoor
