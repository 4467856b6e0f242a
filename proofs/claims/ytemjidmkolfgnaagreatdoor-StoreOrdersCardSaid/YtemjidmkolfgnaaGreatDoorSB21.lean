/-
  Lemmas for the statement: contracts: of the package face: said, needed. Conditions: bounds of lengths; the variable strings.asciiSpace.
-/
import Derived.Test.YtemjidmkolfgnaaGreatDoorSBn
import Derived.Test.YtemjidmkolfgnaaGreatDoorSB15
import Derived.Test.YtemjidmkolfgnaaGreatDoorSB17
set_option maxHeartbeats 6400000
namespace Go.Proofs.YtemjidmkolfgnaaGreatDoor
open Go.RowKit
def ry:Option (List UInt8)→List (List UInt8)→Bool
 | _,[]=>true
 | p,a::l=>isName a&&(p.all λq=>Op.bytesLess q a)&&ry (some a) l
theorem rY:∀(l:List (List UInt8)) (a:List UInt8),gO (a::l)=(isName a&&ry (some a) l)
 | [],a=>by simp[gO,ry]
 | b::l,a=>by
  rw[gO,rY l b,ry];simp only[Option.all_some];cases isName a<;>cases isName b<;>cases Op.bytesLess a b<;>simp
theorem AQ (l:List (List UInt8)):gO l=ry none l:=by
 cases l with
 | nil=>rfl
 | cons a l=>rw[rY,ry];simp
def qD (l:List (List UInt8)):Nat→Option (List UInt8)
 | 0=>none
 | i+1=>l[i]?
set_option maxRecDepth 4000 in
theorem pI {D : Nat → Prop} (l : List (List UInt8)) (v : Value) (w : World) (ht : gx w) (hv : SS D w v l) :
 Calls Tryz.prog 202 #[v] w λe w'=>e=.returned (.bool (gO l))∧Below w.heap.size w w':=by
 obtain⟨p,c,rfl,_,hm,hle⟩:=hv.shape
 unfold maxLen at hm
 have HL:=zh hle
 clear hle
 go_enter Tryz.func202,Tryz.ntmps202
 go_wp2_with fail
 go_loopw [7] (λy wx=>∃i:Nat,i≤l.length∧y=.int .i64 i∧Below w.heap.size w wx∧Hid (gO l=ry (qD l i) (l.drop i))) (λy _=>l.length - (intOf y).toNat)
 case atStart=>exact⟨0,Nat.zero_le _,by go_num,zb _,AQ l⟩
 case round =>
  obtain⟨i,hi,rfl,hb,hA⟩:=hrel
  by_cases hlt:i<l.length
  case neg=>
   have HX:=zh (show gO l=true by rw[hA.out,List.drop_eq_nil_of_le (by omega)];rfl);clear hA;go_wp2_with fail;go_ret;exact⟨fN HX.out.symm,hb⟩
  case pos=>
   obtain⟨x,hkx⟩:∃x,l[i]? =some x:=⟨_,List.getElem?_eq_getElem hlt⟩
   have Fy:=hv.below hb zr;obtain⟨b1,o1,rfl,_,c1⟩:=Fy.at hkx;have HN:=bp x wr (ht.below hb zr) (HL.out x (List.mem_of_getElem? hkx));have hd:=hA.out;rw[eX hkx,ry] at hd;clear hA;rcases hn:isName x with _|_
   · rw[hn] at HN hd
     have HX:=zh hd;clear hd hn hkx;go_wp2_with (go_at_call 59;refine HN.mono ?_;clear HN;rintro e w1 ⟨rfl,aP⟩);go_ret;exact⟨by rw[HX.out];rfl,hb.trans (aa aP hb.size)⟩
   · rw [hn] at HN hd
     cases i with
     | zero=>
      have HX:=zh (show gO l=ry (qD l 1) (l.drop 1) by rw[hd];simp[qD,hkx]);rw[Nat.add_zero] at c1;clear hd hn hkx;go_wp2_with (go_at_call 59;refine HN.mono ?_;clear HN;rintro e w1 ⟨rfl,aP⟩);exact⟨⟨1,by omega,by go_num,hb.trans (aa aP hb.size),HX⟩,by simp only[intOf];omega⟩
     | succ j=>
      have hj:j<l.length:=by omega
      obtain⟨y,Mr⟩:∃y,l[j]? =some y:=⟨_,List.getElem?_eq_getElem hj⟩
      obtain⟨b2,o2,e2,_,c2⟩:=Fy.at Mr;injection e2 with e2;injection e2 with e2 e3;subst e2 e3;rcases hl:Op.bytesLess y x with _|_
      · have HX:=zh (show gO l=false by rw[hd,show qD l (j+1)=some y from Mr];simp[hl])
        clear hd hn hkx Mr;go_wp2_with (go_at_call 59;refine HN.mono ?_;clear HN;rintro e w1 ⟨rfl,aP⟩;have c2:=Below.keep aP c2);go_ret;exact⟨by rw[HX.out];rfl,hb.trans (aa aP hb.size)⟩
      · have HX:=zh (show gO l=ry (qD l (j+2)) (l.drop (j+2)) by rw[hd,show qD l (j+1)=some y from Mr];simp[hl,qD,hkx])
        clear hd hn hkx Mr;go_wp2_with (go_at_call 59;refine HN.mono ?_;clear HN;rintro e w1 ⟨rfl,aP⟩;have c2:=Below.keep aP c2);exact⟨⟨j+2,by omega,by go_num,hb.trans (aa aP hb.size),HX⟩,by simp only[intOf];omega⟩
def fG (o:Bool) (t:List UInt8):Bool:=decide ((bH t).1≠0)||(kZ t&& !o)
set_option maxRecDepth 4000 in
theorem BU (t:List UInt8) (o:Bool) (ob:Nat) (w:World) (ht:gx w) (hl:t.length≤maxLen) (hc:w.cell? ⟨ob,0,none⟩=some (.bool o)):
 Calls Tryz.prog 205 #[str t,.pointer (some ⟨ob,0,none⟩)] w λe w'=>e=.returned (.bool (fG o t))∧Below w.heap.size w w':=by
 have HO:=Bz t hl w ht
 unfold fG
 have h0:(bH t).1≠0→kZ t=false:=λh=>by unfold kZ;rw[if_neg h]
 generalize (bH t).1=C at *
 generalize kZ t=O at *
 by_cases hC:C=0
 · subst hC
   cases O<;>cases o
   all_goals
    go_enter Tryz.func205,Tryz.ntmps205;go_wp2_with (go_at_call 206;refine HO.mono ?_;clear HO;rintro e w1 ⟨rfl,aP⟩;have hc:=Below.keep aP hc);go_ret;exact⟨rfl,aP⟩
 · obtain⟨g1,g2⟩:=Ao hC
   obtain rfl:=h0 hC;have HX:=zh (show decide (C≠0)=true by simpa using hC);clear hC h0;go_enter Tryz.func205,Tryz.ntmps205;go_wp2_with (go_at_call 206;refine HO.mono ?_;clear HO;rintro e w1 ⟨rfl,aP⟩;have hc:=Below.keep aP hc);go_ret;exact⟨by rw[HX.out];rfl,aP⟩
def xV {α:Type} (p:α→Bool):List α→Nat→Int
 | [],_=> -1
 | x::r,k=>if p x then k else xV p r (k+1)
theorem uo {α:Type} (p:α→Bool):∀(l:List α) (k:Nat),(0≤xV p l k)↔l.any p=true
 | [],k=>by simp[xV]
 | x::r,k=>by
  rw[xV,List.any_cons];rcases h:p x with _|_
  · simp only[Bool.false_eq_true,if_false,Bool.false_or]
    exact uo p r (k+1)
  · simp
set_option maxRecDepth 4000 in
theorem yG {D:Nat→Prop} (l:List (List UInt8)) (v:Value) (o:Bool) (ob:Nat) (w:World) (ht:gx w) (hv:SS D w v l) (hc:w.cell? ⟨ob,0,none⟩=some (.bool o)):
 Calls Tryz.prog 218 #[v,.func (.func 205) #[] #[.pointer (some ⟨ob,0,none⟩)]] w λe w'=>e=.returned (.int .i64 (xV (fG o) l 0))∧Below w.heap.size w w':=by
 obtain⟨p,c,rfl,_,hm,hle⟩:=hv.shape
 unfold maxLen at hm
 have HL:=zh hle
 clear hle
 go_enter Tryz.func218,Tryz.ntmps218
 go_wp2_with fail
 go_loopw [8] (λa wr=>∃i:Nat,i≤l.length∧a=.int .i64 i∧Below w.heap.size w wr∧Hid (xV (fG o) l 0=xV (fG o) (l.drop i) i)) (λa _=>l.length - (intOf a).toNat)
 case atStart=>exact⟨0,Nat.zero_le _,rfl,zb _,rfl⟩
 case round=>
  obtain⟨i,hi,rfl,hb,hA⟩:=hrel
  by_cases hlt:i<l.length
  case neg=>
   have HX:=zh (show xV (fG o) l 0= -1 by rw[hA.out,List.drop_eq_nil_of_le (by omega)];rfl);clear hA;go_wp2_with fail;go_ret;exact⟨by rw[HX.out];rfl,hb⟩
  case pos=>
   obtain⟨x,hkx⟩:∃x,l[i]? =some x:=⟨_,List.getElem?_eq_getElem hlt⟩
   obtain⟨b1,o1,rfl,_,c1⟩:=(hv.below hb zr).at hkx;have HN:=BU x o ob wr (ht.below hb zr) (HL.out x (List.mem_of_getElem? hkx)) (Below.keep hb hc);have hd:=hA.out;rw[eX hkx,xV] at hd;clear hA hkx;rcases hn:fG o x with _|_
   · rw[hn] at HN hd
     have HX:=zh (hd.trans (if_neg (by simp)));clear hd hn;go_wp2_with (go_at_call 205;refine HN.mono ?_;clear HN;rintro e w1 ⟨rfl,aP⟩);exact⟨⟨i+1,by omega,by go_num,hb.trans (aa aP hb.size),HX⟩,by simp only[intOf];omega⟩
   · rw[hn] at HN hd
     have HX:=zh (hd.trans (if_pos rfl));clear hd hn;go_wp2_with (go_at_call 205;refine HN.mono ?_;clear HN;rintro e w1 ⟨rfl,aP⟩);go_ret;exact⟨by rw[HX.out];rfl,hb.trans (aa aP hb.size)⟩
set_option maxRecDepth 4000 in
theorem kT {D:Nat→Prop} (l:List (List UInt8)) (v:Value) (o:Bool) (ob:Nat) (w:World) (ht:gx w) (hv:SS D w v l) (hc:w.cell? ⟨ob,0,none⟩=some (.bool o)):
 Calls Tryz.prog 203 #[v,.func (.func 205) #[] #[.pointer (some ⟨ob,0,none⟩)]] w λe w'=>e=.returned (.bool (l.any (fG o)))∧Below w.heap.size w w':=by
 have HI:=yG l v o ob w ht hv hc
 have HB:=zh (uo (fG o) l 0)
 obtain⟨p,c,rfl,_⟩:=hv.shape
 clear hv
 generalize xV (fG o) l 0=i at HI HB
 rcases hq:l.any (fG o) with _|_
 · have hn:i<0:=by have:=HB.out;rw[hq] at this;simp at this;exact this
   clear hq;go_enter Tryz.func203,Tryz.ntmps203;go_wp2_with (go_at_call 218;refine HI.mono ?_;rintro e w1 ⟨rfl,aP⟩);go_ret;exact⟨by first|(simp;done)|(simp;omega),aP⟩
 · have hn:0≤i:=by have:=HB.out;rw[hq] at this;simpa using this
   clear hq;go_enter Tryz.func203,Tryz.ntmps203;go_wp2_with (go_at_call 218;refine HI.mono ?_;rintro e w1 ⟨rfl,aP⟩);go_ret;exact⟨by first|(simp;done)|(simp;omega),aP⟩
set_option maxRecDepth 4000 in
theorem Ej {D:Nat→Prop} (l:List (List UInt8)) (s:List UInt8) (v:Value) (w:World) (hv:SS D w v l):
 Calls Tryz.prog 55 #[v,str s] w λe w'=>e=.returned (.int .i64 (xV (λx=>s==x) l 0))∧Below w.heap.size w w':=by
 obtain⟨p,c,rfl,_,hm,_⟩:=hv.shape
 unfold maxLen at hm
 go_enter Tryz.func55,Tryz.ntmps55
 go_wp2_with fail
 go_loopw [8] (λa wr=>∃i:Nat,i≤l.length∧a=.int .i64 i∧Below w.heap.size w wr∧Hid (xV (λx=>s==x) l 0=xV (λx=>s==x) (l.drop i) i)) (λa _=>l.length - (intOf a).toNat)
 case atStart=>exact⟨0,Nat.zero_le _,rfl,zb _,rfl⟩
 case round=>
  obtain⟨i,hi,rfl,hb,hA⟩:=hrel
  by_cases hlt:i<l.length
  case neg=>
   have HX:=zh (show xV (λx=>s==x) l 0= -1 by rw[hA.out,List.drop_eq_nil_of_le (by omega)];rfl);clear hA;go_wp2_with fail;go_ret;exact⟨by rw[HX.out];rfl,hb⟩
  case pos=>
   obtain⟨x,hkx⟩:∃x,l[i]? =some x:=⟨_,List.getElem?_eq_getElem hlt⟩
   obtain⟨b1,o1,rfl,_,c1⟩:=(hv.below hb zr).at hkx;have hd:=hA.out;rw[eX hkx,xV] at hd;clear hA hkx;rcases hn:(s==x) with _|_
   · simp only[hn] at hd
     have HX:=zh (hd.trans (if_neg (by simp)));clear hd;go_wp2_with fail;exact⟨⟨i+1,by omega,by go_num,hb,HX⟩,by simp only[intOf];omega⟩
   · simp only[hn] at hd
     have HX:=zh (hd.trans (if_pos trivial));clear hd;go_wp2_with fail;go_ret;exact⟨by rw[HX.out];rfl,hb⟩
set_option maxRecDepth 4000 in
theorem vw {D:Nat→Prop} (l:List (List UInt8)) (s:List UInt8) (v:Value) (w:World) (hv:SS D w v l):
 Calls Tryz.prog 18 #[v,str s] w λe w'=>e=.returned (.bool (l.any λx=>s==x))∧Below w.heap.size w w':=by
 have HI:=Ej l s v w hv
 have HB:=zh (uo (λx=>s==x) l 0)
 obtain⟨p,c,rfl,_⟩:=hv.shape
 clear hv
 generalize xV (λx=>s==x) l 0=i at HI HB
 rcases hq:l.any (λx=>s==x) with _|_
 · have hn:i<0:=by have:=HB.out;rw[hq] at this;simp at this;exact this
   clear hq;go_enter Tryz.func18,Tryz.ntmps18;go_wp2_with (go_at_call 55;refine HI.mono ?_;rintro e w1 ⟨rfl,aP⟩);go_ret;exact⟨by first|(simp;done)|(simp;omega),aP⟩
 · have hn:0≤i:=by have:=HB.out;rw[hq] at this;simpa using this
   clear hq;go_enter Tryz.func18,Tryz.ntmps18;go_wp2_with (go_at_call 55;refine HI.mono ?_;rintro e w1 ⟨rfl,aP⟩);go_ret;exact⟨by first|(simp;done)|(simp;omega),aP⟩
theorem EW (s:fT) (o:Bool):eB s o=(decide (s.args.length≤6)&&(decide (s.sigs.length≤6)&&(gO s.sigs&&(!(s.iter&&decide (s.res=[]))&& !(dH s).any (fG o))))):=by
 unfold eB
 have:(dH s).all (λt=>decide ((bH t).1=0)&&(!kZ t||o))= !(dH s).any (fG o):=by
  induction dH s with
  | nil=>rfl
  | cons t l ih=>
   rw[List.all_cons,List.any_cons,ih];unfold fG
   by_cases h:(bH t).1=0<;>cases kZ t<;>cases o<;>simp[h]
 rw[this]
 simp only[Bool.and_assoc]
theorem xF (s:fT) (o:Bool) (h:(dH s).any (fG o)=false):s.args.any (λx=>([]:List UInt8)==x)=false:=by
 rw[List.any_eq_false] at h ⊢
 intro x hx he
 have h0:x=[]:=by
  have:([]:List UInt8)=x:=by simpa using he
  exact this.symm
 subst h0
 refine h [] ?_ ?_
 · unfold dH
   exact List.mem_append_left _ hx
 · unfold fG
   rw[show(bH []).1=4 from by decide+kernel]
   rfl
theorem K4 {w:World} {b:Nat} {a0:Value} {t:TypeId} (h:w.heap[b]? =some (.cells #[a0] t (0,0))):w.cell? ⟨b,0,none⟩=some a0∧w.frozen? ⟨b,0,none⟩=false:=⟨(af h 0).trans rfl,au h 0⟩
set_option maxRecDepth 8000 in
theorem xx {D:Nat→Prop} (x:Value) (s:fT) (o:Bool) (w:World) (ht:gx w) (hx:iX D w x s):
 Calls Tryz.prog 177 #[x,.bool o] w λe w'=>e=.returned (.bool (eB s o))∧Below w.heap.size w w':=by
 rw[EW]
 have RV:=xF s o
 have HT:=λW x (h:iX D W x s) (h1:s.args.length≤100000)=>Cc x s W h h1
 generalize dH s=T at *
 obtain⟨av,sv,rfl,hr,ha,hs⟩:=hx
 have HA:=λW (hW:Below w.heap.size w W)=>pI _ _ W (ht.below hW zr) (hs.below hW zr)
 have HS:=λW (hW:Below w.heap.size w W)=>(⟨av,sv,rfl,hr,ha.below hW zr,hs.below hW zr⟩:iX D W (.agg #[.bool s.iter,av,str s.res,sv]) s)
 have HC:=λW (hW:Below w.heap.size w W)=>vw s.args [] av W (ha.below hW zr)
 obtain⟨p1,c1,rfl,_⟩:=ha.shape
 obtain⟨p2,c2,rfl,_⟩:=hs.shape
 obtain⟨it,ar,re,sg⟩:=s
 dsimp only at *
 have hA:=((zb w).alloc zr (.cells #[.bool it,.slice p1 ar.length c1,str re,.slice p2 sg.length c2] 176))
 have hB:=hA.alloc (by simp) (.cells #[.bool o] 4)
 have hg:=aK (.cells #[.bool o] 4) (heap_alloc_new w (.cells #[.bool it,.slice p1 ar.length c1,str re,.slice p2 sg.length c2] 176))
 have hg2:=gV (w:=w.alloc (.cells #[.bool it,.slice p1 ar.length c1,str re,.slice p2 sg.length c2] 176)) (n:=w.heap.size+1) (by simp) #[.bool o] 4
 clear ha hs
 by_cases h1:ar.length≤6
 case neg=>
  have g1:(6:Int)<(ar.length:Int):=by omega
  have HX:=zh (show decide (ar.length≤6)=false by simpa using h1);clear h1;go_enter Tryz.func177,Tryz.ntmps177;go_wp2_with fail;go_ret;exact⟨by rw[HX.out];rfl,hB⟩
 case pos=>
 have g1:¬(6:Int)<(ar.length:Int):=by omega
 have S5:=zh (show decide (ar.length≤6)=true by simpa using h1)
 have h1':Hid (ar.length≤100000):=show ar.length≤100000 by omega
 clear h1
 by_cases h2:sg.length≤6
 case neg=>
  have g2:(6:Int)<(sg.length:Int):=by omega
  have HX:=zh (show decide (sg.length≤6)=false by simpa using h2);clear h2;go_enter Tryz.func177,Tryz.ntmps177;go_wp2_with fail;go_ret;exact⟨by rw[HX.out];simp,hB⟩
 case pos=>
 have g2:¬(6:Int)<(sg.length:Int):=by omega
 have Oi:=zh (show decide (sg.length≤6)=true by simpa using h2)
 clear h2
 have HA:=HA _ hB
 rcases h3:gO sg with _|_
 · rw[h3] at HA
   clear h3;go_enter Tryz.func177,Tryz.ntmps177;go_wp2_with (go_at_call 202;refine HA.mono ?_;clear HA;rintro e w1 ⟨rfl,aP⟩);go_ret;exact⟨by simp,hB.trans (aa aP (by simp;omega))⟩
 rw[h3] at HA
 clear h3
 by_cases h4:it=true∧re=[]
 · obtain⟨rfl,rfl⟩:=h4
   go_enter Tryz.func177,Tryz.ntmps177;go_wp2_with (go_at_call 202;refine HA.mono ?_;clear HA;rintro e w1 ⟨rfl,aP⟩;have hg:=ag hg aP;have bx:=(fV hg).1);go_ret;exact⟨by simp,hB.trans (aa aP (by simp;omega))⟩
 have S6:=zh (show(!(it&&decide (re=[])))=true by
  cases it
  · rfl
  · have:re≠[]:=λe=>h4 ⟨rfl,e⟩
    simpa using this)
 have h5:it=false∨(it=true∧re.isEmpty=false):=by
  cases it
  · exact .inl rfl
  · exact .inr ⟨rfl,by simpa using λe=>h4 ⟨rfl,e⟩⟩
 clear h4
 have VM:=HS
 rcases h6:T.any (fG o) with _|_
 · have S1:=zh (RV h6)
   clear RV;have VK:=λW hW=>(HC W hW)
   rcases h5 with rfl|⟨rfl,h5⟩
   all_goals
    go_enter Tryz.func177,Tryz.ntmps177;go_wp2_with (first
     | (go_at_call 202;refine HA.mono ?_;clear HA;rintro e w1 ⟨rfl,aP⟩;have hB:=hB.trans (aa aP (by simp;omega));have hg:=ag hg aP;have hg2:=ag hg2 aP;have bx:=(fV hg).1)
     | (go_at_call 204;refine(HT _ _ (HS _ hB) h1'.out).mono ?_;clear HT;rintro e w2 ⟨v2,rfl,rH,bO⟩;have hB:=hB.trans (aa bO hB.size);have hg:=ag hg bO;have hg2:=ag hg2 bO;have bx:=(fV hg).1;obtain⟨p3,c3,rfl,_⟩:=rH.shape)
     | (go_at_call 203;refine(kT _ _ o (w.heap.size+1) _ (ht.below hB zr) rH (K4 hg2).1).mono ?_;rw[h6];rintro e w3 ⟨rfl,cK⟩;have hB:=hB.trans (aa cK hB.size);have hg:=ag hg cK;have bx:=(fV hg).1)
     | (go_at_call 18;refine(HC _ hB).mono ?_;rw[S1.out];rintro e w4 ⟨rfl,hb4⟩;have hB:=hB.trans (aa hb4 hB.size)))
    go_ret;exact⟨by rw[S5.out,Oi.out,S6.out];rfl,hB⟩
 · rcases h5 with rfl|⟨rfl,h5⟩
   all_goals
    go_enter Tryz.func177,Tryz.ntmps177;go_wp2_with (first
     | (go_at_call 202;refine HA.mono ?_;clear HA;rintro e w1 ⟨rfl,aP⟩;have hB:=hB.trans (aa aP (by simp;omega));have hg:=ag hg aP;have hg2:=ag hg2 aP;have bx:=(fV hg).1)
     | (go_at_call 204;refine(HT _ _ (HS _ hB) h1'.out).mono ?_;clear HT;rintro e w2 ⟨v2,rfl,rH,bO⟩;have hB:=hB.trans (aa bO hB.size);have hg:=ag hg bO;have hg2:=ag hg2 bO;have bx:=(fV hg).1;obtain⟨p3,c3,rfl,_⟩:=rH.shape)
     | (go_at_call 203;refine(kT _ _ o (w.heap.size+1) _ (ht.below hB zr) rH (K4 hg2).1).mono ?_;rw[h6];rintro e w3 ⟨rfl,cK⟩;have hB:=hB.trans (aa cK hB.size);have hg:=ag hg cK;have bx:=(fV hg).1))
    go_ret;exact⟨by first|rfl|simp,hB⟩
theorem vq {w:World} {n:Nat} (hn:w.heap.size=n) (x:Value) (t:TypeId):∀j u,[x][j]? =some u→(w.alloc (.cells #[x] t)).cell? ((⟨n,0,none⟩:Addr).add j)=some u:=by
 subst hn
 exact cell_one_new _ _ _
theorem lM {w w':World} {row:Option Nat} (h:w.grownBy w' row) {b:Nat} {o:Obj} (hb:w.heap[b]? =some o) (hn:row≠some b):w'.heap[b]? =some o:=
 (h.block b (aj hb) (λe=>hn e.symm)).trans hb
theorem y7 (l:List dw):dx l=(l.all (λn=>eB n.sig true)&&(decide (l.length≤4)&&gO (l.map (·.name)))):=by unfold dx;rw[Bool.and_assoc]
set_option maxRecDepth 8000 in
theorem qx {D:Nat→Prop} (l:List dw) (v:Value) (w:World) (ht:gx w) (hv:dM D w v l) (hn:l.length≤100000):
 Calls Tryz.prog 176 #[v] w λe w'=>e=.returned (.bool (dx l))∧Below w.heap.size w w':=by
 obtain⟨i0,kN,hz0,hz1,hz2⟩:=aV fL
 obtain⟨p,c,rfl,_,hm,hle⟩:=hv.shape
 unfold maxLen at hm
 have HL:=zh hle
 rw[y7]
 clear hle
 go_enter Tryz.func176,Tryz.ntmps176
 go_wp2_with fail
 go_loopw [3,8] (λa y wx=>∃i:Nat,i≤l.length∧y=.int .i64 i∧wx.ownsRow w.heap.size 9 1 a i (aA ((l.take i).map (·.name)))∧Below w.heap.size w wx∧Hid (l.all (λn=>eB n.sig true)=(l.drop i).all (λn=>eB n.sig true))) (λ_ y _=>l.length - (intOf y).toNat)
 case atStart=>exact⟨0,Nat.zero_le _,by go_num,World.ownsRow_nil _ _ _ _,zb _,rfl⟩
 case round =>
  obtain⟨i,hi,rfl,ho,hb,hA⟩:=hrel;obtain⟨pr,cr,rfl⟩:=aJ ho
  by_cases hlt:i<l.length
  case neg=>
   have hie:i=l.length:=by omega
   subst hie;rw[List.take_length] at ho;have HX:=zh (show l.all (λn=>eB n.sig true)=true by rw[hA.out,List.drop_eq_nil_of_le zr];rfl);clear hA;have hN:(l.map (·.name)).length=l.length:=by simp
   have hss:SS (λb=>w.heap.size≤b) wr (.slice pr l.length cr) (l.map (·.name)):=SS.eZ (by rw[hN];exact ho) (by
    intro s hs;obtain⟨x,hx,rfl⟩:=List.mem_map.1 hs;exact(HL.out x hx).1) (λb hb=>(ho.lt b hb).1)
   have HA:=pI _ _ wr (ht.below hb zr) hss;obtain⟨r,hr⟩:∃r,r=gO (l.map (·.name)):=⟨_,rfl⟩
   rw[←hr] at HA;have HR:=zh hr;clear hr
   by_cases h4:l.length≤4
   · have g:(l.length:Int)≤4:=by omega
     have HD:=zh (show decide (l.length≤4)=true by simpa using h4);clear h4;go_wp2_with (go_at_call 202;refine HA.mono ?_;clear HA;rintro e w1 ⟨rfl,aP⟩);go_ret;exact⟨by rw[HX.out,HD.out,←HR.out];simp,hb.trans (aa aP hb.size)⟩
   · have g:¬(l.length:Int)≤4:=by omega
     have HD:=zh (show decide (l.length≤4)=false by simpa using h4);clear h4;go_wp2_with fail;go_ret;exact⟨by rw[HX.out,HD.out];simp,hb⟩
  case pos=>
   obtain⟨x,hkx⟩:∃x,l[i]? =some x:=⟨_,List.getElem?_eq_getElem hlt⟩
   obtain⟨b1,o1,av,sv,rfl,_,hxl,ha,hs,d0,d1,d2,d3,d4⟩:=hv.at hkx;have d0:=Below.keep hb d0;have d1:=Below.keep hb d1;have d2:=Below.keep hb d2;have d3:=Below.keep hb d3;have d4:=Below.keep hb d4;have hd:=hA.out;rw[eX hkx,List.all_cons] at hd;have HT:=zh (show aA ((l.take i).map (·.name))++[str x.name]=aA ((l.take (i+1)).map (·.name)) by rw[List.take_add_one,hkx];simp[aA]);clear hA hkx;have HS:=λW (hW:Below w.heap.size w W)=>xx (.agg #[.bool x.sig.iter,av,str x.sig.res,sv]) x.sig true W (ht.below hW zr) ⟨av,sv,rfl,hxl.2,ha.below hW zr,hs.below hW zr⟩
   obtain⟨pa,ca,rfl,_⟩:=ha.shape;obtain⟨ps,cs,rfl,_⟩:=hs.shape;have R6:=(hb.alloc hb.size (.cells #[str x.name,.bool x.sig.iter,.slice pa x.sig.args.length ca,str x.sig.res,.slice ps x.sig.sigs.length cs] 179)).alloc (by have:=hb.size;simp;omega) (.cells #[str x.name] 9);have hg:=aK (.cells #[str x.name] 9) (heap_alloc_new wr (.cells #[str x.name,.bool x.sig.iter,.slice pa x.sig.args.length ca,str x.sig.res,.slice ps x.sig.sigs.length cs] 179));have hrow:(Value.slice pr i cr).ownBlock≠some wr.heap.size:=λe=>by have:=aW ho e;omega
   have hlen:((l.take i).map (·.name)).length=i:=by rw[List.length_map,List.length_take];omega
   have hbase:w.heap.size≤wr.heap.size:=hb.size;have QW:=vq (w:=wr.alloc (.cells #[str x.name,.bool x.sig.iter,.slice pa x.sig.args.length ca,str x.sig.res,.slice ps x.sig.sigs.length cs] 179)) (n:=wr.heap.size+1) (by simp) (str x.name) 9;have HO:=(ho.alloc (.cells #[str x.name,.bool x.sig.iter,.slice pa x.sig.args.length ca,str x.sig.res,.slice ps x.sig.sigs.length cs] 179)).alloc (.cells #[str x.name] 9);clear hlen ha hs;rcases hn2:eB x.sig true with _|_
   · rw[hn2] at HS hd
     have HX:=zh hd;clear hd hn2;go_wp2_with (first
      | (at_builtin;refine wpList_append_own _ rfl _ _ 31 rfl w.heap.size 9 i0 _ 1 16 dg kN hz0 hz1 hz2 rfl (by decide) _ _ _ rfl HO ⟨wr.heap.size+1,0,none⟩ 1 1 [str x.name] rfl rfl QW (by intro u hu;rw[List.mem_singleton.1 hu];rfl) (by unfold maxLen;omega) (by omega) (by simp;omega) ?_;intro v' w3 ew hgr _;have hg:=lM hgr hg hrow;have bx:=(cH hg).1;have hW:=R6.grown hgr (by simp;omega) (λk e=>(ho.lt k e).1))
      | (go_at_call 177;refine(HS _ hW).mono ?_;clear HS;rintro e w4 ⟨rfl,hb4⟩))
     go_ret;exact⟨by rw[HX.out];rfl,hW.trans (aa hb4 hW.size)⟩
   · rw[hn2] at HS hd
     have HX:=zh hd;clear hd hn2;go_wp2_with (first
      | (at_builtin;refine wpList_append_own _ rfl _ _ 31 rfl w.heap.size 9 i0 _ 1 16 dg kN hz0 hz1 hz2 rfl (by decide) _ _ _ rfl HO ⟨wr.heap.size+1,0,none⟩ 1 1 [str x.name] rfl rfl QW (by intro u hu;rw[List.mem_singleton.1 hu];rfl) (by unfold maxLen;omega) (by omega) (by simp;omega) ?_;intro v' w3 ew hgr _;have hg:=lM hgr hg hrow;have bx:=(cH hg).1;have hW:=R6.grown hgr (by simp;omega) (λk e=>(ho.lt k e).1))
      | (go_at_call 177;refine(HS _ hW).mono ?_;clear HS;rintro e w4 ⟨rfl,hb4⟩))
     rw[HT.out] at ew;refine⟨⟨i+1,by omega,by go_num,aT ew hb4 zr,hW.trans (aa hb4 hW.size),?_⟩,by simp only[intOf];omega⟩;have:=HX.out
     simpa[Hid] using this
theorem bN.one_cell {D:Nat→Prop} {w:World}:∀{l:List dw} {cs:List Value},bN D w cs l→∀u∈cs,u.oneCell'=true
 | [],_,h=>by rw[show _=_ from h];intro u hu;cases hu
 | x::l,_,⟨a,s,r,h1,_,h2,h3,h4⟩=>by
  subst h1;obtain⟨p1,c1,rfl,_⟩:=h2;obtain⟨p2,c2,rfl,_⟩:=h3;intro u hu;simp only[List.mem_cons] at hu;rcases hu with rfl|rfl|rfl|rfl|rfl|hu
  · rfl
  · rfl
  · rfl
  · rfl
  · rfl
  · exact bN.one_cell h4 u hu
theorem bN.fresh {D:Nat→Prop} {w:World}:∀{l:List dw} {cs:List Value},bN D w cs l→bN (λb=>D b∧b<w.heap.size) w cs l
 | [],_,h=>h
 | _::_,_,⟨a,s,r,h1,h0,h2,h3,h4⟩=>⟨a,s,r,h1,h0,h2.fresh,h3.fresh,bN.fresh h4⟩
theorem bN.agree {D:Nat→Prop} {w w':World} (hk:∀b,D b→b<w.heap.size→w'.heap[b]? =w.heap[b]?):∀{l:List dw} {cs:List Value},bN D w cs l→bN D w' cs l
 | [],_,h=>h
 | _::_,_,⟨a,s,r,h1,h0,h2,h3,h4⟩=>⟨a,s,r,h1,h0,h2.agree hk,h3.agree hk,bN.agree hk h4⟩
theorem bN.length {D:Nat→Prop} {w:World}:∀{l:List dw} {cs:List Value},bN D w cs l→cs.length=l.length * 5
 | [],_,h=>by rw[show _=_ from h];rfl
 | _::_,_,⟨a,s,r,h1,_,_,_,h4⟩=>by rw[h1];simp only[List.length_cons,bN.length h4];omega
end Go.Proofs.YtemjidmkolfgnaaGreatDoor
