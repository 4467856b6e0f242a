/-
  Lemmas for the statement: contract: of the package face: Check. Conditions: bounds of lengths; the variable strings.asciiSpace.
-/
import Derived.Test.YtakgjcfkdemipaaGreatDoorZBn
import Derived.Test.YtakgjcfkdemipaaGreatDoorZB15
import Derived.Test.YtakgjcfkdemipaaGreatDoorZB18
set_option maxHeartbeats 12800000
namespace Go.Proofs.YtakgjcfkdemipaaGreatDoor
section
open Go.RowKit
def kM:Option (List UInt8)→List (List UInt8)→Bool
 | _,[]=>true
 | p,a::l=>isName a&&(p.all λq=>Op.bytesLess q a)&&kM (some a) l
theorem sV:∀(l:List (List UInt8)) (a:List UInt8),eY (a::l)=(isName a&&kM (some a) l)
 | [],a=>by simp[eY,kM]
 | b::l,a=>by
  rw[eY,sV l b,kM];simp only[Option.all_some];cases isName a<;>cases isName b<;>cases Op.bytesLess a b<;>simp
theorem om (l:List (List UInt8)):eY l=kM none l:=by
 cases l with
 | nil=>rfl
 | cons a l=>rw[sV,kM];simp
def fV (l:List (List UInt8)):Nat→Option (List UInt8)
 | 0=>none
 | i+1=>l[i]?
set_option maxRecDepth 4000 in
theorem qt {D : Nat → Prop} (l : List (List UInt8)) (v : Value) (w : World) (ht : dW w) (hv : SS D w v l) :
 Calls Tryz.prog 138 #[v] w λe w'=>e=.returned (.bool (eY l))∧Below w.heap.size w w':=by
 obtain⟨p,c,rfl,_,hm,hle⟩:=hv.shape
 unfold maxLen at hm
 have HL:=zh hle
 clear hle
 go_enter Tryz.func138,Tryz.ntmps138
 go_wp2_with fail
 go_loopw [7] (λy wx=>∃i:Nat,i≤l.length∧y=.int .i64 i∧Below w.heap.size w wx∧Hid (eY l=kM (fV l i) (l.drop i))) (λy _=>l.length - (intOf y).toNat)
 case atStart=>exact⟨0,Nat.zero_le _,by go_num,zb _,om l⟩
 case round =>
  obtain⟨i,hi,rfl,hb,hA⟩:=hrel
  by_cases hlt:i<l.length
  case neg=>
   have HX:=zh (show eY l=true by rw[hA.out,List.drop_eq_nil_of_le (by omega)];rfl);clear hA;go_wp2_with fail;go_ret;exact⟨bI HX.out.symm,hb⟩
  case pos=>
   obtain⟨x,hkx⟩:∃x,l[i]? =some x:=⟨_,List.getElem?_eq_getElem hlt⟩
   have sG:=hv.below hb zr;obtain⟨b1,o1,rfl,_,c1⟩:=sG.at hkx;have HN:=cC x wr (ht.below hb zr) (HL.out x (List.mem_of_getElem? hkx));have hd:=hA.out;rw[bp hkx,kM] at hd;clear hA;rcases hn:isName x with _|_
   · rw[hn] at HN hd
     have HX:=zh hd;clear hd hn hkx;go_wp2_with (go_at_call 88;refine HN.mono ?_;clear HN;rintro e w1 ⟨rfl,au⟩);go_ret;exact⟨by rw[HX.out];rfl,hb.trans (af au hb.size)⟩
   · rw [hn] at HN hd
     cases i with
     | zero=>
      have HX:=zh (show eY l=kM (fV l 1) (l.drop 1) by rw[hd];simp[fV,hkx]);rw[Nat.add_zero] at c1;clear hd hn hkx;go_wp2_with (go_at_call 88;refine HN.mono ?_;clear HN;rintro e w1 ⟨rfl,au⟩);exact⟨⟨1,by omega,by go_num,hb.trans (af au hb.size),HX⟩,by simp only[intOf];omega⟩
     | succ j=>
      have hj:j<l.length:=by omega
      obtain⟨y,j8⟩:∃y,l[j]? =some y:=⟨_,List.getElem?_eq_getElem hj⟩
      obtain⟨b2,o2,e2,_,c2⟩:=sG.at j8;injection e2 with e2;injection e2 with e2 e3;subst e2 e3;rcases hl:Op.bytesLess y x with _|_
      · have HX:=zh (show eY l=false by rw[hd,show fV l (j+1)=some y from j8];simp[hl])
        clear hd hn hkx j8;go_wp2_with (go_at_call 88;refine HN.mono ?_;clear HN;rintro e w1 ⟨rfl,au⟩;have c2:=Below.keep au c2);go_ret;exact⟨by rw[HX.out];rfl,hb.trans (af au hb.size)⟩
      · have HX:=zh (show eY l=kM (fV l (j+2)) (l.drop (j+2)) by rw[hd,show fV l (j+1)=some y from j8];simp[hl,fV,hkx])
        clear hd hn hkx j8;go_wp2_with (go_at_call 88;refine HN.mono ?_;clear HN;rintro e w1 ⟨rfl,au⟩;have c2:=Below.keep au c2);exact⟨⟨j+2,by omega,by go_num,hb.trans (af au hb.size),HX⟩,by simp only[intOf];omega⟩
def eS (o:Bool) (t:List UInt8):Bool:=decide ((aq t).1≠0)||(eM t&& !o)
set_option maxRecDepth 4000 in
theorem CN (t:List UInt8) (o:Bool) (ob:Nat) (w:World) (ht:dW w) (hl:t.length≤maxLen) (hc:w.cell? ⟨ob,0,none⟩=some (.bool o)):
 Calls Tryz.prog 150 #[str t,.pointer (some ⟨ob,0,none⟩)] w λe w'=>e=.returned (.bool (eS o t))∧Below w.heap.size w w':=by
 have HO:=lY t hl w ht
 unfold eS
 have h0:(aq t).1≠0→eM t=false:=λh=>by unfold eM;rw[if_neg h]
 generalize (aq t).1=C at *
 generalize eM t=O at *
 by_cases hC:C=0
 · subst hC
   cases O<;>cases o
   all_goals
    go_enter Tryz.func150,Tryz.ntmps150;go_wp2_with (go_at_call 117;refine HO.mono ?_;clear HO;rintro e w1 ⟨rfl,au⟩;have hc:=Below.keep au hc);go_ret;exact⟨rfl,au⟩
 · obtain⟨g1,g2⟩:=bK hC
   obtain rfl:=h0 hC;have HX:=zh (show decide (C≠0)=true by simpa using hC);clear hC h0;go_enter Tryz.func150,Tryz.ntmps150;go_wp2_with (go_at_call 117;refine HO.mono ?_;clear HO;rintro e w1 ⟨rfl,au⟩;have hc:=Below.keep au hc);go_ret;exact⟨by rw[HX.out];rfl,au⟩
def pU {α:Type} (p:α→Bool):List α→Nat→Int
 | [],_=> -1
 | x::r,k=>if p x then k else pU p r (k+1)
theorem vg {α:Type} (p:α→Bool):∀(l:List α) (k:Nat),(0≤pU p l k)↔l.any p=true
 | [],k=>by simp[pU]
 | x::r,k=>by
  rw[pU,List.any_cons];rcases h:p x with _|_
  · simp only[Bool.false_eq_true,if_false,Bool.false_or]
    exact vg p r (k+1)
  · simp
set_option maxRecDepth 4000 in
theorem zH {D:Nat→Prop} (l:List (List UInt8)) (v:Value) (o:Bool) (ob:Nat) (w:World) (ht:dW w) (hv:SS D w v l) (hc:w.cell? ⟨ob,0,none⟩=some (.bool o)):
 Calls Tryz.prog 209 #[v,.func (.func 150) #[] #[.pointer (some ⟨ob,0,none⟩)]] w λe w'=>e=.returned (.int .i64 (pU (eS o) l 0))∧Below w.heap.size w w':=by
 obtain⟨p,c,rfl,_,hm,hle⟩:=hv.shape
 unfold maxLen at hm
 have HL:=zh hle
 clear hle
 go_enter Tryz.func209,Tryz.ntmps209
 go_wp2_with fail
 go_loopw [8] (λa wr=>∃i:Nat,i≤l.length∧a=.int .i64 i∧Below w.heap.size w wr∧Hid (pU (eS o) l 0=pU (eS o) (l.drop i) i)) (λa _=>l.length - (intOf a).toNat)
 case atStart=>exact⟨0,Nat.zero_le _,rfl,zb _,rfl⟩
 case round=>
  obtain⟨i,hi,rfl,hb,hA⟩:=hrel
  by_cases hlt:i<l.length
  case neg=>
   have HX:=zh (show pU (eS o) l 0= -1 by rw[hA.out,List.drop_eq_nil_of_le (by omega)];rfl);clear hA;go_wp2_with fail;go_ret;exact⟨by rw[HX.out];rfl,hb⟩
  case pos=>
   obtain⟨x,hkx⟩:∃x,l[i]? =some x:=⟨_,List.getElem?_eq_getElem hlt⟩
   obtain⟨b1,o1,rfl,_,c1⟩:=(hv.below hb zr).at hkx;have HN:=CN x o ob wr (ht.below hb zr) (HL.out x (List.mem_of_getElem? hkx)) (Below.keep hb hc);have hd:=hA.out;rw[bp hkx,pU] at hd;clear hA hkx;rcases hn:eS o x with _|_
   · rw[hn] at HN hd
     have HX:=zh (hd.trans (if_neg (by simp)));clear hd hn;go_wp2_with (go_at_call 150;refine HN.mono ?_;clear HN;rintro e w1 ⟨rfl,au⟩);exact⟨⟨i+1,by omega,by go_num,hb.trans (af au hb.size),HX⟩,by simp only[intOf];omega⟩
   · rw[hn] at HN hd
     have HX:=zh (hd.trans (if_pos rfl));clear hd hn;go_wp2_with (go_at_call 150;refine HN.mono ?_;clear HN;rintro e w1 ⟨rfl,au⟩);go_ret;exact⟨by rw[HX.out];rfl,hb.trans (af au hb.size)⟩
set_option maxRecDepth 4000 in
theorem mC {D:Nat→Prop} (l:List (List UInt8)) (v:Value) (o:Bool) (ob:Nat) (w:World) (ht:dW w) (hv:SS D w v l) (hc:w.cell? ⟨ob,0,none⟩=some (.bool o)):
 Calls Tryz.prog 149 #[v,.func (.func 150) #[] #[.pointer (some ⟨ob,0,none⟩)]] w λe w'=>e=.returned (.bool (l.any (eS o)))∧Below w.heap.size w w':=by
 have HI:=zH l v o ob w ht hv hc
 have HB:=zh (vg (eS o) l 0)
 obtain⟨p,c,rfl,_⟩:=hv.shape
 clear hv
 generalize pU (eS o) l 0=i at HI HB
 rcases hq:l.any (eS o) with _|_
 · have hn:i<0:=by have:=HB.out;rw[hq] at this;simp at this;exact this
   clear hq;go_enter Tryz.func149,Tryz.ntmps149;go_wp2_with (go_at_call 209;refine HI.mono ?_;rintro e w1 ⟨rfl,au⟩);go_ret;exact⟨by first|(simp;done)|(simp;omega),au⟩
 · have hn:0≤i:=by have:=HB.out;rw[hq] at this;simpa using this
   clear hq;go_enter Tryz.func149,Tryz.ntmps149;go_wp2_with (go_at_call 209;refine HI.mono ?_;rintro e w1 ⟨rfl,au⟩);go_ret;exact⟨by first|(simp;done)|(simp;omega),au⟩
set_option maxRecDepth 4000 in
theorem D9 {D:Nat→Prop} (l:List (List UInt8)) (s:List UInt8) (v:Value) (w:World) (hv:SS D w v l):
 Calls Tryz.prog 111 #[v,str s] w λe w'=>e=.returned (.int .i64 (pU (λx=>s==x) l 0))∧Below w.heap.size w w':=by
 obtain⟨p,c,rfl,_,hm,_⟩:=hv.shape
 unfold maxLen at hm
 go_enter Tryz.func111,Tryz.ntmps111
 go_wp2_with fail
 go_loopw [8] (λa wr=>∃i:Nat,i≤l.length∧a=.int .i64 i∧Below w.heap.size w wr∧Hid (pU (λx=>s==x) l 0=pU (λx=>s==x) (l.drop i) i)) (λa _=>l.length - (intOf a).toNat)
 case atStart=>exact⟨0,Nat.zero_le _,rfl,zb _,rfl⟩
 case round=>
  obtain⟨i,hi,rfl,hb,hA⟩:=hrel
  by_cases hlt:i<l.length
  case neg=>
   have HX:=zh (show pU (λx=>s==x) l 0= -1 by rw[hA.out,List.drop_eq_nil_of_le (by omega)];rfl);clear hA;go_wp2_with fail;go_ret;exact⟨by rw[HX.out];rfl,hb⟩
  case pos=>
   obtain⟨x,hkx⟩:∃x,l[i]? =some x:=⟨_,List.getElem?_eq_getElem hlt⟩
   obtain⟨b1,o1,rfl,_,c1⟩:=(hv.below hb zr).at hkx;have hd:=hA.out;rw[bp hkx,pU] at hd;clear hA hkx;rcases hn:(s==x) with _|_
   · simp only[hn] at hd
     have HX:=zh (hd.trans (if_neg (by simp)));clear hd;go_wp2_with fail;exact⟨⟨i+1,by omega,by go_num,hb,HX⟩,by simp only[intOf];omega⟩
   · simp only[hn] at hd
     have HX:=zh (hd.trans (if_pos trivial));clear hd;go_wp2_with fail;go_ret;exact⟨by rw[HX.out];rfl,hb⟩
set_option maxRecDepth 4000 in
theorem wH {D:Nat→Prop} (l:List (List UInt8)) (s:List UInt8) (v:Value) (w:World) (hv:SS D w v l):
 Calls Tryz.prog 151 #[v,str s] w λe w'=>e=.returned (.bool (l.any λx=>s==x))∧Below w.heap.size w w':=by
 have HI:=D9 l s v w hv
 have HB:=zh (vg (λx=>s==x) l 0)
 obtain⟨p,c,rfl,_⟩:=hv.shape
 clear hv
 generalize pU (λx=>s==x) l 0=i at HI HB
 rcases hq:l.any (λx=>s==x) with _|_
 · have hn:i<0:=by have:=HB.out;rw[hq] at this;simp at this;exact this
   clear hq;go_enter Tryz.func151,Tryz.ntmps151;go_wp2_with (go_at_call 111;refine HI.mono ?_;rintro e w1 ⟨rfl,au⟩);go_ret;exact⟨by first|(simp;done)|(simp;omega),au⟩
 · have hn:0≤i:=by have:=HB.out;rw[hq] at this;simpa using this
   clear hq;go_enter Tryz.func151,Tryz.ntmps151;go_wp2_with (go_at_call 111;refine HI.mono ?_;rintro e w1 ⟨rfl,au⟩);go_ret;exact⟨by first|(simp;done)|(simp;omega),au⟩
theorem yA (s:bP) (o:Bool):cZ s o=(decide (s.args.length≤6)&&(decide (s.sigs.length≤6)&&(eY s.sigs&&(!(s.iter&&decide (s.res=[]))&& !(aQ s).any (eS o))))):=by
 unfold cZ
 have:(aQ s).all (λt=>decide ((aq t).1=0)&&(!eM t||o))= !(aQ s).any (eS o):=by
  induction aQ s with
  | nil=>rfl
  | cons t l ih=>
   rw[List.all_cons,List.any_cons,ih];unfold eS
   by_cases h:(aq t).1=0<;>cases eM t<;>cases o<;>simp[h]
 rw[this]
 simp only[Bool.and_assoc]
theorem yK (s:bP) (o:Bool) (h:(aQ s).any (eS o)=false):s.args.any (λx=>([]:List UInt8)==x)=false:=by
 rw[List.any_eq_false] at h ⊢
 intro x hx he
 have h0:x=[]:=by
  have:([]:List UInt8)=x:=by simpa using he
  exact this.symm
 subst h0
 refine h [] ?_ ?_
 · unfold aQ
   exact List.mem_append_left _ hx
 · unfold eS
   rw[show(aq []).1=4 from by decide+kernel]
   rfl
theorem Dn {w:World} {b:Nat} {a0:Value} {t:TypeId} (h:w.heap[b]? =some (.cells #[a0] t (0,0))):w.cell? ⟨b,0,none⟩=some a0∧w.frozen? ⟨b,0,none⟩=false:=⟨(ak h 0).trans rfl,az h 0⟩
set_option maxRecDepth 8000 in
theorem yB {D:Nat→Prop} (x:Value) (s:bP) (o:Bool) (w:World) (ht:dW w) (hx:aT D w x s):
 Calls Tryz.prog 89 #[x,.bool o] w λe w'=>e=.returned (.bool (cZ s o))∧Below w.heap.size w w':=by
 rw[yA]
 have Pn:=yK s o
 have HT:=λW x (h:aT D W x s) (h1:s.args.length≤100000)=>oJ x s W h h1
 generalize aQ s=T at *
 obtain⟨av,sv,rfl,hr,ha,hs⟩:=hx
 have HA:=λW (hW:Below w.heap.size w W)=>qt _ _ W (ht.below hW zr) (hs.below hW zr)
 have HS:=λW (hW:Below w.heap.size w W)=>(⟨av,sv,rfl,hr,ha.below hW zr,hs.below hW zr⟩:aT D W (.agg #[.bool s.iter,av,str s.res,sv]) s)
 have HC:=λW (hW:Below w.heap.size w W)=>wH s.args [] av W (ha.below hW zr)
 obtain⟨p1,c1,rfl,_⟩:=ha.shape
 obtain⟨p2,c2,rfl,_⟩:=hs.shape
 obtain⟨it,ar,re,sg⟩:=s
 dsimp only at *
 have hA:=((zb w).alloc zr (.cells #[.bool it,.slice p1 ar.length c1,str re,.slice p2 sg.length c2] 36))
 have hB:=hA.alloc (by simp) (.cells #[.bool o] 4)
 have hg:=aD (.cells #[.bool o] 4) (heap_alloc_new w (.cells #[.bool it,.slice p1 ar.length c1,str re,.slice p2 sg.length c2] 36))
 have hg2:=cI (w:=w.alloc (.cells #[.bool it,.slice p1 ar.length c1,str re,.slice p2 sg.length c2] 36)) (n:=w.heap.size+1) (by simp) #[.bool o] 4
 clear ha hs
 by_cases h1:ar.length≤6
 case neg=>
  have g1:(6:Int)<(ar.length:Int):=by omega
  have HX:=zh (show decide (ar.length≤6)=false by simpa using h1);clear h1;go_enter Tryz.func89,Tryz.ntmps89;go_wp2_with fail;go_ret;exact⟨by rw[HX.out];rfl,hB⟩
 case pos=>
 have g1:¬(6:Int)<(ar.length:Int):=by omega
 have GI:=zh (show decide (ar.length≤6)=true by simpa using h1)
 have h1':Hid (ar.length≤100000):=show ar.length≤100000 by omega
 clear h1
 by_cases h2:sg.length≤6
 case neg=>
  have g2:(6:Int)<(sg.length:Int):=by omega
  have HX:=zh (show decide (sg.length≤6)=false by simpa using h2);clear h2;go_enter Tryz.func89,Tryz.ntmps89;go_wp2_with fail;go_ret;exact⟨by rw[HX.out];simp,hB⟩
 case pos=>
 have g2:¬(6:Int)<(sg.length:Int):=by omega
 have AQ:=zh (show decide (sg.length≤6)=true by simpa using h2)
 clear h2
 have HA:=HA _ hB
 rcases h3:eY sg with _|_
 · rw[h3] at HA
   clear h3;go_enter Tryz.func89,Tryz.ntmps89;go_wp2_with (go_at_call 138;refine HA.mono ?_;clear HA;rintro e w1 ⟨rfl,au⟩);go_ret;exact⟨by simp,hB.trans (af au (by simp;omega))⟩
 rw[h3] at HA
 clear h3
 by_cases h4:it=true∧re=[]
 · obtain⟨rfl,rfl⟩:=h4
   go_enter Tryz.func89,Tryz.ntmps89;go_wp2_with (go_at_call 138;refine HA.mono ?_;clear HA;rintro e w1 ⟨rfl,au⟩;have hg:=ah hg au;have bx:=(aN hg).1);go_ret;exact⟨by simp,hB.trans (af au (by simp;omega))⟩
 have LP:=zh (show(!(it&&decide (re=[])))=true by
  cases it
  · rfl
  · have:re≠[]:=λe=>h4 ⟨rfl,e⟩
    simpa using this)
 have h5:it=false∨(it=true∧re.isEmpty=false):=by
  cases it
  · exact .inl rfl
  · exact .inr ⟨rfl,by simpa using λe=>h4 ⟨rfl,e⟩⟩
 clear h4
 have Tz:=HS
 rcases h6:T.any (eS o) with _|_
 · have QE:=zh (Pn h6)
   clear Pn;have Tx:=λW hW=>(HC W hW)
   rcases h5 with rfl|⟨rfl,h5⟩
   all_goals
    go_enter Tryz.func89,Tryz.ntmps89;go_wp2_with (first
     | (go_at_call 138;refine HA.mono ?_;clear HA;rintro e w1 ⟨rfl,au⟩;have hB:=hB.trans (af au (by simp;omega));have hg:=ah hg au;have hg2:=ah hg2 au;have bx:=(aN hg).1)
     | (go_at_call 92;refine(HT _ _ (HS _ hB) h1'.out).mono ?_;clear HT;rintro e w2 ⟨v2,rfl,oc,aC⟩;have hB:=hB.trans (af aC hB.size);have hg:=ah hg aC;have hg2:=ah hg2 aC;have bx:=(aN hg).1;obtain⟨p3,c3,rfl,_⟩:=oc.shape)
     | (go_at_call 149;refine(mC _ _ o (w.heap.size+1) _ (ht.below hB zr) oc (Dn hg2).1).mono ?_;rw[h6];rintro e w3 ⟨rfl,aH⟩;have hB:=hB.trans (af aH hB.size);have hg:=ah hg aH;have bx:=(aN hg).1)
     | (go_at_call 151;refine(HC _ hB).mono ?_;rw[QE.out];rintro e w4 ⟨rfl,hb4⟩;have hB:=hB.trans (af hb4 hB.size)))
    go_ret;exact⟨by rw[GI.out,AQ.out,LP.out];rfl,hB⟩
 · rcases h5 with rfl|⟨rfl,h5⟩
   all_goals
    go_enter Tryz.func89,Tryz.ntmps89;go_wp2_with (first
     | (go_at_call 138;refine HA.mono ?_;clear HA;rintro e w1 ⟨rfl,au⟩;have hB:=hB.trans (af au (by simp;omega));have hg:=ah hg au;have hg2:=ah hg2 au;have bx:=(aN hg).1)
     | (go_at_call 92;refine(HT _ _ (HS _ hB) h1'.out).mono ?_;clear HT;rintro e w2 ⟨v2,rfl,oc,aC⟩;have hB:=hB.trans (af aC hB.size);have hg:=ah hg aC;have hg2:=ah hg2 aC;have bx:=(aN hg).1;obtain⟨p3,c3,rfl,_⟩:=oc.shape)
     | (go_at_call 149;refine(mC _ _ o (w.heap.size+1) _ (ht.below hB zr) oc (Dn hg2).1).mono ?_;rw[h6];rintro e w3 ⟨rfl,aH⟩;have hB:=hB.trans (af aH hB.size);have hg:=ah hg aH;have bx:=(aN hg).1))
    go_ret;exact⟨by first|rfl|simp,hB⟩
theorem oQ {w:World} {n:Nat} (hn:w.heap.size=n) (x:Value) (t:TypeId):∀j u,[x][j]? =some u→(w.alloc (.cells #[x] t)).cell? ((⟨n,0,none⟩:Addr).add j)=some u:=by
 subst hn
 exact cell_one_new _ _ _
theorem eO {w w':World} {row:Option Nat} (h:w.grownBy w' row) {b:Nat} {o:Obj} (hb:w.heap[b]? =some o) (hn:row≠some b):w'.heap[b]? =some o:=
 (h.block b (bA hb) (λe=>hn e.symm)).trans hb
theorem iU (l:List aL):aU l=(l.all (λn=>cZ n.sig true)&&(decide (l.length≤4)&&eY (l.map (·.name)))):=by unfold aU;rw[Bool.and_assoc]
set_option maxRecDepth 8000 in
theorem kj {D:Nat→Prop} (l:List aL) (v:Value) (w:World) (ht:dW w) (hv:aY D w v l) (hn:l.length≤100000):
 Calls Tryz.prog 78 #[v] w λe w'=>e=.returned (.bool (aU l))∧Below w.heap.size w w':=by
 obtain⟨i0,gw,hz0,hz1,hz2⟩:=bY iM
 obtain⟨p,c,rfl,_,hm,hle⟩:=hv.shape
 unfold maxLen at hm
 have HL:=zh hle
 rw[iU]
 clear hle
 go_enter Tryz.func78,Tryz.ntmps78
 go_wp2_with fail
 go_loopw [3,8] (λa y wx=>∃i:Nat,i≤l.length∧y=.int .i64 i∧wx.ownsRow w.heap.size 9 1 a i (aB ((l.take i).map (·.name)))∧Below w.heap.size w wx∧Hid (l.all (λn=>cZ n.sig true)=(l.drop i).all (λn=>cZ n.sig true))) (λ_ y _=>l.length - (intOf y).toNat)
 case atStart=>exact⟨0,Nat.zero_le _,by go_num,World.ownsRow_nil _ _ _ _,zb _,rfl⟩
 case round =>
  obtain⟨i,hi,rfl,ho,hb,hA⟩:=hrel;obtain⟨pr,cr,rfl⟩:=bu ho
  by_cases hlt:i<l.length
  case neg=>
   have hie:i=l.length:=by omega
   subst hie;rw[List.take_length] at ho;have HX:=zh (show l.all (λn=>cZ n.sig true)=true by rw[hA.out,List.drop_eq_nil_of_le zr];rfl);clear hA;have hN:(l.map (·.name)).length=l.length:=by simp
   have hss:SS (λb=>w.heap.size≤b) wr (.slice pr l.length cr) (l.map (·.name)):=SS.bH (by rw[hN];exact ho) (by
    intro s hs;obtain⟨x,hx,rfl⟩:=List.mem_map.1 hs;exact(HL.out x hx).1) (λb hb=>(ho.lt b hb).1)
   have HA:=qt _ _ wr (ht.below hb zr) hss;obtain⟨r,hr⟩:∃r,r=eY (l.map (·.name)):=⟨_,rfl⟩
   rw[←hr] at HA;have HR:=zh hr;clear hr
   by_cases h4:l.length≤4
   · have g:(l.length:Int)≤4:=by omega
     have HD:=zh (show decide (l.length≤4)=true by simpa using h4);clear h4;go_wp2_with (go_at_call 138;refine HA.mono ?_;clear HA;rintro e w1 ⟨rfl,au⟩);go_ret;exact⟨by rw[HX.out,HD.out,←HR.out];simp,hb.trans (af au hb.size)⟩
   · have g:¬(l.length:Int)≤4:=by omega
     have HD:=zh (show decide (l.length≤4)=false by simpa using h4);clear h4;go_wp2_with fail;go_ret;exact⟨by rw[HX.out,HD.out];simp,hb⟩
  case pos=>
   obtain⟨x,hkx⟩:∃x,l[i]? =some x:=⟨_,List.getElem?_eq_getElem hlt⟩
   obtain⟨b1,o1,av,sv,rfl,_,hxl,ha,hs,d0,d1,d2,d3,d4⟩:=hv.at hkx;have d0:=Below.keep hb d0;have d1:=Below.keep hb d1;have d2:=Below.keep hb d2;have d3:=Below.keep hb d3;have d4:=Below.keep hb d4;have hd:=hA.out;rw[bp hkx,List.all_cons] at hd;have HT:=zh (show aB ((l.take i).map (·.name))++[str x.name]=aB ((l.take (i+1)).map (·.name)) by rw[List.take_add_one,hkx];simp[aB]);clear hA hkx;have HS:=λW (hW:Below w.heap.size w W)=>yB (.agg #[.bool x.sig.iter,av,str x.sig.res,sv]) x.sig true W (ht.below hW zr) ⟨av,sv,rfl,hxl.2,ha.below hW zr,hs.below hW zr⟩
   obtain⟨pa,ca,rfl,_⟩:=ha.shape;obtain⟨ps,cs,rfl,_⟩:=hs.shape;have yU:=(hb.alloc hb.size (.cells #[str x.name,.bool x.sig.iter,.slice pa x.sig.args.length ca,str x.sig.res,.slice ps x.sig.sigs.length cs] 79)).alloc (by have:=hb.size;simp;omega) (.cells #[str x.name] 9);have hg:=aD (.cells #[str x.name] 9) (heap_alloc_new wr (.cells #[str x.name,.bool x.sig.iter,.slice pa x.sig.args.length ca,str x.sig.res,.slice ps x.sig.sigs.length cs] 79));have hrow:(Value.slice pr i cr).ownBlock≠some wr.heap.size:=λe=>by have:=aK ho e;omega
   have hlen:((l.take i).map (·.name)).length=i:=by rw[List.length_map,List.length_take];omega
   have hbase:w.heap.size≤wr.heap.size:=hb.size;have OM:=oQ (w:=wr.alloc (.cells #[str x.name,.bool x.sig.iter,.slice pa x.sig.args.length ca,str x.sig.res,.slice ps x.sig.sigs.length cs] 79)) (n:=wr.heap.size+1) (by simp) (str x.name) 9;have HO:=(ho.alloc (.cells #[str x.name,.bool x.sig.iter,.slice pa x.sig.args.length ca,str x.sig.res,.slice ps x.sig.sigs.length cs] 79)).alloc (.cells #[str x.name] 9);clear hlen ha hs;rcases hn2:cZ x.sig true with _|_
   · rw[hn2] at HS hd
     have HX:=zh hd;clear hd hn2;go_wp2_with (first
      | (at_builtin;refine wpList_append_own _ rfl _ _ 34 rfl w.heap.size 9 i0 _ 1 16 eV gw hz0 hz1 hz2 rfl (by decide) _ _ _ rfl HO ⟨wr.heap.size+1,0,none⟩ 1 1 [str x.name] rfl rfl OM (by intro u hu;rw[List.mem_singleton.1 hu];rfl) (by unfold maxLen;omega) (by omega) (by simp;omega) ?_;intro v' w3 bB hgr _;have hg:=eO hgr hg hrow;have bx:=(bz hg).1;have hW:=yU.grown hgr (by simp;omega) (λk e=>(ho.lt k e).1))
      | (go_at_call 89;refine(HS _ hW).mono ?_;clear HS;rintro e w4 ⟨rfl,hb4⟩))
     go_ret;exact⟨by rw[HX.out];rfl,hW.trans (af hb4 hW.size)⟩
   · rw[hn2] at HS hd
     have HX:=zh hd;clear hd hn2;go_wp2_with (first
      | (at_builtin;refine wpList_append_own _ rfl _ _ 34 rfl w.heap.size 9 i0 _ 1 16 eV gw hz0 hz1 hz2 rfl (by decide) _ _ _ rfl HO ⟨wr.heap.size+1,0,none⟩ 1 1 [str x.name] rfl rfl OM (by intro u hu;rw[List.mem_singleton.1 hu];rfl) (by unfold maxLen;omega) (by omega) (by simp;omega) ?_;intro v' w3 bB hgr _;have hg:=eO hgr hg hrow;have bx:=(bz hg).1;have hW:=yU.grown hgr (by simp;omega) (λk e=>(ho.lt k e).1))
      | (go_at_call 89;refine(HS _ hW).mono ?_;clear HS;rintro e w4 ⟨rfl,hb4⟩))
     rw[HT.out] at bB;refine⟨⟨i+1,by omega,by go_num,ay bB hb4 zr,hW.trans (af hb4 hW.size),?_⟩,by simp only[intOf];omega⟩;have:=HX.out
     simpa[Hid] using this
def cQ (B:Nat) (w:World) (v:Value) (l:List aL):Prop:=∃cs,w.ownsRow B 50 5 v l.length cs∧bl (λb=>v.ownBlock≠some b) w cs l
theorem cQ.below {B K:Nat} {w w':World} {v:Value} {l:List aL} (h:cQ B w v l) (hb:Below K w w') (hK:w.heap.size≤K):cQ B w' v l:=by
 obtain⟨cs,h1,h2⟩:=h
 exact⟨cs,ay h1 hb hK,h2.below hb hK⟩
theorem cQ.shape {B:Nat} {w:World} {v:Value} {l:List aL} (h:cQ B w v l):∃p c,v=.slice p l.length c:=by
 obtain⟨cs,h1,_⟩:=h
 exact bu h1
theorem cQ.x9 {B:Nat} {w:World} {v:Value} {l:List aL} (h:cQ B w v l):aY (λ_=>True) w v l:=by
 obtain⟨cs,h1,h2⟩:=h
 exact aY.bH h1 (λ_ _=>trivial) (h2.mono λ_ _=>trivial)
theorem cQ.nil (B:Nat) (w:World):cQ B w (.slice none 0 0) []:=⟨[],World.ownsRow_nil _ _ _ _,rfl⟩
theorem bl.one_cell {D:Nat→Prop} {w:World}:∀{l:List aL} {cs:List Value},bl D w cs l→∀u∈cs,u.oneCell'=true
 | [],_,h=>by rw[show _=_ from h];intro u hu;cases hu
 | x::l,_,⟨a,s,r,h1,_,h2,h3,h4⟩=>by
  subst h1;obtain⟨p1,c1,rfl,_⟩:=h2;obtain⟨p2,c2,rfl,_⟩:=h3;intro u hu;simp only[List.mem_cons] at hu;rcases hu with rfl|rfl|rfl|rfl|rfl|hu
  · rfl
  · rfl
  · rfl
  · rfl
  · rfl
  · exact bl.one_cell h4 u hu
theorem bl.fresh {D:Nat→Prop} {w:World}:∀{l:List aL} {cs:List Value},bl D w cs l→bl (λb=>D b∧b<w.heap.size) w cs l
 | [],_,h=>h
 | _::_,_,⟨a,s,r,h1,h0,h2,h3,h4⟩=>⟨a,s,r,h1,h0,h2.fresh,h3.fresh,bl.fresh h4⟩
theorem bl.agree {D:Nat→Prop} {w w':World} (hk:∀b,D b→b<w.heap.size→w'.heap[b]? =w.heap[b]?):∀{l:List aL} {cs:List Value},bl D w cs l→bl D w' cs l
 | [],_,h=>h
 | _::_,_,⟨a,s,r,h1,h0,h2,h3,h4⟩=>⟨a,s,r,h1,h0,h2.agree hk,h3.agree hk,bl.agree hk h4⟩
theorem bl.length {D:Nat→Prop} {w:World}:∀{l:List aL} {cs:List Value},bl D w cs l→cs.length=l.length * 5
 | [],_,h=>by rw[show _=_ from h];rfl
 | _::_,_,⟨a,s,r,h1,_,_,_,h4⟩=>by rw[h1];simp only[List.length_cons,bl.length h4];omega
theorem jQ {D:Nat→Prop} {B n:Nat} (w:World) (hB:B≤w.heap.size) {l:List aL} {cs:List Value} (hn:l.length=n) (hm:n≤maxLen) (hc:bl D w cs l):cQ B (w.alloc (.cells cs.toArray 50)) (.slice (some ⟨w.heap.size,0,none⟩) n n) l:=by
 subst hn
 have hb:=(zb w).alloc zr (.cells cs.toArray 50)
 refine⟨cs,⟨hc.length,.inr ⟨w.heap.size,l.length,cs.toArray,rfl,hB,heap_alloc_new w _,nl _,hm,by simpa using hc.length,by rw[←hc.length];simp⟩⟩,?_⟩
 exact(hc.fresh.below hb zr).mono λb hb e=>by
  simp only[Value.ownBlock,Option.some.injEq] at e;omega
theorem cQ.append {B:Nat} {W W':World} {v v':Value} {l k:List aL} {ds cs:List Value} (hC:bl (λb=>v.ownBlock≠some b) W cs l) (hk:bl (λb=>v.ownBlock≠some b) W ds k) (h':W'.ownsRow B 50 5 v' (l.length+k.length) (cs++ds)) (hg:W.grownBy W' v.ownBlock) (ho:v'.ownBlock=v.ownBlock∨v'.ownBlock=some W.heap.size):cQ B W' v' (l++k):=by
 refine⟨cs++ds,by rw[List.length_append];exact h',?_⟩
 have key:∀{l:List aL} {cs:List Value},bl (λb=>v.ownBlock≠some b) W cs l→bl (λb=>v'.ownBlock≠some b) W' cs l:=by
  intro l cs hc;refine(hc.fresh.agree (w':=W') λb hb hlt=>hg.block b hlt λe=>hb.1 e.symm).mono λb hb e=>?_
  rcases ho with ho|ho
  · exact hb.1 (by rw[←ho];exact e)
  · rw[ho] at e
    injection e with e;omega
 exact bl.append (key hk) (key hC)
theorem kD {D:Nat→Prop} (r:List UInt8) (L:List (List UInt8)) (v:Value) (w:World) (hv:SS D w v L) (hr:r.length≤maxLen):
 Calls Tryz.prog 239 #[str r,v] w λe w'=>∃u,e=.returned u∧aT D w' u ⟨false,L,r,[]⟩∧Below w.heap.size w w':=by
 obtain⟨p,c,e,_⟩:=hv.shape
 refine(qh r v w ⟨p,_,c,e⟩).mono ?_
 rintro e w' ⟨rfl,hb⟩
 exact⟨_,rfl,⟨_,_,rfl,hr,hv.below hb zr,SS.nil _ _ _ _⟩,hb⟩
theorem pJ {D:Nat→Prop} (x:Value) (s:bP) (g:List UInt8) (w:World) (hx:aT D w x s) (hg:g.length≤maxLen) (hD:∀b,w.heap.size≤b→D b):
 Calls Tryz.prog 240 #[x,str g] w λe w'=>∃u,e=.returned u∧aT D w' u ⟨s.iter,s.args,s.res,[g]⟩∧Below w.heap.size w w':=by
 have hx':=hx
 obtain⟨a,q,e,h1,h2,h3⟩:=hx'
 refine(pI x s g w hx hg).mono ?_
 rintro e' w' ⟨v,rfl,⟨a',q',e2,t,rfl,ht⟩,hb⟩
 rw[e] at e2
 simp only[Value.agg.injEq,Array.mk.injEq,List.cons.injEq,true_and,and_true] at e2
 obtain⟨rfl,rfl⟩:=e2
 exact⟨_,rfl,⟨_,_,rfl,h1,h2.below hb zr,ht.mono hD⟩,hb⟩
theorem yb {w W w5:World} {v v':Value} {L:List aL} {x:aL} {cs ds:List Value} (o:Obj) (hB:Below w.heap.size w W)
 (hcs:W.ownsRow w.heap.size 50 5 v L.length cs) (hC:bl (λb=>v.ownBlock≠some b) W cs L) (hd:bl (λb=>v.ownBlock≠some b) W ds [x])
 (h5:w5.ownsRow w.heap.size 50 5 v' (L.length+1) (cs++ds)) (hg:(W.alloc o).grownBy w5 v.ownBlock) (ho:v'.ownBlock=v.ownBlock∨v'.ownBlock=some (W.alloc o).heap.size):
 cQ w.heap.size w5 v' (L++[x])∧Below w.heap.size w w5∧(∀b,b<W.heap.size→v.ownBlock≠some b→w5.heap[b]? =W.heap[b]?)∧∀b,v'.ownBlock=some b→v.ownBlock=some b∨W.heap.size<b:=by
 have hA:=(Below.refl W.heap.size W).alloc zr o
 refine⟨cQ.append (hC.below hA zr) (hd.below hA zr) h5 hg ho,(hB.alloc hB.size o).grown hg (by have:=hB.size;simp;omega) (λk e=>(hcs.lt k e).1),?_,?_⟩
 · intro b hb hn
   rw[hg.block b (by simp;omega) (λe=>hn e.symm)];exact hA.block b hb
 · intro b hb
   rcases ho with h|h
   · exact .inl (h▸hb)
   · rw[h] at hb
     injection hb with hb;simp at hb;exact .inr (by omega)
theorem uz {B:Nat} {e t:TypeId} {n:Nat} {w:World} {v:Value} {xs:List Value} (h:w.ownsRow B e 5 v n xs) {b:Nat} {cs:Array Value} (hb:w.heap[b]? =some (.cells cs t (0,0))) (hne:e≠t):v.ownBlock≠some b:=by
 intro hv
 rcases h.2 with⟨rfl,_⟩|⟨g,cap,cur,rfl,_,hg,_⟩
 · cases hv
 · simp only[Value.ownBlock,Option.some.injEq] at hv
   subst hv;rw[hb] at hg;injection hg with hg;injection hg with _ ht _;exact hne ht.symm
theorem AV {w:World} {b o:Nat} {u:Value} (h:w.cell? ⟨b,o,none⟩=some u):b<w.heap.size:=by
 apply Classical.byContradiction
 intro hn
 unfold World.cell? at h
 rw[show w.heap[b]? =none from Array.getElem?_eq_none (by omega)] at h
 simp at h
def fu (par:Bool):List (List UInt8)→List aL→Bool
 | _,[]=>true
 | acc,o::l=> !hasB acc o.name&&(isName o.name&&(cZ o.sig par&&fu par (acc++[o.name]) l))
theorem vw (par:Bool):∀(l:List aL) (acc:List (List UInt8)),fu par acc l=(l.all (λo=>isName o.name&&cZ o.sig par)&&o9 (l.map (·.name))&&l.all (λo=> !hasB acc o.name))
 | [],acc=>rfl
 | o :: l, acc => by
  have key:l.all (λx=> !hasB (acc++[o.name]) x.name)=(!(l.map (·.name)).contains o.name&&l.all (λx=> !hasB acc x.name)):=by
   clear vw
   induction l with
   | nil=>rfl
   | cons x l ih=>
    rw[List.all_cons,ih,List.map_cons,List.contains_cons,List.all_cons];have h1:hasB (acc++[o.name]) x.name=(hasB acc x.name||(o.name==x.name)):=by
     unfold hasB;simp only[List.contains_eq_any_beq,List.any_append,List.any_cons,List.any_nil,Bool.or_false];rw[BEq.comm (a:=x.name)]
    rw[h1];cases hasB acc x.name<;>cases (o.name==x.name)<;>cases (l.map (·.name)).contains o.name<;>simp
  rw[fu,vw par l,key];simp only[List.all_cons,List.map_cons,o9];cases isName o.name<;>cases cZ o.sig par<;>cases hasB acc o.name<;>cases (l.map (·.name)).contains o.name<;>cases o9 (l.map (·.name))<;>simp
def iy (f:aA):Bool:=decide (f.kind=3)||match f.ops with
 | [o]=>decide (o.name=f.name)&&decide (o.sig.iter=decide (f.kind=2))
 | _=>false
theorem kX (f:aA):dF f=(isName f.name&&(decide (1≤f.kind)&&(decide (f.kind≤3)&&(aU f.ag&&((f.par||f.ag.isEmpty)&&(decide (1≤f.ops.length)&&(decide (f.ops.length≤20)&&(fu f.par [] f.ops&&iy f)))))))):=by
 have h:f.ops.all (λo=> !hasB [] o.name)=true:=by rw[List.all_eq_true];intro o _;rfl
 rw[vw,h,Bool.and_true]
 unfold dF iy
 simp only[Bool.and_assoc]
 rfl
def iL (f:aA):Nat:=if dF f=true then 0 else 42
theorem kW {f:aA} (h:dF f=false):iL f=42:=by unfold iL;rw[h];rfl
theorem sZ {f:aA} (h:dF f=true):iL f=0:=by unfold iL;rw[h];rfl
set_option maxRecDepth 8000 in
theorem uT {D:Nat→Prop} (v:Value) (f:aA) (w:World) (ht:dW w) (hv:dO D w v f) (hn:f.ag.length≤100000)
 (je:(isName f.name&&(decide (1≤f.kind)&&(decide (f.kind≤3)&&(aU f.ag&&((f.par||f.ag.isEmpty)&&(decide (1≤f.ops.length)&&decide (f.ops.length≤20)))))))=false):
 Calls Tryz.prog 38 #[v] w λe w'=>e=.returned (.int .i64 42)∧Below w.heap.size w w':=by
 obtain⟨nv,ov,rfl,hnl,h1,h2⟩:=hv
 have HN:=λW (hW:Below w.heap.size w W)=>cC f.name W (ht.below hW zr) hnl
 have HD:=λW (hW:Below w.heap.size w W)=>kj f.ag nv W (ht.below hW zr) (h1.below hW zr) hn
 obtain⟨p1,c1,rfl,_⟩:=h1.shape
 obtain⟨p2,c2,rfl,_⟩:=h2.shape
 obtain⟨name,kind,par,ag,ops⟩:=f
 dsimp only at *
 have hB:=((zb w).alloc zr (.cells #[str name,.int .u8 kind,.bool par,.slice p1 ag.length c1,.slice p2 ops.length c2] 58))
 have hg:=heap_alloc_new w (.cells #[str name,.int .u8 kind,.bool par,.slice p1 ag.length c1,.slice p2 ops.length c2] 58)
 clear h1 h2
 rcases k1:isName name with _|_
 · rw[k1] at HN
   clear je;go_enter Tryz.func38,Tryz.ntmps38;go_wp2_with (go_at_call 88;refine(HN _ hB).mono ?_;clear HN;rintro e w1 ⟨rfl,au⟩;have hB:=hB.trans (af au hB.size));go_ret;exact⟨rfl,hB⟩
 rw[k1] at HN je
 by_cases k2:1≤kind
 case neg=>
  have g:(kind:Int)<1:=by omega
  clear je;go_enter Tryz.func38,Tryz.ntmps38;go_wp2_with (go_at_call 88;refine(HN _ hB).mono ?_;clear HN;rintro e w1 ⟨rfl,au⟩;have hg:=ah hg au;have bx:=(bz hg).1;have hB:=hB.trans (af au hB.size));go_ret;exact⟨rfl,hB⟩
 have g2:¬(kind:Int)<1:=by omega
 have b2:decide ((kind:Int)<1)=false:=decide_eq_false g2
 by_cases k3:kind≤3
 case neg=>
  have g:(3:Int)<(kind:Int):=by omega
  clear je;go_enter Tryz.func38,Tryz.ntmps38;go_wp2_with (go_at_call 88;refine(HN _ hB).mono ?_;clear HN;rintro e w1 ⟨rfl,au⟩;have hg:=ah hg au;have bx:=(bz hg).1;have hB:=hB.trans (af au hB.size));go_ret;exact⟨rfl,hB⟩
 have g3:¬(3:Int)<(kind:Int):=by omega
 have b3:decide ((3:Int)<(kind:Int))=false:=decide_eq_false g3
 rcases k4:aU ag with _|_
 · rw[k4] at HD
   clear je;go_enter Tryz.func38,Tryz.ntmps38;go_wp2_with (first
    | (go_at_call 88;refine(HN _ hB).mono ?_;clear HN;rintro e w1 ⟨rfl,au⟩;have hg:=ah hg au;have bx:=(bz hg).1;have hB:=hB.trans (af au hB.size))
    | (go_at_call 78;refine(HD _ hB).mono ?_;clear HD;rintro e w2 ⟨rfl,aC⟩;have hg:=ah hg aC;have bx:=(bz hg).1;have hB:=hB.trans (af aC hB.size)))
   go_ret;exact⟨rfl,hB⟩
 rw[k4] at HD je
 have je:((par||ag.isEmpty)&&(decide (1≤ops.length)&&decide (ops.length≤20)))=false:=by simpa[k2,k3] using je
 rcases k5:(par||ag.isEmpty) with _|_
 · obtain⟨rfl,hne⟩:par=false∧ag.isEmpty=false:=by simpa using k5
   have g5:(0:Int)<(ag.length:Int):=by
    have:ag≠[]:=by simpa using hne
    have:=List.length_pos_iff.2 this;omega
   have b5:decide (0<ag.length)=true:=decide_eq_true (by omega);clear je k5 hne;go_enter Tryz.func38,Tryz.ntmps38;go_wp2_with (first
    | (go_at_call 88;refine(HN _ hB).mono ?_;clear HN;rintro e w1 ⟨rfl,au⟩;have hg:=ah hg au;have bx:=(bz hg).1;have hB:=hB.trans (af au hB.size))
    | (go_at_call 78;refine(HD _ hB).mono ?_;clear HD;rintro e w2 ⟨rfl,aC⟩;have hg:=ah hg aC;have bx:=(bz hg).1;have hB:=hB.trans (af aC hB.size)))
   go_ret;exact⟨rfl,hB⟩
 rw[k5,Bool.true_and] at je
 have g5:par=true∨(par=false∧decide (0<ag.length)=false):=by
  cases par
  · refine .inr ⟨rfl,?_⟩
    have:ag=[]:=by simpa using k5
    subst this;simp
  · exact .inl rfl
 by_cases k6:1≤ops.length
 case neg=>
  have g:(ops.length:Int)<1:=by omega
  have b6:decide ((ops.length:Int)<1)=true:=decide_eq_true g;have TB:decide (ops.length<1)=true:=decide_eq_true (by omega);clear je k5 k6;rcases g5 with rfl|⟨rfl,g5⟩
  all_goals
   go_enter Tryz.func38,Tryz.ntmps38;go_wp2_with (first
    | (go_at_call 88;refine(HN _ hB).mono ?_;clear HN;rintro e w1 ⟨rfl,au⟩;have hg:=ah hg au;have bx:=(bz hg).1;have hB:=hB.trans (af au hB.size))
    | (go_at_call 78;refine(HD _ hB).mono ?_;clear HD;rintro e w2 ⟨rfl,aC⟩;have hg:=ah hg aC;have bx:=(bz hg).1;have hB:=hB.trans (af aC hB.size)))
   go_ret;exact⟨rfl,hB⟩
 case pos=>
  have g6:¬(ops.length:Int)<1:=by omega
  have g:(20:Int)<(ops.length:Int):=by
   have:¬ops.length≤20:=by simpa[k6] using je
   omega
  have b6:decide ((ops.length:Int)<1)=false:=decide_eq_false g6;have b7:decide ((20:Int)<(ops.length:Int))=true:=decide_eq_true g;have TC:decide (20<ops.length)=true:=decide_eq_true (by omega);clear je k5 k6;rcases g5 with rfl|⟨rfl,g5⟩
  all_goals
   go_enter Tryz.func38,Tryz.ntmps38;go_wp2_with (first
    | (go_at_call 88;refine(HN _ hB).mono ?_;clear HN;rintro e w1 ⟨rfl,au⟩;have hg:=ah hg au;have bx:=(bz hg).1;have hB:=hB.trans (af au hB.size))
    | (go_at_call 78;refine(HD _ hB).mono ?_;clear HD;rintro e w2 ⟨rfl,aC⟩;have hg:=ah hg aC;have bx:=(bz hg).1;have hB:=hB.trans (af aC hB.size)))
   go_ret;exact⟨rfl,hB⟩
theorem yM (a:List UInt8):∀l:List (List UInt8),(∀t∈l,(aV t a).2=0)→ic a l=(l.map (λt=>(aV t a).1),0)
 | [],_=>rfl
 | t::l,h=>by
  rw[ic,if_pos (h t (List.mem_cons_self ..)),yM a l λx hx=>h x (List.mem_cons_of_mem _ hx)]
  rfl
theorem uG (a:List UInt8):∀(l:List (List UInt8)) (i:Nat) (t:List UInt8),l[i]? =some t→(∀x∈l.take i,(aV x a).2=0)→(aV t a).2≠0→ic a l=([],(aV t a).2)
 | [],i,t,h,_,_=>by simp at h
 | x::l,0,t,h,_,hn=>by
  simp only[List.getElem?_cons_zero,Option.some.injEq] at h;subst h;rw[ic,if_neg hn]
 | x::l,i+1,t,h,hp,hn=>by
  rw[List.getElem?_cons_succ] at h;have hx:(aV x a).2=0:=hp x (by simp);have ih:=uG a l i t h (λy hy=>hp y (by simp[hy])) hn;rw[ic,if_pos hx,ih,if_neg hn]
theorem yL (t a:List UInt8):(aV t a).1.length≤maxLen:=by
 have:=CX t a
 unfold maxLen
 omega
def gq (a:List UInt8) (l:List (List UInt8)) (i:Nat):List (List UInt8):=(l.take i).map (λt=>(aV t a).1)++l.drop i
theorem yj (a:List UInt8) (l:List (List UInt8)):gq a l 0=l:=by simp[gq]
theorem Ao (a:List UInt8) (l:List (List UInt8)):gq a l l.length=l.map (λt=>(aV t a).1):=by simp[gq]
theorem kB {a:List UInt8} {l:List (List UInt8)} {i:Nat} (h:i≤l.length):(gq a l i).length=l.length:=by simp[gq];omega
theorem rO {a:List UInt8} {l:List (List UInt8)} {i:Nat} {t:List UInt8} (h:l[i]? =some t):(gq a l i)[i]? =some t:=by
 have hi:=(List.getElem?_eq_some_iff.1 h).1
 have hl:((l.take i).map (λt=>(aV t a).1)).length=i:=by simp;omega
 unfold gq
 rw[List.getElem?_append_right (by omega),hl,Nat.sub_self,bp h]
 rfl
theorem Ap {a:List UInt8} {l:List (List UInt8)} {i:Nat} {t:List UInt8} (h:l[i]? =some t):(aB (gq a l i)).set i (str (aV t a).1)=aB (gq a l (i+1)):=by
 have hi:=(List.getElem?_eq_some_iff.1 h).1
 have hl:((l.take i).map (λt=>(aV t a).1)).length=i:=by simp;omega
 unfold gq
 rw[bp h,List.take_add_one,h]
 unfold aB
 rw[List.map_append,List.set_append_right _ _ (by simp;omega)]
 simp only[List.length_map,List.length_take,Nat.min_eq_left (Nat.le_of_lt hi),Nat.sub_self]
 simp
theorem SS.row {w:World} {base:Nat} {e:TypeId} {v:Value} {ss:List (List UInt8)} {n:Nat} (h:w.ownsRow base e 1 v n (aB ss)) (hn:ss.length=n) (hl:∀s∈ss,s.length≤maxLen):SS (λb=>base≤b) w v ss:=by
 subst hn
 exact SS.bH h hl λb hb=>(h.lt b hb).1
theorem aT.ep {D:Nat→Prop} {w:World} {v:Value} {x:bP} (h:aT D w v x) {b:Nat} (hb:∀b',D b'→b'≠b) (a0 a1 a2 a3:Value):aT D (ep w b a0 a1 a2 a3) v x:=
 (((h.set (a:=⟨b,0,none⟩) hb _).set (a:=⟨b,1,none⟩) hb _).set (a:=⟨b,2,none⟩) hb _).set (a:=⟨b,3,none⟩) hb _
def ir (D:Nat→Prop) (w:World) (v:Value) (x:bP):Prop:=aT (λb=>D b∧mN w b) w v x
theorem ir.below {D:Nat→Prop} {K:Nat} {w w':World} {v:Value} {x:bP} (h:ir D w v x) (hb:Below K w w') (hK:w.heap.size≤K):ir D w' v x:=(aT.below h hb hK).mono λ_ h=>⟨h.1,h.2.below hb hK⟩
theorem ir.mono {D D':Nat→Prop} {w:World} {v:Value} {x:bP} (h:ir D w v x) (hD:∀b,D b→D' b):ir D' w v x:=aT.mono h λ_ h=>⟨hD _ h.1,h.2⟩
theorem ir.ep {D:Nat→Prop} {w:World} {v:Value} {x:bP} (h:ir D w v x) {b:Nat} (hb:∀b',D b'→b'≠b) (a0 a1 a2 a3:Value):ir D (ep w b a0 a1 a2 a3) v x:=
 (aT.ep h (λb h=>hb b h.1) a0 a1 a2 a3).mono λ_ h=>⟨h.1,(((h.2.set _ _).set _ _).set _ _).set _ _⟩
structure y7 (w:World) (O R:Nat) (bO bR:Obj) (row:Nat→World→Prop) (sg:World→Prop) (i:Nat) (listed:Array Bool) (wx:World):Prop where
 o:wx.heap[O]? =some bO
 r:wx.heap[R]? =some bR
 s:sg wx
 b:Below w.heap.size w wx
 f:listed.getD 14 false=false→row i wx
 t:listed.getD 14 false=true→row (i+1) wx
theorem y7.mark {w:World} {O R:Nat} {bO bR:Obj} {row:Nat→World→Prop} {sg:World→Prop} {i:Nat} {listed:Array Bool} {wx:World} (h:y7 w O R bO bR row sg i listed wx) {j:Nat} (hj:j≠14):y7 w O R bO bR row sg i (listed.setIfInBounds j true) wx:=
 ⟨h.o,h.r,h.s,h.b,λe=>h.f (by rwa [getD_set_ne false hj] at e),λe=>h.t (by rwa [getD_set_ne false hj] at e)⟩
theorem y7.call {w:World} {O R:Nat} {bO bR:Obj} {row:Nat→World→Prop} {sg:World→Prop} {i:Nat} {listed:Array Bool} {wx w3:World} (h:y7 w O R bO bR row sg i listed wx) (hb:Below wx.heap.size wx w3) (hr:∀k,row k wx→row k w3) (hs:sg wx→sg w3):y7 w O R bO bR row sg i listed w3:=
 ⟨ah h.o hb,ah h.r hb,hs h.s,h.b.trans (af hb h.b.size),λe=>hr _ (h.f e),λe=>hr _ (h.t e)⟩
set_option maxRecDepth 8000 in
theorem ED {D:Nat→Prop} (x:Value) (s:bP) (w:World) (hx:aT D w x s) (h1:s.args.length≤100000) (h2:s.sigs.length≤100000):
 Calls Tryz.prog 64 #[x,str []] w λe w'=>∃v,e=.returned (.tuple #[v,.int .i64 0])∧ir (λb=>w.heap.size≤b) w' v s∧Below w.heap.size w w':=by
 have HC:=λW (hW:Below w.heap.size w W)=>oS x s W (hx.below hW zr) h1 h2
 obtain⟨av,sv,rfl,hr,ha,hs⟩:=hx
 obtain⟨p1,c1,rfl,_⟩:=ha.shape
 obtain⟨p2,c2,rfl,_⟩:=hs.shape
 obtain⟨it,ar,re,sg⟩:=s
 dsimp only at *
 have hA:=((zb w).alloc zr (.cells #[.bool it,.slice p1 ar.length c1,str re,.slice p2 sg.length c2] 36))
 have hB:=hA.alloc (by simp) (.cells #[.bool false,.slice none 0 0,.string ⟨#[]⟩,.slice none 0 0] 36)
 have hg2:=cI (w:=w.alloc (.cells #[.bool it,.slice p1 ar.length c1,str re,.slice p2 sg.length c2] 36)) (n:=w.heap.size+1) (by simp) #[.bool false,.slice none 0 0,.string ⟨#[]⟩,.slice none 0 0] 36
 clear ha hs
 go_enter Tryz.func64,Tryz.ntmps64
 go_wp2_with (go_at_call 94;refine(HC _ hB).mono ?_;clear HC;rintro e w1 ⟨v1,rfl,hS,au,a1,q1,rfl,jW,hs1⟩;obtain⟨pa,ca,rfl⟩:=bu jW;obtain⟨pq,cq,rfl,_⟩:=hs1.shape;have hg2:=ah hg2 au;have bx:=(aN (aD (.cells #[.bool it,.slice pa ar.length ca,.string ⟨re.toArray⟩,.slice pq sg.length cq] 36) hg2)).1;have O1:=(aN (aD (.cells #[.bool it,.slice pa ar.length ca,.string ⟨re.toArray⟩,.slice pq sg.length cq] 36) hg2)).2)
 refine bodyPost_ret (v:=.tuple #[.agg #[.bool it,.slice pa ar.length ca,str re,.slice pq sg.length cq],.int .i64 0]) (by simp[results,Tryz.results64,go_sem,bx]) rfl ?_
 have hz1:=au.size
 simp only[World.size_alloc] at hz1
 refine⟨_,rfl,(ir.ep (ir.below (show ir _ _ _ _ from hS) ((zb w1).alloc zr _) zr) (b:=w.heap.size+1) (by intro b hb;simp at hb;omega) _ _ _ _).mono (by intro b hb;simp at hb;omega),Below.ep ((hB.trans (af au (by simp;omega))).alloc (by omega) _) (b:=w.heap.size+1) (by omega) _ _ _ _⟩
set_option maxRecDepth 8000 in
theorem EE {D : Nat → Prop} (x : Value) (s : bP) (a : List UInt8) (w : World) (ht : dW w) (hx : aT D w x s) (h1 : s.args.length ≤ 100000) (h2 : s.sigs.length ≤ 100000) (hal : a.length ≤ maxLen) (hne : a ≠ []) :
 Calls Tryz.prog 64 #[x,str a] w λe w'=>∃v,e=.returned (.tuple #[v,.int .i64 (eF s a).2])∧ir (λb=>w.heap.size≤b) w' v (eF s a).1∧Below w.heap.size w w':=by
 have HC:=λW (hW:Below w.heap.size w W)=>oS x s W (hx.below hW zr) h1 h2
 have hem:a.isEmpty=false:=by simpa using hne
 obtain⟨av,sv,rfl,hr,ha,hs⟩:=hx
 have Qz:=zh ha.le
 obtain⟨p1,c1,rfl,_⟩:=ha.shape
 obtain⟨p2,c2,rfl,_⟩:=hs.shape
 obtain⟨it,ar,re,sg⟩:=s
 dsimp only at *
 have Mu:=zh (show eF ⟨it,ar,re,sg⟩ a=if(ic a ar).2≠0 then(.zero,(ic a ar).2) else if re=[] then(⟨it,(ic a ar).1,[],sg⟩,0) else if(aV re a).2≠0 then(.zero,(aV re a).2) else(⟨it,(ic a ar).1,(aV re a).1,sg⟩,0) by unfold eF;rw[if_neg hne])
 generalize eF ⟨it,ar,re,sg⟩ a=PK at *
 have hA:=((zb w).alloc zr (.cells #[.bool it,.slice p1 ar.length c1,str re,.slice p2 sg.length c2] 36))
 have hB:=hA.alloc (by simp) (.cells #[.bool false,.slice none 0 0,.string ⟨#[]⟩,.slice none 0 0] 36)
 have hg2:=cI (w:=w.alloc (.cells #[.bool it,.slice p1 ar.length c1,str re,.slice p2 sg.length c2] 36)) (n:=w.heap.size+1) (by simp) #[.bool false,.slice none 0 0,.string ⟨#[]⟩,.slice none 0 0] 36
 clear ha hs
 go_enter Tryz.func64,Tryz.ntmps64
 go_wp2_with (go_at_call 94;refine(HC _ hB).mono ?_;clear HC;rintro e w1 ⟨v1,rfl,hS,au,a1,q1,rfl,jW,hs1⟩;obtain⟨pa,ca,rfl⟩:=bu jW;obtain⟨pq,cq,rfl,_⟩:=hs1.shape;have hg2:=ah hg2 au)
 have hz1:=au.size
 simp only[World.size_alloc] at hz1 jW hs1
 have hB:=(hB.trans (af au (by simp;omega))).alloc (by omega) (.cells #[.bool it,.slice pa ar.length ca,.string ⟨re.toArray⟩,.slice pq sg.length cq] 36)
 have hg2:=aD (.cells #[.bool it,.slice pa ar.length ca,.string ⟨re.toArray⟩,.slice pq sg.length cq] 36) hg2
 have pT:=heap_alloc_new w1 (.cells #[.bool it,.slice pa ar.length ca,.string ⟨re.toArray⟩,.slice pq sg.length cq] 36)
 have PW:(Value.slice pa ar.length ca).ownBlock≠some w1.heap.size:=λe=>by have:=aK jW e;omega
 have PX:jh (λb=>w.heap.size+2≤b∧(Value.slice pa ar.length ca).ownBlock≠some b∧b≠w1.heap.size) (w1.alloc (.cells #[.bool it,.slice pa ar.length ca,.string ⟨re.toArray⟩,.slice pq sg.length cq] 36)) (.slice pq sg.length cq) sg:=(jh.below (jh.fresh (show jh _ _ _ _ from hs1)) ((zb w1).alloc zr (.cells #[.bool it,.slice pa ar.length ca,.string ⟨re.toArray⟩,.slice pq sg.length cq] 36)) zr).mono λb hb=>⟨by omega,hb.1.2,by omega⟩
 have Ko:=jW.alloc (.cells #[.bool it,.slice pa ar.length ca,.string ⟨re.toArray⟩,.slice pq sg.length cq] 36)
 clear hS hs1 au
 generalize Ub:w1.heap.size=O at *
 generalize w1.alloc (.cells #[.bool it,.slice pa ar.length ca,.string ⟨re.toArray⟩,.slice pq sg.length cq] 36)=W at *
 clear jW
 go_loopw [7,17] (λe y wx=>∃i:Nat,i≤ar.length∧e=.int .i64 0∧y=.int .i64 i∧wx.ownsRow (w.heap.size+4) 9 1 (.slice pa ar.length ca) ar.length (aB (gq a ar i))∧wx.heap[O]? =some (.cells #[.bool it,.slice pa ar.length ca,.string ⟨re.toArray⟩,.slice pq sg.length cq] 36)∧wx.heap[w.heap.size+1]? =some (.cells #[.bool false,.slice none 0 0,.string ⟨#[]⟩,.slice none 0 0] 36)∧jh (λb=>w.heap.size+2≤b∧(Value.slice pa ar.length ca).ownBlock≠some b∧b≠O) wx (.slice pq sg.length cq) sg∧Below w.heap.size w wx∧Hid (∀t∈ar.take i,(aV t a).2=0)) (λ_ y _=>ar.length - (intOf y).toNat)
 case atStart=>exact⟨0,Nat.zero_le _,by go_num,by go_num,by rw[yj];exact Ko,pT,hg2,PX,hB,(by intro t h;simp at h)⟩
 case round =>
  clear Ko pT hg2 PX hB;obtain⟨i,hi,rfl,rfl,ho,pT,hg2,hs,hb,hA⟩:=hrel
  by_cases hlt:i<ar.length
  case neg =>
   have hie:i=ar.length:=by omega
   subst hie;rw[Ao] at ho;have ON:=zh (show ic a ar=(ar.map (λt=>(aV t a).1),0) from yM a ar (λt ht=>hA.out t (by rw[List.take_length];exact ht)));have qW:∀s∈ar.map (λt=>(aV t a).1),s.length≤maxLen:=by
    intro s hs;obtain⟨t,_,rfl⟩:=List.mem_map.1 hs;exact yL t a
   have hrs:jh (λb=>w.heap.size+4≤b∧b≠O) wr (.slice pa ar.length ca) (ar.map (λt=>(aV t a).1)):=(jh.bH (by rw[List.length_map];exact ho) qW (D:=λb=>w.heap.size+4≤b∧(Value.slice pa ar.length ca).ownBlock=some b) (λb hb=>⟨(ho.lt b hb).1,hb⟩)).mono λb hb=>⟨hb.1,λe=>PW (by rw[←e];exact hb.2)⟩
   have bO:=aN pT;have bR:=aN hg2;clear hA qW
   by_cases h0:re=[]
   · subst h0
     have HP:=zh (show PK=(⟨it,ar.map (λt=>(aV t a).1),[],sg⟩,0) by rw[Mu.out,ON.out];simp);go_wp2_with fail;refine bodyPost_ret (v:=.tuple #[.agg #[.bool it,.slice pa ar.length ca,str [],.slice pq sg.length cq],.int .i64 0]) (by simp[results,Tryz.results64,go_sem,bR.1]) rfl ?_;rw[HP.out];refine⟨_,rfl,⟨_,_,rfl,by simp,?_,?_⟩,Below.ep hb (b:=w.heap.size+1) (by omega) _ _ _ _⟩
     · exact(jh.ep hrs (b:=w.heap.size+1) (by intro b hb;have:=hb.1;omega) _ _ _ _).mono (by intro b hb;have:=hb.1;omega)
     · exact(jh.ep hs (b:=w.heap.size+1) (by intro b hb;have:=hb.1;omega) _ _ _ _).mono (by intro b hb;have:=hb.1;omega)
   · have Uo:re.isEmpty=false:=by simpa using h0
     have HW:=tY re a hr hal wr (ht.below hb zr);have Mh:=yL re a;have HP:=zh (show PK=if(aV re a).2≠0 then(.zero,(aV re a).2) else(⟨it,ar.map (λt=>(aV t a).1),(aV re a).1,sg⟩,0) by rw[Mu.out,ON.out];simp[h0]);generalize (aV re a).2=C at *;generalize (aV re a).1=Y at *
     by_cases hC:C=0
     · subst hC
       have HP:=zh (HP.out.trans (if_neg (by simp)));clear h0;go_wp2_with (go_at_call 123;refine HW.mono ?_;clear HW;rintro e w5 ⟨rfl,eT⟩;have pT:=ah pT eT;have hg2:=ah hg2 eT;have bO:=aN pT;have bR:=aN hg2);refine bodyPost_ret (v:=.tuple #[.agg #[.bool it,.slice pa ar.length ca,str Y,.slice pq sg.length cq],.int .i64 0]) (by simp[results,Tryz.results64,go_sem,bR.1]) rfl ?_;rw[HP.out];have jJ:=hb.trans (af eT hb.size);refine⟨_,rfl,⟨_,_,rfl,Mh,?_,?_⟩,Below.ep (jJ.setCell (p:=⟨O,2,none⟩) (by simp only;omega) _) (b:=w.heap.size+1) (by omega) _ _ _ _⟩
       · exact(jh.ep ((hrs.below eT zr).set (a:=⟨O,2,none⟩) (by intro b hb;exact hb.2) (str Y)) (b:=w.heap.size+1) (by intro b hb;have:=hb.1;omega) _ _ _ _).mono (by intro b hb;have:=hb.1;omega)
       · exact(jh.ep ((hs.below eT zr).set (a:=⟨O,2,none⟩) (by intro b hb;exact hb.2.2) (str Y)) (b:=w.heap.size+1) (by intro b hb;have:=hb.1;omega) _ _ _ _).mono (by intro b hb;have:=hb.1;omega)
     · obtain⟨g1,g2⟩:=bK hC
       have HP:=zh (HP.out.trans (if_pos hC));clear h0 hC;go_wp2_with (go_at_call 123;refine HW.mono ?_;clear HW;rintro e w5 ⟨rfl,eT⟩;have pT:=ah pT eT;have hg2:=ah hg2 eT;have bO:=aN pT;have bR:=aN hg2);refine bodyPost_ret (v:=.tuple #[.agg #[.bool false,.slice none 0 0,str [],.slice none 0 0],.int .i64 C]) (by simp[results,Tryz.results64,go_sem,bR.1]) rfl ?_;rw[HP.out];have jJ:=hb.trans (af eT hb.size);exact⟨_,rfl,aT.zero _ _,Below.ep (jJ.setCell (p:=⟨O,2,none⟩) (by simp only;omega) _) (b:=w.heap.size+1) (by omega) _ _ _ _⟩
  case pos =>
   obtain⟨t,hkt⟩:∃t,ar[i]? =some t:=⟨_,List.getElem?_eq_getElem hlt⟩
   have JY:=hA;have htl:t.length≤maxLen:=Qz.out t (List.mem_of_getElem? hkt);obtain⟨g,rfl⟩:∃g,pa=some ⟨g,0,none⟩:=by
    rcases ho.2 with⟨_,h0⟩|⟨g,cap,cur,h0,_⟩
    · omega
    · injection h0 with h0
      exact⟨g,h0⟩
   have R4:g≠O:=λe=>PW (by rw[e];rfl)
   have hcell:wr.cell? ⟨g,i,none⟩=some (str t):=by
    have:=ho.cells (g:=g) rfl i (str t) (by rw[iJ _ _ (by rw[kB hi];exact hlt)];have h:=rO (a:=a) hkt;rw[List.getElem?_eq_getElem (by rw[kB hi];exact hlt)] at h;simpa using h)
    rwa [show(⟨g,0,none⟩:Addr).add i=⟨g,i,none⟩ from by unfold Addr.add;simp;omega] at this
   have hfree:wr.frozen? ⟨g,i,none⟩=false:=ho.frozenAt i;have bT:=(aN pT).1.2.1;have gi:(i:Int)<(ar.length:Int):=by omega
   go_upto_region 8 with fail;have GG:=zh (show ∀wx:World,wx.ownsRow (w.heap.size+4) 9 1 (.slice (some ⟨g,0,none⟩) ar.length ca) ar.length (aB (gq a ar i))→wx.cell? ⟨g,i,none⟩=some (str t) by
    intro wx ho;have:=ho.cells (g:=g) rfl i (str t) (by rw[iJ _ _ (by rw[kB hi];exact hlt)];have h:=rO (a:=a) hkt;rw[List.getElem?_eq_getElem (by rw[kB hi];exact hlt)] at h;simpa using h)
    rwa [show(⟨g,0,none⟩:Addr).add i=⟨g,i,none⟩ from by unfold Addr.add;simp;omega] at this)
   have Mx:=zh (Ap (a:=a) hkt);refine sr (S:=y7 w O (w.heap.size+1) (.cells #[.bool it,.slice (some ⟨g,0,none⟩) ar.length ca,.string ⟨re.toArray⟩,.slice pq sg.length cq] 36) (.cells #[.bool false,.slice none 0 0,.string ⟨#[]⟩,.slice none 0 0] 36) (λk wx=>wx.ownsRow (w.heap.size+4) 9 1 (.slice (some ⟨g,0,none⟩) ar.length ca) ar.length (aB (gq a ar k))) (λwx=>jh (λb=>w.heap.size+2≤b∧(Value.slice (some ⟨g,0,none⟩) ar.length ca).ownBlock≠some b∧b≠O) wx (.slice pq sg.length cq) sg) i) (A:=λj v=>match j with
    | 0=>v=.pointer (some ⟨O,1,none⟩)
    | 1=>v=.slice (some ⟨g,0,none⟩) ar.length ca
    | 2=>v=.int .i64 i
    | 3=>v=.pointer (some ⟨O,1,none⟩)
    | 4=>v=.slice (some ⟨g,0,none⟩) ar.length ca
    | 5=>v=.int .i64 i
    | 6=>v=.pointer (some ⟨g,i,none⟩)
    | 7=>v=str t
    | 8=>v=str a
    | 9=>v=.tuple #[str (aV t a).1,.int .i64 (aV t a).2]
    | 10=>v=.tuple #[str (aV t a).1,.int .i64 (aV t a).2]
    | 11=>v=str (aV t a).1
    | 12=>v=.int .i64 (aV t a).2
    | 13=>v=.pointer (some ⟨g,i,none⟩)
    | 15=>v=.int .i64 (aV t a).2
    | _=>True) (by kernel_rfl) (by kernel_rfl) (by kernel_rfl) ⟨pT,hg2,hs,hb.drew,λ_=>ho,λh=>by simp at h⟩ ⟨?_,?_,?_,?_,?_,?_,?_,?_,?_,?_,?_,?_,?_,?_,?_,?_,trivial⟩ ?_
   · intro listed x wx v7 tD hS hcl hd ho next hn
     have e6:x.tmps[6]?.getD undef=.pointer (some ⟨O,0,none⟩):=aR (ho 6 (rI (by kernel_rfl)));clear hd ho hcl;unfold Oper.wp;simp only[execOp];simp[go_sem,e6];exact hn _ _ rfl (hS.mark (by decide))
   · intro listed x wx v7 tD hS hcl hd ho next hn
     have LV:x.tmps[21]?.getD undef=.pointer (some ⟨O,1,none⟩):=aR (hd {on:=0,ground:=.data } (by simp) rfl _ 21 rfl rfl);have hc:=(aN hS.o).1.2.1;clear hd ho hcl;unfold Oper.wp;simp only[execOp];simp[go_sem,LV,hc];exact hn _ _ rfl (hS.mark (by decide))
   · intro listed x wx v7 tD hS hcl hd ho next hn
     have e8:x.tmps[8]?.getD undef=.int .i64 i:=aR (ho 8 (rI (by kernel_rfl)));clear hd ho hcl;unfold Oper.wp;simp only[execOp];simp[go_sem,e8];exact hn _ _ rfl (hS.mark (by decide))
   · intro listed x wx v7 tD hS hcl hd ho next hn
     have e6:x.tmps[6]?.getD undef=.pointer (some ⟨O,0,none⟩):=aR (ho 6 (rI (by kernel_rfl)));clear hd ho hcl;unfold Oper.wp;simp only[execOp];simp[go_sem,e6];exact hn _ _ rfl (hS.mark (by decide))
   · intro listed x wx v7 tD hS hcl hd ho next hn
     have Jz:x.tmps[24]?.getD undef=.pointer (some ⟨O,1,none⟩):=aR (hd {on:=3,ground:=.data } (by simp) rfl _ 24 rfl rfl);have hc:=(aN hS.o).1.2.1;clear hd ho hcl;unfold Oper.wp;simp only[execOp];simp[go_sem,Jz,hc];exact hn _ _ rfl (hS.mark (by decide))
   · intro listed x wx v7 tD hS hcl hd ho next hn
     have e8:x.tmps[8]?.getD undef=.int .i64 i:=aR (ho 8 (rI (by kernel_rfl)));clear hd ho hcl;unfold Oper.wp;simp only[execOp];simp[go_sem,e8];exact hn _ _ rfl (hS.mark (by decide))
   · intro listed x wx v7 tD hS hcl hd ho next hn
     have JA:x.tmps[25]?.getD undef=.slice (some ⟨g,0,none⟩) ar.length ca:=aR (hd {on:=4,ground:=.data } (by simp) rfl _ 25 rfl rfl);have JB:x.tmps[26]?.getD undef=.int .i64 i:=aR (hd {on:=5,ground:=.data } (by simp) rfl _ 26 rfl rfl);clear hd ho hcl;unfold Oper.wp;simp only[execOp];simp[go_sem,JA,JB,gi];exact hn _ _ rfl (hS.mark (by decide))
   · intro listed x wx v7 tD hS hcl hd ho next hn
     have JC:x.tmps[27]?.getD undef=.pointer (some ⟨g,i,none⟩):=aR (hd {on:=6,ground:=.data } (by simp) rfl _ 27 rfl rfl);have MS:listed.getD 14 false=false:=by
      rcases hq:listed.getD 14 false with _|_
      · rfl
      · exfalso
        have Tu:=hcl 14 _ {on:=11,ground:=.data } rfl hq (by simp) rfl;have Mm:=hcl 11 _ {on:=10,ground:=.data } rfl Tu (by simp) rfl;have q9:=hcl 10 _ {on:=9,ground:=.data } rfl Mm (by simp) rfl;have q7:=hcl 9 _ {on:=7,ground:=.data } rfl q9 (by simp) rfl;have hz:7<listed.size:=by rw[v7];decide
        simp[Array.getD_eq_getD_getElem?,hz] at q7 tD;rw[q7] at tD;cases tD
     have hc:=GG.out wx (hS.f MS);clear hd ho hcl;unfold Oper.wp;simp only[execOp];simp[go_sem,JC,hc];exact hn _ _ rfl (hS.mark (by decide))
   · intro listed x wx v7 tD hS hcl hd ho next hn
     have e1:x.tmps[1]?.getD undef=str a:=aR (ho 1 (rI (by kernel_rfl)));clear hd ho hcl;unfold Oper.wp;simp only[execOp];simp[go_sem,e1];exact hn _ _ rfl (hS.mark (by decide))
   · intro listed x wx v7 tD hS hcl hd ho next hn
     have JD:x.tmps[28]?.getD undef=str t:=aR (hd {on:=7,ground:=.data } (by simp) rfl _ 28 rfl rfl);have FI:x.tmps[29]?.getD undef=str a:=aR (hd {on:=8,ground:=.data } (by simp) rfl _ 29 rfl rfl);clear hd ho hcl;unfold Oper.wp;simp only[execOp];simp[go_sem,JD,FI];refine(tY t a htl hal wx (ht.below hS.b zr)).mono ?_;rintro e w3 ⟨rfl,aH⟩;exact hn _ _ rfl ((hS.call aH (λk h=>ay h aH zr) (λh=>h.below aH zr)).mark (by decide))
   · intro listed x wx v7 tD hS hcl hd ho next hn
     have Fs:x.tmps[30]?.getD undef=.tuple #[str (aV t a).1,.int .i64 (aV t a).2]:=aR (hd {on:=9,ground:=.data } (by simp) rfl _ 30 rfl rfl);clear hd ho hcl;unfold Oper.wp;simp only[execOp];simp[go_sem,Fs];exact hn _ _ rfl (hS.mark (by decide))
   · intro listed x wx v7 tD hS hcl hd ho next hn
     have Jy:x.tmps[20]?.getD undef=.tuple #[str (aV t a).1,.int .i64 (aV t a).2]:=aR (hd {on:=10,ground:=.data } (by simp) rfl _ 20 rfl rfl);clear hd ho hcl;unfold Oper.wp;simp only[execOp];simp[go_sem,Jy];exact hn _ _ rfl (hS.mark (by decide))
   · intro listed x wx v7 tD hS hcl hd ho next hn
     have Jy:x.tmps[20]?.getD undef=.tuple #[str (aV t a).1,.int .i64 (aV t a).2]:=aR (hd {on:=10,ground:=.data } (by simp) rfl _ 20 rfl rfl);clear hd ho hcl;unfold Oper.wp;simp only[execOp];simp[go_sem,Jy];exact hn _ _ rfl (hS.mark (by decide))
   · intro listed x wx v7 tD hS hcl hd ho next hn
     have LW:x.tmps[22]?.getD undef=.slice (some ⟨g,0,none⟩) ar.length ca:=aR (hd {on:=1,ground:=.data } (by simp) rfl _ 22 rfl rfl);have LX:x.tmps[23]?.getD undef=.int .i64 i:=aR (hd {on:=2,ground:=.data } (by simp) rfl _ 23 rfl rfl);clear hd ho hcl;unfold Oper.wp;simp only[execOp];simp[go_sem,LW,LX,gi];exact hn _ _ rfl (hS.mark (by decide))
   · intro listed x wx v7 tD hS hcl hd ho next hn
     have GR:x.tmps[33]?.getD undef=.pointer (some ⟨g,i,none⟩):=aR (hd {on:=13,ground:=.data } (by simp) rfl _ 33 rfl rfl);have Fu:x.tmps[31]?.getD undef=str (aV t a).1:=aR (hd {on:=11,ground:=.data } (by simp) rfl _ 31 rfl rfl);have MS:listed.getD 14 false=false:=by
      have hz:14<listed.size:=by rw[v7];decide
      simp[Array.getD_eq_getD_getElem?,hz] at tD ⊢;exact tD
     have hrw:=hS.f MS;have hc:=GG.out wx hrw;have hfz:wx.frozen? ⟨g,i,none⟩=false:=World.ownsRow.frozenAt hrw i;clear hd ho hcl;unfold Oper.wp;simp only[execOp];simp[go_sem,Fu,GR,hc,hfz];have hst:=World.ownsRow.stored hrw i (str (aV t a).1);rw[Mx.out] at hst;refine hn undef _ trivial ⟨?_,?_,?_,?_,?_,?_⟩
     · exact(heap_setCell_other wx ⟨g,i,none⟩ O _ (λe=>R4 e.symm)).trans hS.o
     · exact(heap_setCell_other wx ⟨g,i,none⟩ (w.heap.size+1) _ (by have:=(hrw.lt g rfl).1;simp only;omega)).trans hS.r
     · exact hS.s.set (a:=⟨g,i,none⟩) (λb hb e=>hb.2.1 (by rw[e];rfl)) _
     · exact hS.b.setCell (p:=⟨g,i,none⟩) (by have:=(hrw.lt g rfl).1;simp only;omega) _
     · intro h;exfalso;have hz:14<listed.size:=by rw[v7];decide
       simp[Array.getD_eq_getD_getElem?,hz] at h
     · intro _;exact hst.1
   · intro listed x wx v7 tD hS hcl hd ho next hn
     have GQ:x.tmps[32]?.getD undef=.int .i64 (aV t a).2:=aR (hd {on:=12,ground:=.data } (by simp) rfl _ 32 rfl rfl);clear hd ho hcl;unfold Oper.wp;simp only[execOp];simp[go_sem,GQ];exact hn _ _ rfl (hS.mark (by decide))
   · intro x wx hdf hsz hout hS hA
     obtain⟨listed,hall,hS⟩:=hS;have hrow:=hS.t (hall 14 (by decide));have LV:x.tmps.getD 21 undef=.pointer (some ⟨O,1,none⟩):=hA 0 _ 21 rfl rfl;have LW:x.tmps.getD 22 undef=.slice (some ⟨g,0,none⟩) ar.length ca:=hA 1 _ 22 rfl rfl;have LX:x.tmps.getD 23 undef=.int .i64 i:=hA 2 _ 23 rfl rfl;have Jz:x.tmps.getD 24 undef=.pointer (some ⟨O,1,none⟩):=hA 3 _ 24 rfl rfl;have JA:x.tmps.getD 25 undef=.slice (some ⟨g,0,none⟩) ar.length ca:=hA 4 _ 25 rfl rfl;have JB:x.tmps.getD 26 undef=.int .i64 i:=hA 5 _ 26 rfl rfl;have JC:x.tmps.getD 27 undef=.pointer (some ⟨g,i,none⟩):=hA 6 _ 27 rfl rfl;have JD:x.tmps.getD 28 undef=str t:=hA 7 _ 28 rfl rfl;have FI:x.tmps.getD 29 undef=str a:=hA 8 _ 29 rfl rfl;have Fs:x.tmps.getD 30 undef=.tuple #[str (aV t a).1,.int .i64 (aV t a).2]:=hA 9 _ 30 rfl rfl;have Jy:x.tmps.getD 20 undef=.tuple #[str (aV t a).1,.int .i64 (aV t a).2]:=hA 10 _ 20 rfl rfl;have Fu:x.tmps.getD 31 undef=str (aV t a).1:=hA 11 _ 31 rfl rfl;have GQ:x.tmps.getD 32 undef=.int .i64 (aV t a).2:=hA 12 _ 32 rfl rfl;have GR:x.tmps.getD 33 undef=.pointer (some ⟨g,i,none⟩):=hA 13 _ 33 rfl rfl;have e7:x.tmps.getD 7 undef=.int .i64 (aV t a).2:=hA 15 _ 7 rfl rfl;have ha:=wg hdf hsz hout;simp only[dA,LV,LW,LX,Jz,JA,JB,JC,JD,FI,Fs,Jy,Fu,GQ,GR,e7,pz,pw] at ha;subst ha;clear hdf hsz hout hA hall LV LW LX Jz JA JB JC JD FI Fs Jy Fu GQ GR e7;have pT:=hS.o;have hg2:=hS.r;have hs:=hS.s;have hb:=hS.b;clear hS
     by_cases h0:(aV t a).2=0
     · have LF:Hid (∀y∈ar.take (i+1),(aV y a).2=0):=by
        intro y hy;rw[List.take_add_one,hkt] at hy;rcases List.mem_append.1 hy with hy|hy
        · exact JY.out y hy
        · simp at hy
          rw[hy];exact h0
       rw[h0];clear hkt;go_wp2_with fail;exact⟨⟨i+1,by omega,by go_num,by go_num,hrow,pT,hg2,hs,hb,LF⟩,by simp only[intOf];omega⟩
     · obtain⟨g1,g2⟩:=bK h0
       have HP:=zh (show PK=(.zero,(aV t a).2) by rw[Mu.out,uG a ar i t hkt JY.out h0,if_pos h0]);have bR:=aN hg2;clear hkt h0;go_wp2_with fail;refine bodyPost_ret (v:=.tuple #[.agg #[.bool false,.slice none 0 0,str [],.slice none 0 0],.int .i64 (aV t a).2]) (by simp[results,Tryz.results64,go_sem,bR.1]) rfl ?_;rw[HP.out];exact⟨_,rfl,aT.zero _ _,Below.ep hb (b:=w.heap.size+1) (by omega) _ _ _ _⟩
theorem rN {D:Nat→Prop} (x:Value) (s:bP) (a:List UInt8) (w:World) (ht:dW w) (hx:aT D w x s) (h1:s.args.length≤100000) (h2:s.sigs.length≤100000) (hal:a.length≤maxLen):
 Calls Tryz.prog 64 #[x,str a] w λe w'=>∃v,e=.returned (.tuple #[v,.int .i64 (eF s a).2])∧ir (λb=>w.heap.size≤b) w' v (eF s a).1∧Below w.heap.size w w':=by
 by_cases h:a=[]
 · subst h
   have hp:eF s []=(s,0):=by unfold eF;rw[if_pos rfl]
   rw[hp];exact ED x s w hx h1 h2
 · exact EE x s a w ht hx h1 h2 hal h
theorem Bk {D:Nat→Prop} (x:Value) (s:bP) (a:List UInt8) (w:World) (ht:dW w) (hx:aT D w x s) (h1:s.args.length≤100000) (h2:s.sigs.length≤100000) (hal:a.length≤maxLen):
 Calls Tryz.prog 64 #[x,str a] w λe w'=>∃v,e=.returned (.tuple #[v,.int .i64 (eF s a).2])∧aT (λb=>w.heap.size≤b) w' v (eF s a).1∧Below w.heap.size w w':=
 (rN x s a w ht hx h1 h2 hal).mono λ_ _ ⟨v,e1,e2,e3⟩=>⟨v,e1,aT.mono e2 λ_ h=>h.1,e3⟩
end
section
open Go.RowKit Go.Maps
theorem jo {t:List UInt8} (h:(aq t).1=0):(bZ t).2=0∧(bZ t).1.length≤100∧∀n∈(bZ t).1,n.length≤100:=by
 rcases hq:aq t with⟨c,T⟩
 rw[hq] at h
 simp only at h
 subst h
 obtain⟨o1,e1,l1,_⟩:=bC hq
 have hn:bZ t=(gB (pX T.ins),0):=by unfold bZ;rw[hq,if_pos rfl]
 rw[hn]
 refine⟨rfl,?_,λn hm=>?_⟩
 · simp only[gB,List.length_mergeSort]
   refine Nat.le_trans (oE _) ?_;unfold pX;rw[List.length_map];refine Nat.le_trans (List.length_filter_le _ _) ?_;have:=o1.lV;rw[e1] at this;omega
 · simp only[gB,List.mem_mergeSort,l5] at hm
   unfold pX at hm;obtain⟨u,hu,rfl⟩:=List.mem_map.1 hm;obtain⟨hu,hk⟩:=List.mem_filter.1 hu;obtain⟨k1,k2,_⟩:=o1.A9 hu;obtain⟨k,nm,sub⟩:=u;simp only[decide_eq_true_eq] at hk;subst hk;have h':Wf none (.cons [] 7 nm sub .nil):=k1;cases h' with
   | word _ h3=>omega
   | rcd _ _ _ hk2=>omega
   | nam n hn=>have:=iT hn;simp only;omega
   | app n a hn h=>have:=iT hn;simp only;omega
theorem below_grown {w w':World} (h:Below w.heap.size w w') (row:Option Nat):w.grownBy w' row:=⟨h.os,h.tape,h.output,h.size,λk hk _=>h.block k hk⟩
theorem j6 (w:World) (row:Option Nat):w.grownBy w row:=⟨rfl,rfl,rfl,nl _,λ_ _ _=>rfl⟩
theorem bN {a b c:World} {row:Option Nat} (h:a.grownBy b row) (k:b.grownBy c row):a.grownBy c row:=
 ⟨k.os.trans h.os,k.tape.trans h.tape,k.output.trans h.output,Nat.le_trans h.size k.size,λi hi hn=>(k.block i (Nat.lt_of_lt_of_le hi h.size) hn).trans (h.block i hi hn)⟩
theorem aS.grown {w w':World} {b:Nat} {acc:List (List UInt8)} (h:aS w b acc) (hb:Below w.heap.size w w'):aS w' b acc:=h.kept (below_grown hb none) (by simp)
theorem wC {s:List UInt8} (h:(aq s).1=0):s.length≤100:=(bC (t:=(aq s).2) (Prod.ext h rfl)).2.2.1
def qf (s:bP):List (List UInt8):=(aQ s).flatMap λt=>(bZ t).1
set_option maxRecDepth 8000 in
theorem xV {D:Nat→Prop} (x:Value) (s:bP) (B M:Nat) (acc:List (List UInt8)) (w:World) (HT:∀W,w.grownBy W (some M)→dW W) (hx:aT D w x s) (iu:w.heap[B]? =some (.cells #[.map (some M)] 112 (0,0))) (hs:aS w M acc) (h1:s.args.length≤1000) (hal:acc.length≤100000) (hty:∀t∈aQ s,(aq t).1=0):
 Calls Tryz.prog 100 #[x,.pointer (some ⟨B,0,none⟩)] w λe w'=>e=.returned (.tuple #[])∧aS w' M (acc++qf s)∧w.grownBy w' (some M):=by
 have RC:=hs.lt
 have hBl:=bA iu
 have O5:B≠M:=by
  rintro rfl;obtain⟨es,clock,h,_⟩:=hs;rw[iu] at h;cases h
 obtain⟨a,g,rfl,Cc,fe,DG⟩:=hx
 have hA:=(zb w).alloc zr (.cells #[.bool s.iter,a,str s.res,g] 36)
 have Ss:=(aN (heap_alloc_new w (.cells #[.bool s.iter,a,str s.res,g] 36))).1
 have HC:=oJ (D:=D) _ s _ ⟨a,g,rfl,Cc,fe.below hA zr,DG.below hA zr⟩ (by omega)
 have K7:=hs.grown hA
 obtain⟨pa,ca,rfl,_⟩:=fe.shape
 obtain⟨pg,cg,rfl,_⟩:=DG.shape
 have HT:=zh HT
 have gA:=below_grown hA (some M)
 have mT:=aD (.cells #[.bool s.iter,.slice pa s.args.length ca,str s.res,.slice pg s.sigs.length cg] 36) iu
 have hsz:w.heap.size<(w.alloc (.cells #[.bool s.iter,.slice pa s.args.length ca,str s.res,.slice pg s.sigs.length cg] 36)).heap.size:=by simp
 clear fe DG hs
 have hnm:qf s=(aQ s).flatMap λt=>(bZ t).1:=rfl
 have Mc:(aQ s).length≤1001:=by
  unfold aQ;rw[List.length_append];split<;>simp<;>omega
 have Pp:=λt ht=>wC (hty t ht)
 generalize qf s=NM at *
 generalize aQ s=TS at *
 go_enter Tryz.func100,Tryz.ntmps100
 go_wp2_with (go_at_call 92;refine HC.mono ?_;clear HC;rintro e w1 ⟨tv,rfl,GX,au⟩;obtain⟨pt,ct,rfl,_⟩:=GX.shape)
 have g1:=bN gA (below_grown au (some M))
 have hs1:=K7.grown au
 have Kz:=ah mT au
 have Lb:=au.size
 clear K7 mT hA Ss gA
 go_loopw [12] (λy wx=>∃i:Nat,i≤TS.length∧y=.int .i64 i∧aS wx M (acc++(TS.take i).flatMap λt=>(bZ t).1)∧w1.grownBy wx (some M)) (λy _=>TS.length - (intOf y).toNat)
 case atStart=>exact⟨0,Nat.zero_le _,by go_num,by simpa using hs1,j6 _ _⟩
 case round =>
  clear hs1;obtain⟨i,hi,rfl,ek,hgr⟩:=hrel
  by_cases hlt:i<TS.length
  case neg=>
   have hie:i=TS.length:=by omega
   subst hie;rw[List.take_length] at ek;have HS:=zh (hnm▸ek);clear ek hnm;go_wp2_with fail
   go_end0
   exact⟨rfl,HS.out,bN g1 hgr⟩
  case pos=>
   obtain⟨t,ht⟩:∃t,TS[i]? =some t:=⟨_,List.getElem?_eq_getElem hlt⟩
   have Oc:=List.mem_of_getElem? ht;have Po:=GX.agree (w':=wr) (λb hb hl=>hgr.block b hl (λe=>by injection e with e;omega));obtain⟨bt,ot,rfl,_,hct⟩:=Po.at ht;have tH:=(hgr.block B (bA Kz) (λe=>O5 (Option.some.inj e))).trans Kz;have hbc:=(ak tH 0).trans rfl;obtain⟨_,hnl,yX⟩:=jo (hty t Oc);have HK:=zR t (by have:=Pp t Oc;unfold maxLen;omega) wr (HT.out _ (bN g1 hgr));unfold di at HK;have RR:(acc++(TS.take i).flatMap λt=>(bZ t).1).length≤300000:=by
    rw[List.length_append];have h2:∀l:List (List UInt8),(∀t∈l,(aq t).1=0)→(l.flatMap λt=>(bZ t).1).length≤l.length * 100:=by
     intro l
     induction l with
     | nil=>simp
     | cons x l ih=>
      intro h;have h3:=(jo (h x (by simp))).2.1;have h4:=ih λy hy=>h y (by simp[hy])
      rw[List.flatMap_cons,List.length_append,List.length_cons,Nat.succ_mul];omega
    have h3:=h2 (TS.take i) λy hy=>hty y (List.mem_of_mem_take hy)
    rw[List.length_take] at h3;have:min i TS.length≤1001:=by omega
    have:=Nat.mul_le_mul_right 100 this;omega
   have HA:=zh (show(acc++(TS.take i).flatMap λt=>(bZ t).1)++(bZ t).1=acc++(TS.take (i+1)).flatMap λt=>(bZ t).1 by
    rw[List.take_add_one,ht,Option.toList_some,List.flatMap_append,List.append_assoc,List.flatMap_singleton])
   generalize (acc++(TS.take i).flatMap λt=>(bZ t).1)=A0 at *;generalize bZ t=NK at *;obtain⟨NL,NE⟩:=NK;dsimp only at HK hnl yX HA;clear ht Oc Po Pp hty hnm;go_wp2_with (go_at_call 101;refine HK.mono ?_;clear HK;rintro e w3 ⟨nv,rfl,hrow,aH⟩;obtain⟨pn,cn,rfl⟩:=bu hrow);have JT:=ek.grown aH;have KA:=ah tH aH;have Rj:=bN hgr (below_grown aH (some M));have zC:=aH.size;have SC:=hgr.size;clear ek hbc tH;go_loopw [23] (λy wx=>∃j:Nat,j≤NL.length∧y=.int .i64 j∧aS wx M (A0++NL.take j)∧w3.grownBy wx (some M)) (λy _=>NL.length - (intOf y).toNat)
   case atStart=>exact⟨0,Nat.zero_le _,by go_num,by simpa using JT,j6 _ _⟩
   case round=>
    clear JT;obtain⟨j,hj,rfl,A8,Mf⟩:=hrel
    by_cases hlj:j<NL.length
    case neg=>
     have Sa:j=NL.length:=by omega
     subst Sa;rw[List.take_length] at A8;have HS:=zh (HA.out▸A8);clear A8 HA;go_wp2_with fail;exact⟨⟨i+1,hlt,by go_num,HS.out,bN Rj Mf⟩,by simp only[intOf];omega⟩
    case pos=>
     obtain⟨nm,hn⟩:∃nm,NL[j]? =some nm:=⟨_,List.getElem?_eq_getElem hlj⟩
     have Sk:=yX nm (List.mem_of_getElem? hn);have hown:∀b,(Value.slice pn NL.length cn).ownBlock=some b→M≠b:=λb e=>by have:=(hrow.lt b e).1;omega
     have G6:=cB hrow (λb e=>Mf.block b (aK hrow e) (λe'=>hown b e (Option.some.inj e').symm));have RU:=(Mf.block B (bA KA) (λe=>O5 (Option.some.inj e))).trans KA;have hbc:=(ak RU 0).trans rfl;have QB:=zh (show(A0++NL.take j)++[nm]=A0++NL.take (j+1) by rw[List.take_add_one,hn,List.append_assoc];rfl);have NA:(A0++NL.take j).length<maxLen:=by rw[List.length_append,List.length_take];unfold maxLen;omega
     obtain⟨bn,rfl⟩:∃b,pn=some ⟨b,0,none⟩:=by
      rcases hrow.2 with⟨e,_⟩|⟨g,cap,cur,e,_⟩
      · injection e with e1 e2 e3;omega
      · injection e with e1;exact⟨g,e1⟩
     have GY:=G6.cells (g:=bn) rfl j (str nm) (by unfold aB;rw[List.getElem?_map,hn];rfl);rw[show(⟨bn,0,none⟩:Addr).add j=⟨bn,0+j,none⟩ from by unfold Addr.add;simp;omega] at GY;rw[Nat.zero_add] at GY;generalize A0++NL.take j=A1 at *;clear hn G6 hown hrow;go_wp2_with (at_mapUpdate;refine jb _ rfl _ _ _ rfl M A1 rfl A8 NA nm rfl rfl (by unfold maxLen;omega) ?_;intro w5 jK xe);exact⟨⟨j+1,hlj,by go_num,QB.out▸jK,bN Mf xe⟩,by simp only[intOf];omega⟩
end
open Go.RowKit
theorem kf {s:List UInt8} (h:isName s=true):s.length≤12:=by
 cases s with
 | nil=>simp
 | cons c r=>
  simp only[isName,Bool.and_eq_true,decide_eq_true_eq] at h;exact h.1.1.1
theorem oA {B:Nat}:∀l:List (List UInt8),(∀s∈l,s.length≤B)→(cH l).length≤l.length * (B+1)
 | [],_=>by simp[cH]
 | [a],h=>by
  have:=h a (by simp);simp[cH];omega
 | a::b::l,h=>by
  have h1:=h a (by simp);have h2:=oA (b::l) (λs hs=>h s (by simp at hs ⊢;right;exact hs));rw[cH,List.length_append,List.length_cons];simp only[List.length_cons (a:=a),Nat.succ_mul] at h2 ⊢;omega
theorem oo:∀{l:List (List UInt8)},eY l=true→∀s∈l,isName s=true
 | [],_=>λs h=>by cases h
 | [a],h=>λs hs=>by
  rw[List.mem_singleton.1 hs];exact h
 | a::b::l,h=>λs hs=>by
  rw[eY] at h;simp only[Bool.and_eq_true] at h;rcases List.mem_cons.1 hs with rfl|hs
  · exact h.1.1
  · exact oo h.2 s hs
theorem qA {s:List UInt8} (h:(aq s).1=0):s.length≤100:=
 (bC (t:=(aq s).2) (Prod.ext h rfl)).2.2.1
structure qp (s:bP):Prop where
 a:(cH s.args).length≤1000
 r:s.res.length≤100
 g:(cH s.sigs).length≤100
 an:s.args.length≤6
 gn:s.sigs.length≤6
theorem Br {s:bP} {o:Bool} (h:cZ s o=true):qp s:=by
 obtain⟨h1,h2,h3,_,h5⟩:=eN h
 have ha:=oA (B:=100) s.args λt ht=>qA (h5 t (by unfold aQ;simp[ht])).1
 have hg:=oA (B:=12) s.sigs λt ht=>kf (oo h3 t ht)
 have m1:=Nat.mul_le_mul_right 101 h1
 have m2:=Nat.mul_le_mul_right 13 h2
 refine⟨by omega,?_,by omega,h1,h2⟩
 by_cases hr:s.res=[]
 · rw[hr];simp
 · exact qA (h5 s.res (by unfold aQ;simp[hr])).1
theorem vp {wd:List UInt8} {o:aL} (hw:wd.length≤10) (hn:o.name.length≤12) (hs:qp o.sig):(dR wd o).length≤2000:=by
 have h1:=hs.a
 have h2:=hs.r
 have h3:=hs.g
 unfold dR Ji
 rcases o.sig.iter with _|_<;>by_cases hr:o.sig.res=[]<;>by_cases hg:o.sig.sigs=[]<;>simp[hr,hg]<;>omega
theorem lB {wd:List UInt8} (hw:wd.length≤10):∀l:List aL,(∀o∈l,o.name.length≤12∧qp o.sig)→(l.flatMap (dR wd)).length≤l.length * 2000
 | [],_=>by simp
 | o::l,h=>by
  have h1:=vp hw (h o (by simp)).1 (h o (by simp)).2;have h2:=lB hw l λx hx=>h x (by simp[hx])
  rw[List.flatMap_cons,List.length_append,List.length_cons,Nat.succ_mul];omega
theorem oB:∀ss:List (List UInt8),Lib.join ss []=ss.flatten
 | []=>rfl
 | [a]=>by simp[Lib.join]
 | a::b::l=>by
  have:=oB (b::l);rw[List.flatten_cons,←this];simp[Lib.join,List.intercalate]
theorem Bb {D:Nat→Prop} (ss:List (List UInt8)) (sep:List UInt8) (v:Value) (w:World) (h:SS D w v ss) (hlen:(Lib.join ss sep).length≤140737488355328) (hn:ss.length≤140737488355328):
 Calls Tryz.prog 165 #[v,str sep] w λe w'=>e=.returned (str (Lib.join ss sep))∧Below w.heap.size w w':=by
 obtain⟨p,c,rfl,hc,_,_,h4⟩:=h
 rcases h4 with rfl|⟨b,o,rfl,_,hlt,hcell⟩
 · refine(Tryz.strings_Join_none p c ⟨sep.toArray⟩ w).mono ?_
   rintro e w' ⟨rfl,rfl⟩;exact⟨rfl,zb _⟩
 · have hm:(ss.map λs=>(⟨s.toArray⟩:ByteArray)).map (·.data.toList)=ss:=by
    rw[List.map_map];exact(List.map_congr_left λ_ _=>rfl).trans (List.map_id ss)
   have hj:Lib.join ((ss.map λs=>(⟨s.toArray⟩:ByteArray)).map (·.data.toList)) (⟨sep.toArray⟩:ByteArray).data.toList=Lib.join ss sep:=by rw[hm]
   have:=Tryz.strings_Join b o c (ss.map λs=>⟨s.toArray⟩) ⟨sep.toArray⟩ w ?_ hlt (by simpa using hn) (by simpa using hc) (by rw[hj];exact hlen)
   · rw[hj,List.length_map] at this
     exact this
   · intro j x hx
     rw[List.getElem?_map,Option.map_eq_some_iff] at hx;obtain⟨s,hs,rfl⟩:=hx;obtain⟨hj,rfl⟩:=List.getElem?_eq_some_iff.1 hs;exact hcell j hj
end Go.Proofs.YtakgjcfkdemipaaGreatDoor
