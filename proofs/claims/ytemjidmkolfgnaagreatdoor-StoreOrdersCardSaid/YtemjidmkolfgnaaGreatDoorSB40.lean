/-
  Lemmas for the statement: contract of the package store: Missing. Conditions: bounds of lengths; the variable strings.asciiSpace.
-/
import Derived.Test.YtemjidmkolfgnaaGreatDoorSBn
import Derived.Test.YtemjidmkolfgnaaGreatDoorSB39
set_option maxHeartbeats 12800000
namespace Go.Proofs.YtemjidmkolfgnaaGreatDoor
open Go Go.RowKit Go.Maps
def Iq (l:List (List UInt8)):List (List UInt8):=l.foldl fq []
theorem sr (x:List UInt8):∀(l S:List (List UInt8)),x∈l.foldl fq S↔x∈S∨x∈l
 | [],S=>by simp
 | a::l,S=>by
  rw[List.foldl_cons,sr x l,ve,List.mem_cons,or_assoc]
theorem oc:∀(l S:List (List UInt8)),S.Nodup→(l.foldl fq S).Nodup
 | [],_,h=>h
 | a::l,_S,h=>oc l _ (pG h a)
theorem zB {a b:List (List UInt8)} (ha:a.Nodup) (hb:b.Nodup) (h:∀x,x∈a↔x∈b):gH a=gH b:=
 qL (gv a) (gv b) (((eO a).trans ((List.perm_ext_iff_of_nodup ha hb).2 h)).trans (eO b).symm)
def sN (us:List (List UInt8×az)):List (List UInt8):=gH (Iq ((us.flatMap λx=>x.2.uses).filter λn=>(aq us n).isNone))
def iW (us:List (List UInt8×az)) (ss:List (List UInt8)) (n:List UInt8):Prop:=aq us n=none∧∃k∈ss,∃u,aq us k=some u∧n∈u.uses
theorem wW {us:List (List UInt8×az)} (hnd:(us.map (·.1)).Nodup) {ss T:List (List UInt8)} (hs:ss.Perm (us.map (·.1))) (hT:T.Nodup) (h:∀n,n∈T↔iW us ss n):gH T=sN us:=by
 refine zB hT (oc _ _ List.nodup_nil) λn=>?_
 rw[h n]
 unfold Iq
 rw[sr,List.mem_filter,List.mem_flatMap]
 simp only[List.not_mem_nil,false_or,Option.isNone_iff_eq_none]
 constructor
 · rintro⟨h1,k,_,u,hu,hn⟩
   exact⟨⟨(k,u),eS hu,hn⟩,h1⟩
 · rintro⟨⟨x,hx,hn⟩,h1⟩
   exact⟨h1,x.1,hs.mem_iff.2 (List.mem_map_of_mem hx),x.2,uC hnd hx,hn⟩
theorem wV {us:List (List UInt8×az)} {ss:List (List UInt8)} {k:List UInt8} {u:az} (hk:aq us k=some u) (n:List UInt8):iW us (ss++[k]) n↔iW us ss n∨(aq us n=none∧n∈u.uses):=by
 unfold iW
 constructor
 · rintro⟨h1,j,hj,v,hv,hn⟩
   rcases List.mem_append.1 hj with hj|hj
   · exact .inl ⟨h1,j,hj,v,hv,hn⟩
   · rw[List.mem_singleton.1 hj,hk] at hv
     cases hv;exact .inr ⟨h1,hn⟩
 · rintro(⟨h1,j,hj,v,hv,hn⟩|⟨h1,hn⟩)
   · exact⟨h1,j,List.mem_append_left _ hj,v,hv,hn⟩
   · exact⟨h1,k,by simp,u,hk,hn⟩
set_option maxRecDepth 8000 in
theorem uR {R : Nat → Prop} {sb mu : Nat} {us : List (List UInt8 × az)} (w : World) (h : tJ R w sb mu us) :
 Calls Tryz.prog 15 #[.pointer (some ⟨sb,0,none⟩)] w λe w'=>∃v,e=.returned v∧w'.ownsRow w.heap.size 9 1 v (sN us).length (aA (sN us))∧Below w.heap.size w w':=by
 have hmm:=@run_makeMap Tryz.prog
 have hc:=h.cell
 have Fv:=h.wX
 obtain⟨UL,h1,h2,h3⟩:=h.units
 have hnd:(us.map (·.1)).Nodup:=by
  have:=h2.nd;rw[List.map_map] at this;rw[←h1,List.map_map];exact this
 have hkeys:(UL.map λx=>(x.1,x.2.2)).map (·.1)=us.map (·.1):=by
  rw[←h1,List.map_map,List.map_map]
  rfl
 have hent:∀k v,aq (UL.map λx=>(x.1,x.2.2)) k=some v→∃u,aq us k=some u∧dN (Fr R w) w v u:=λk v hk=>by
  rw[dD (λx:az×Value=>x.2)] at hk;obtain⟨x,hx,rfl⟩:=Option.map_eq_some_iff.1 hk;refine⟨x.1,?_,h3 _ (eS hx)⟩;rw[←h1,dD (λx:az×Value=>x.1),hx]
  rfl
 have hA:=(zb w).alloc zr (.map #[] 0)
 have hM:=aQ.made w
 have PK:=Below.keep hA hc
 have La:=h2.below hA zr
 have hlen:=h.len
 clear h3
 go_enter Tryz.func15,Tryz.ntmps15
 go_wp2_with (at_range;refine fF rfl _ rfl Tryz.underlying106 rfl La ?_;intro w0 qg vU hs0)
 have hb0:Below w.heap.size w w0:=hA.grown vU hA.size (λb e=>by cases e)
 have Ki:=hM.kept vU (λe=>by cases e)
 have yE:(w.alloc (.map #[] 0)).heap.size=w.heap.size+1:=by simp
 rw[yE] at qg hs0
 rw[hkeys] at qg
 simp only[yE]
 clear hA hM PK La vU yE hmm
 generalize Pd:(UL.map λx=>(x.1,x.2.2))=LL at *
 clear Pd
 generalize Fm:w.heap.size=M at *
 replace Fm:=zh Fm
 go_frame
 go_loopw [5] (λ_ wx=>∃S ss T,mq wx mu (M+1) LL S∧(ss++S).Perm (us.map (·.1))∧aQ wx M (fO T)∧T.Nodup∧(∀n,n∈T↔iW us ss n)∧T.length≤ss.length * 100∧Below M w wx∧M+1<wx.heap.size) (λ_ wx=>wx.rangeLeft mu (M+1))
 case atStart=>exact⟨_,[],[],qg,.refl _,Ki,List.nodup_nil,λn=>⟨λh=>(by cases h),λh=>(by obtain⟨_,k,hk,_⟩:=h;cases hk)⟩,Nat.zero_le _,hb0,by omega⟩
 case round =>
  obtain⟨S,ss,T,xU,hp,CC,CF,hT,F9,cN,Jf⟩:=hrel;have ow:ss.length+S.length=us.length:=by rw[←List.length_map (λx:List UInt8×az=>x.1),←hp.length_eq,List.length_append]
  replace ow:=zh ow
  go_wp2_with (at_next;refine gw rfl _ rfl rfl xU ?_ ?_)
  · rintro rfl
    rw[List.append_nil] at hp;have Bd:T.length≤100000:=by have:=ow.out;omega
    have HB:=oG wr CC (by rw[fP];exact Bd);rw[s5,fP,wW hnd hp CF hT] at HB;have Pv:T.length=(sN us).length:=by rw[←wW hnd hp CF hT,iP]
    replace Pv:=zh Pv
    clear hp hT CF F9 Bd;go_wp2_with (go_at_call 54;refine HB.mono ?_;clear HB;rintro e w5 ⟨v,rfl,h5,oo⟩;obtain⟨pv,cv,rfl⟩:=aJ h5);go_ret;have Pe:=Fm.out;subst Pe;rw[←Pv.out];exact⟨_,rfl,ef h5 cN.size,cN.trans (aa oo cN.size)⟩
  · intro k v0 w3 hk hlk sA yC hg3 sF hlt Bj
    obtain⟨u,hu,oP⟩:=hent k v0 hlk;have JE:=jf hp hk;have cK:Below M w w3:=cN.grown hg3 (by omega) (λb e=>by cases e;omega);obtain⟨ua,uc,ud,rfl,wm,kO,nH,nI⟩:=oP;obtain⟨q1,q2,rfl,_⟩:=kO.shape;obtain⟨q3,q4,rfl,_⟩:=nH.shape;obtain⟨q5,q6,rfl,_⟩:=nI.shape;have MR:=(h.ok k u hu).uses;have JL:∀n∈u.uses,n.length≤maxLen:=by
     obtain⟨_,_,_,_,_,hh⟩:=kO.shape;exact hh
    have A7:=CC.of_block (w':=w3) (hg3.block M CC.lt (λe=>by injection e with e;omega));have NS:M+1<w3.heap.size:=by omega
    have gN:=heap_alloc_new w3 (.cells #[str u.name,.int .i64 (u.version:Int),str u.source,str u.aO,.slice q1 u.uses.length q2,.bool u.built,.slice q3 (aH u.code).length q4,.slice q5 u.used.length q6] 41);have b4:=(af gN 4).trans rfl;have hA:=(zb w3).alloc zr (.cells #[str u.name,.int .i64 (u.version:Int),str u.source,str u.aO,.slice q1 u.uses.length q2,.bool u.built,.slice q3 (aH u.code).length q4,.slice q5 u.used.length q6] 41);have hstep:=wV hu (ss:=ss);clear nH nI hlk hk sF CC hg3 cN xU;go_wp2_with fail;generalize w3.alloc (.cells #[str u.name,.int .i64 (u.version:Int),str u.source,str u.aO,.slice q1 u.uses.length q2,.bool u.built,.slice q3 (aH u.code).length q4,.slice q5 u.used.length q6] 41)=W5 at *;have FY:=A7.below hA zr;have Mw:=hA.block mu (by omega);have LV:=hA.block (M+1) NS;have lR:=cK.trans (aa hA (by omega));have hs5:=hA.size;clear A7 cK hA b4 gN;go_loopw [26] (λy wx=>∃(j:Nat) (T:List (List UInt8)),j≤u.uses.length∧y=.int .i64 j∧aQ wx M (fO T)∧T.Nodup∧(∀n,n∈T↔iW us ss n∨(aq us n=none∧n∈u.uses.take j))∧T.length≤ss.length * 100+j∧Below M w wx∧w3.heap.size≤wx.heap.size∧wx.heap[mu]? =w3.heap[mu]? ∧wx.heap[M+1]? =w3.heap[M+1]?) (λy _=>u.uses.length - (intOf y).toNat)
    case atStart=>exact⟨0,T,Nat.zero_le _,by go_num,FY,CF,λn=>by rw[hT n];simp,by omega,lR,hs5,Mw,LV⟩
    case round =>
     clear FY CF hT F9 lR Mw LV;obtain⟨j,T,hj,rfl,CC,CF,hT,F9,cN,N3,hmx,KF⟩:=hrel
     by_cases hlt2:j<u.uses.length
     case neg=>
      obtain rfl:j=u.uses.length:=by omega
      rw[List.take_length] at hT;have Qj:=yC.of_block hmx KF;have F8:∀n,n∈T↔iW us (ss++[k]) n:=λn=>(hT n).trans (hstep n).symm
      have Bd:T.length≤(ss++[k]).length * 100:=by rw[List.length_append];simp only[List.length_cons,List.length_nil];omega
      clear hT F9 hstep;go_wp2_with fail;refine⟨⟨_,ss++[k],T,Qj,JE,CC,CF,F8,Bd,cN,by omega⟩,?_⟩
      show World.rangeLeft _ mu (M+1)<World.rangeLeft _ mu (M+1)
      rw[gu hmx KF];exact hlt
     case pos=>
      obtain⟨n,hn⟩:∃n,u.uses[j]? =some n:=⟨_,List.getElem?_eq_getElem hlt2⟩
      have hnl:=JL n (List.mem_of_getElem? hn);have Ls:Below w.heap.size w wr:=by rw[Fm.out];exact cN
      obtain⟨bu,ou,rfl,_,d0⟩:=(kO.below Ls zr).at hn;have DH:=Below.keep Ls hc;obtain⟨vn,hlk,Sw⟩:=h.units.iL hnl;obtain⟨ln,yy⟩:∃ln,aq us n=ln:=⟨_,rfl⟩
      rw[yy] at hlk Sw;obtain⟨xa,xc,xd,rfl,_,yF,rH,Bp⟩:=Sw;obtain⟨Cp,Cq,rfl,_⟩:=yF.shape;obtain⟨Cr,Cs,rfl,_⟩:=rH.shape;obtain⟨Ct,Cu,rfl,_⟩:=Bp.shape;clear yF rH Bp;generalize ln.getD .zero=X at *;have j1:=hlk wr true (cN.block mu Fv);have hA:=(zb wr).alloc zr (.cells #[str X.name,.int .i64 (X.version:Int),str X.source,str X.aO,.slice Cp X.uses.length Cq,.bool X.built,.slice Cr (aH X.code).length Cs,.slice Ct X.used.length Cu] 41);have Lh:=CC.below hA zr;have NP:M≤wr.heap.size:=by omega
      have z7:=cN.trans (aa hA NP);have Sj:=(hA.block mu (by omega)).trans hmx;have Sn:=(hA.block (M+1) (by omega)).trans KF;have MJ:=Nat.le_trans N3 hA.size;have h63:(j:Int)+1≤9223372036854775807:=by omega
      have qi:u.uses.take (j+1)=u.uses.take j++[n]:=by rw[List.take_add_one,hn];rfl
      clear hlk CC;rcases ln with _|z
      · have F8:=zh (show ∀x,x∈fq T n↔iW us ss x∨(aq us x=none∧x∈u.uses.take (j+1)) from λx=>by
         rw[ve,hT x,qi,List.mem_append,List.mem_singleton]
         constructor
         · rintro((h1|⟨h1,h2⟩)|rfl)
           · exact .inl h1
           · exact .inr ⟨h1,.inl h2⟩
           · exact .inr ⟨yy,.inr rfl⟩
         · rintro(h1|⟨h1,h2|rfl⟩)
           · exact .inl (.inl h1)
           · exact .inl (.inr ⟨h1,h2⟩)
           · exact .inr rfl)
        have Bd:(fq T n).length≤ss.length * 100+(j+1):=Nat.le_trans (zzq T n) (by omega);have Pw:=pG CF n;have hml:(fO T).length<maxLen:=by
         have:=ow.out;rw[fP];unfold maxLen;omega
        dsimp only[Option.isSome_none] at j1;clear hT F9 CF qi hn yy hstep;go_wp2_with (at_mapUpdate;refine iq rfl _ _ _ rfl Tryz.underlying42 Lh hml (f:=.bool true) rfl rfl rfl hnl ?_;intro w6 CA MO);rw[nP] at CA;have HH:=MO.grown;have hne:∀b,b≠M→b<(wr.alloc (.cells #[str X.name,.int .i64 (X.version:Int),str X.source,str X.aO,.slice Cp X.uses.length Cq,.bool X.built,.slice Cr (aH X.code).length Cs,.slice Ct X.used.length Cu] 41)).heap.size→w6.heap[b]? =(wr.alloc (.cells #[str X.name,.int .i64 (X.version:Int),str X.source,str X.aO,.slice Cp X.uses.length Cq,.bool X.built,.slice Cr (aH X.code).length Cs,.slice Ct X.used.length Cu] 41)).heap[b]? :=λb hb hl=>HH.block b hl (λe=>by injection e with e;exact hb e)
        have hsz:=hA.size;exact⟨⟨j+1,_,hlt2,by go_num,CA,Pw,F8.out,Bd,z7.grown HH (by omega) (λb e=>by injection e with e;omega),Nat.le_trans MJ HH.size,(hne mu (by omega) (by omega)).trans Sj,(hne (M+1) (by omega) (by omega)).trans Sn⟩,by simp only[intOf];omega⟩
      · have F8 := zh (show ∀ x, x ∈ T ↔ iW us ss x ∨ (aq us x = none ∧ x ∈ u.uses.take (j + 1)) from fun x => by
         rw[hT x,qi,List.mem_append,List.mem_singleton]
         constructor
         · rintro(h1|⟨h1,h2⟩)
           · exact .inl h1
           · exact .inr ⟨h1,.inl h2⟩
         · rintro(h1|⟨h1,h2|rfl⟩)
           · exact .inl h1
           · exact .inr ⟨h1,h2⟩
           · rw[yy] at h1
             cases h1)
        dsimp only[Option.isSome_some] at j1;clear hT qi hn yy hstep;go_wp2_with fail;exact⟨⟨j+1,T,hlt2,by go_num,Lh,CF,F8.out,by omega,z7,MJ,Sj,Sn⟩,by simp only[intOf];omega⟩
def cD (us:List (List UInt8×az)):Nat→List (List UInt8)→List UInt8→List (List UInt8)
 | 0,out,_=>out
 | f+1,out,n=>match aq us n with
  | none=>out
  | some u=>if n∈out then out else u.uses.foldl (cD us f) (out++[n])
def bS (us:List (List UInt8×az)) (n:List UInt8):List (List UInt8):=cD us (us.length+1) [] n
def jY (us:List (List UInt8×az)) (out:List (List UInt8)):Nat:=(us.filter λx=>decide (x.1∉out)).length
theorem qW (us:List (List UInt8×az)):∀(f:Nat) (out:List (List UInt8)) (n:List UInt8),∀x∈out,x∈cD us f out n
 | 0,_,_,_,h=>h
 | f + 1, out, n, x, h => by
  unfold cD;split
  · exact h
  · split
    · exact h
    · rename_i u _ _
      have key:∀(l:List (List UInt8)) (o:List (List UInt8)),x∈o→x∈l.foldl (cD us f) o:=by
       intro l
       induction l with
       | nil=>exact λ_ h=>h
       | cons a l ih=>exact λo ho=>ih _ (qW us f o a x ho)
      exact key _ _ (List.mem_append_left _ h)
theorem su (us:List (List UInt8×az)) (f:Nat):∀(l:List (List UInt8)) (o:List (List UInt8)),∀x∈o,x∈l.foldl (cD us f) o
 | [],_,_,h=>h
 | a::l,o,x,h=>su us f l _ x (qW us f o a x h)
theorem sY {us:List (List UInt8×az)} {a b:List (List UInt8)} (h:∀x∈a,x∈b):jY us b≤jY us a:=by
 unfold jY
 induction us with
 | nil=>simp
 | cons x us ih=>
  rw[List.filter_cons,List.filter_cons]
  by_cases h1:x.1∈a
  · rw[if_neg (by simpa using h x.1 h1),if_neg (by simpa using h1)]
    exact ih
  · rw[if_pos (show decide (x.1∉a)=true by simpa using h1)]
    split
    · simp only[List.length_cons];omega
    · simp only[List.length_cons];omega
theorem sX {us:List (List UInt8×az)} {out:List (List UInt8)} {n:List UInt8} (hn:n∉out) (hu:(aq us n).isSome=true):jY us (out++[n])<jY us out:=by
 have hm:=bJ.1 hu
 unfold jY
 induction us with
 | nil=>cases hm
 | cons x us ih=>
  have hmono:=sY (us:=us) (a:=out) (b:=out++[n]) λx hx=>List.mem_append_left _ hx
  unfold jY at hmono;rw[List.filter_cons,List.filter_cons]
  by_cases hx:x.1=n
  · rw[if_neg (by simp[hx]),if_pos (by simpa[hx] using hn)]
    simp only[List.length_cons];omega
  · have h2:=ih (by rw[bA,if_neg hx] at hu;exact hu) (by
     rcases List.mem_cons.1 (show n∈x.1::us.map (·.1) from hm) with h|h
     · exact absurd h.symm hx
     · exact h)
    by_cases h1:x.1∈out
    · rw[if_neg (by simp[h1]),if_neg (by simpa using h1)]
      exact h2
    · rw[if_pos (by simp[h1,hx]),if_pos (by simpa using h1)]
      simp only[List.length_cons];omega
theorem kz {us:List (List UInt8×az)} {f:Nat} (P:List (List UInt8)→Prop) (h:∀out n,P out→P (cD us f out n)):∀(l:List (List UInt8)) (o:List (List UInt8)),P o→P (l.foldl (cD us f) o)
 | [],_,ho=>ho
 | a::l,o,ho=>kz P h l _ (h o a ho)
theorem mh (us:List (List UInt8×az)):∀(f:Nat) (out:List (List UInt8)) (n:List UInt8),out.length+jY us out≤us.length→(cD us f out n).length+jY us (cD us f out n)≤us.length
 | 0,_,_,h=>h
 | f+1,out,n,h=>by
  unfold cD;split
  · exact h
  · rename_i u hu
    split
    · exact h
    · rename_i hn
      have h1:=sX hn (us:=us) (by rw[hu];rfl);exact kz (λo=>o.length+jY us o≤us.length) (λo n ho=>mh us f o n ho) _ _ (by rw[List.length_append];simp only[List.length_cons,List.length_nil];omega)
theorem qH (us:List (List UInt8×az)):jY us []=us.length:=by
 unfold jY
 simp
theorem tJ.nB {R:Nat→Prop} {w w':World} {sb mu m:Nat} {us:List (List UInt8×az)} (h:tJ R w sb mu us) (hg:w.grownBy w' (some m)) (hm:∃es c,w.heap[m]? =some (.map es c)) (hne:mu≠m):tJ R w' sb mu us:=by
 obtain⟨x,y,hh⟩:=h.head
 obtain⟨es,c,hm⟩:=hm
 have key:∀{b:Nat} {cs:Array Value} {t:TypeId} {fl:Nat×Nat},w.heap[b]? =some (.cells cs t fl)→w'.heap[b]? =some (.cells cs t fl):=λe=>(hg.block _ (aj e) (λe2=>by injection e2 with e2;subst e2;rw[hm] at e;cases e)).trans e
 refine⟨⟨x,y,key hh⟩,h.units.ey (λb o e ho=>?_) (hg.block mu h.wX (λe=>by injection e with e;exact hne e)),h.ok,h.len⟩
 obtain⟨cs,t,fl,rfl,_⟩:=ho
 exact key e
structure lF (w:World) (n2 n5 n6 sb m:Nat):Prop where
 c2:w.heap[n2]? =some (.cells #[.pointer (some ⟨sb,0,none⟩)] 159 (0,0))
 c5:w.heap[n5]? =some (.cells #[.map (some m)] 42 (0,0))
 c6:w.heap[n6]? =some (.cells #[.func (.func 93) #[] #[.pointer (some ⟨n2,0,none⟩),.pointer (some ⟨n5,0,none⟩),.pointer (some ⟨n6,0,none⟩)]] 143 (0,0))
theorem lF.nB {w w':World} {n2 n5 n6 sb m:Nat} (h:lF w n2 n5 n6 sb m) (hg:w.grownBy w' (some m)) (hm:∃es c,w.heap[m]? =some (.map es c)):lF w' n2 n5 n6 sb m:=by
 obtain⟨es,c,hm⟩:=hm
 have key:∀{b:Nat} {cs:Array Value} {t:TypeId} {fl:Nat×Nat},w.heap[b]? =some (.cells cs t fl)→w'.heap[b]? =some (.cells cs t fl):=λe=>(hg.block _ (aj e) (λe2=>by injection e2 with e2;subst e2;rw[hm] at e;cases e)).trans e
 exact⟨key h.c2,key h.c5,key h.c6⟩
theorem lF.cells {w:World} {n2 n5 n6 sb m:Nat} (h:lF w n2 n5 n6 sb m):w.cell? ⟨n2,0,none⟩=some (.pointer (some ⟨sb,0,none⟩))∧w.cell? ⟨n5,0,none⟩=some (.map (some m))∧w.cell? ⟨n6,0,none⟩=some (.func (.func 93) #[] #[.pointer (some ⟨n2,0,none⟩),.pointer (some ⟨n5,0,none⟩),.pointer (some ⟨n6,0,none⟩)]):=⟨(af h.c2 0).trans rfl,(af h.c5 0).trans rfl,(af h.c6 0).trans rfl⟩
theorem xH {us:List (List UInt8×az)} {f:Nat} {out:List (List UInt8)} {n:List UInt8} (h:aq us n=none):cD us (f+1) out n=out:=by unfold cD;rw[h]
theorem zN {us:List (List UInt8×az)} {f:Nat} {out:List (List UInt8)} {n:List UInt8} {u:az} (h:aq us n=some u) (hn:n∈out):cD us (f+1) out n=out:=by unfold cD;rw[h];exact if_pos hn
theorem zO {us:List (List UInt8×az)} {f:Nat} {out:List (List UInt8)} {n:List UInt8} {u:az} (h:aq us n=some u) (hn:n∉out):cD us (f+1) out n=u.uses.foldl (cD us f) (out++[n]):=by unfold cD;rw[h];exact if_neg hn
set_option maxRecDepth 8000 in
theorem Ch {R : Nat → Prop} {sb mu n2 n5 n6 m : Nat} {us : List (List UInt8 × az)} (hne : mu ≠ m) : ∀ (f : Nat) (out : List (List UInt8)) (name : List UInt8) (w : World), jY us out < f → out.length + jY us out ≤ us.length → name.length ≤ maxLen → tJ R w sb mu us → lF w n2 n5 n6 sb m → aQ w m (fO out) →
 Calls Tryz.prog 93 #[str name,.pointer (some ⟨n2,0,none⟩),.pointer (some ⟨n5,0,none⟩),.pointer (some ⟨n6,0,none⟩)] w λe w'=>e=.returned (.tuple #[])∧aQ w' m (fO (cD us f out name))∧w.grownBy w' (some m):=by
 intro f
 induction f with
 | zero=>intro out name w h;exact absurd h (Nat.not_lt_zero _)
 | succ f ih =>
  intro out name w UU hlen hnl h hE CC;obtain⟨vu,hlk,oP⟩:=h.units.iL hnl;obtain⟨lu,v8⟩:∃lu,aq us name=lu:=⟨_,rfl⟩
  rw[v8] at hlk oP;obtain⟨ua,uc,ud,rfl,_,kO,nH,nI⟩:=oP;obtain⟨q1,q2,rfl,_⟩:=kO.shape;obtain⟨q3,q4,rfl,_⟩:=nH.shape;obtain⟨q5,q6,rfl,_⟩:=nI.shape;have j1:=hlk w true rfl;have hc:=h.cell;have ec:=hE.cells;clear hlk nH nI;rcases lu with _|u
  · rw[xH v8]
    dsimp only[Option.isSome_none,Option.getD_none] at j1;have hA:=(zb w).alloc zr (.cells #[str az.zero.name,.int .i64 (az.zero.version:Int),str az.zero.source,str az.zero.aO,.slice q1 az.zero.uses.length q2,.bool az.zero.built,.slice q3 (aH az.zero.code).length q4,.slice q5 az.zero.used.length q6] 41);go_enter Tryz.func93,Tryz.ntmps93;go_wp2_with fail;refine bodyPost_ret (results_none rfl _ _ _) rfl ?_;exact⟨rfl,CC.below hA zr,eR hA _⟩
  · dsimp only[Option.isSome_some,Option.getD_some] at j1 kO
    have hA:=(zb w).alloc zr (.cells #[str u.name,.int .i64 (u.version:Int),str u.source,str u.aO,.slice q1 u.uses.length q2,.bool u.built,.slice q3 (aH u.code).length q4,.slice q5 u.used.length q6] 41);have gN:=heap_alloc_new w (.cells #[str u.name,.int .i64 (u.version:Int),str u.source,str u.aO,.slice q1 u.uses.length q2,.bool u.built,.slice q3 (aH u.code).length q4,.slice q5 u.used.length q6] 41);have NX:=eR hA (some m);have hmap:=aQ.map CC;have OS:=(hE.nB NX hmap);have Le:=CC.below hA zr;have RR:=h.below hA zr;have I2:=OS.cells;have KI:=hA.size;have MR:=(h.ok name u v8).uses;have JL:∀n∈u.uses,n.length≤maxLen:=by
     obtain⟨_,_,_,_,_,hh⟩:=kO.shape;exact hh
    have JI:=(kO.below hA zr);have b4:=(af gN 4).trans rfl;have sC:=Le.get hnl Tryz.underlying42 (z:=.bool false) rfl;rw[lT] at sC
    by_cases hn:name∈out
    · rw[zN v8 hn]
      rw[if_pos hn] at sC;dsimp only[Option.getD_some] at sC;clear hn v8;go_enter Tryz.func93,Tryz.ntmps93;go_wp2_with fail;refine bodyPost_ret (results_none rfl _ _ _) rfl ?_;exact⟨rfl,Le,NX⟩
    · rw [zO v8 hn]
      rw[if_neg hn] at sC;dsimp only[Option.getD_none] at sC;have Sq:=sX hn (us:=us) (by rw[v8];rfl);have sB:(out++[name]).length+jY us (out++[name])≤us.length:=by
       rw[List.length_append];simp only[List.length_cons,List.length_nil];omega
      have hml:(fO out).length<maxLen:=by
       have:=h.len;rw[fP];unfold maxLen;omega
      have PC:fq out name=out++[name]:=if_neg hn;clear hn v8 kO;go_enter Tryz.func93,Tryz.ntmps93;go_upto_region 2 with fail;generalize w.alloc (.cells #[str u.name,.int .i64 (u.version:Int),str u.source,str u.aO,.slice q1 u.uses.length q2,.bool u.built,.slice q3 (aH u.code).length q4,.slice q5 u.used.length q6] 41)=W1 at *;have hrow:=JI;have DT:=aQ.map Le;go_wp2_with (at_mapUpdate;refine iq rfl _ _ _ rfl Tryz.underlying42 Le hml (f:=.bool true) rfl rfl rfl hnl ?_;intro W2 Cz ht2;rw[nP,PC] at Cz;have hg2:=ht2.grown;have Ta:=(World.cell?_of_block (w:=W1) (w':=W2) (a:=⟨w.heap.size,4,none⟩) (hg2.block w.heap.size (aj gN) (λe=>by injection e with e;subst e;obtain⟨_,_,hq⟩:=DT;rw[gN] at hq;cases hq))).trans b4);have jO:=RR.nB hg2 DT hne;have NK:=OS.nB hg2 DT;have H9:=aQ.map Cz;have PU:=NX.trans hg2;have kW:SS (Fr R w) W2 (.slice q1 u.uses.length q2) u.uses:=JI.agree λb hb hl=>hg2.block b hl (λe=>by
       injection e with e;subst e;obtain⟨_,_,hq⟩:=hmap;obtain⟨⟨x,hx,hx2⟩,_⟩:=hb;rw[hq] at hx;cases hx;obtain⟨_,_,_,e,_⟩:=hx2;cases e)
      clear RR OS Le hA gN b4 Ta I2 ec hc j1 sC NX hg2 JI ht2 hrow KI;go_loopw [30] (λy wx=>∃(j:Nat) (o:List (List UInt8)),j≤u.uses.length∧y=.int .i64 j∧aQ wx m (fO o)∧o=(u.uses.take j).foldl (cD us f) (out++[name])∧W2.grownBy wx (some m)) (λy _=>u.uses.length - (intOf y).toNat)
      case atStart=>exact⟨0,_,Nat.zero_le _,by go_num,Cz,rfl,rfl,rfl,rfl,nl _,λ_ _ _=>rfl⟩
      case round=>
       clear Cz;obtain⟨j,o,hj,rfl,Ke,ho,Mk⟩:=hrel
       by_cases hlt:j<u.uses.length
       case neg=>
        obtain rfl:j=u.uses.length:=by omega
        rw[List.take_length] at ho;subst ho;go_wp2_with fail
        go_end0
        exact⟨rfl,Ke,PU.trans Mk⟩
       case pos=>
        obtain⟨n,hn⟩:∃n,u.uses[j]? =some n:=⟨_,List.getElem?_eq_getElem hlt⟩
        have DV:=JL n (List.mem_of_getElem? hn);have KF:SS (Fr R w) wr (.slice q1 u.uses.length q2) u.uses:=kW.agree λb hb hl=>Mk.block b hl (λe=>by
         injection e with e;subst e;obtain⟨_,_,hq⟩:=hmap;obtain⟨⟨x,hx,hx2⟩,_⟩:=hb;rw[hq] at hx;cases hx;obtain⟨_,_,_,e,_⟩:=hx2;cases e)
        obtain⟨bu,ou,rfl,_,d0⟩:=KF.at hn;have oO:=jO.nB Mk H9 hne;have Rn:=NK.nB Mk H9;have A4:=Rn.cells;have hsub:∀x∈out++[name],x∈o:=λx hx=>by rw[ho];exact su us f _ _ x hx
        have hro:=sY (us:=us) hsub;have hlo:o.length+jY us o≤us.length:=by
         rw[ho];exact kz (λo=>o.length+jY us o≤us.length) (λo n h=>mh us f o n h) _ _ sB
        have HV:=ih o n wr (by omega) hlo DV oO Rn Ke;have h63:(j:Int)+1≤9223372036854775807:=by omega
        have KB:=zh (show cD us f o n=(u.uses.take (j+1)).foldl (cD us f) (out++[name]) by
         rw[List.take_add_one,hn,List.foldl_append,←ho]
         rfl)
        clear ih hn ho Ke KF kW hsub hro hlo;go_wp2_with (go_at_call 93;refine HV.mono ?_;clear HV;rintro e w5 ⟨rfl,FY,Hz⟩);exact⟨⟨j+1,_,hlt,by go_num,FY,KB.out,Mk.trans Hz⟩,by simp only[intOf];omega⟩
theorem Du (w:World) (o1 o2 o3 o4:Obj):∃W,(((w.alloc o1).alloc o2).alloc o3).alloc o4=W∧Below w.heap.size w W∧W.heap.size=w.heap.size+4∧W.heap[w.heap.size]? =some o1∧W.heap[w.heap.size+1]? =some o2∧W.heap[w.heap.size+1+1]? =some o3∧W.heap[w.heap.size+1+1+1]? =some o4:=by
 have e1:=heap_alloc_new w o1
 have e2:=heap_alloc_new (w.alloc o1) o2
 have e3:=heap_alloc_new ((w.alloc o1).alloc o2) o3
 have e4:=heap_alloc_new (((w.alloc o1).alloc o2).alloc o3) o4
 simp only[World.size_alloc] at e2 e3 e4
 refine⟨_,rfl,(((((zb w).alloc zr _).alloc (by simp) _).alloc (by simp;omega) _).alloc (by simp;omega) _),by simp,?_,?_,?_,e4⟩
 · exact aK o4 (aK o3 (aK o2 e1))
 · exact aK o4 (aK o3 e2)
 · exact aK o4 e3
set_option maxRecDepth 8000 in
theorem BA {R:Nat→Prop} {sb mu:Nat} {us:List (List UInt8×az)} (name:List UInt8) (hn:name.length≤maxLen) (w:World) (h:tJ R w sb mu us):
 Calls Tryz.prog 52 #[.pointer (some ⟨sb,0,none⟩),str name] w λe w'=>∃m,e=.returned (.map (some m))∧aQ w' m (fO (bS us name))∧w.heap.size≤m∧Below w.heap.size w w':=by
 have hmm:=@run_makeMap Tryz.prog
 have Kz:∀(fn:Fn) (first cap:Array Value) (w:World),(Instr.makeFunc fn first cap).run Tryz.prog w=.ok (.func fn first cap) w:=λ_ _ _ _=>rfl
 obtain⟨W4,Fq,hb4,Wx,g0,g1,g2,g3⟩:=Du w (.cells #[.pointer (some ⟨sb,0,none⟩)] 159) (.map #[] 0) (.cells #[.map (some (w.heap.size+1))] 42) (.cells #[.func (.func 93) #[] #[.pointer (some ⟨w.heap.size,0,none⟩),.pointer (some ⟨w.heap.size+1+1,0,none⟩),.pointer (some ⟨w.heap.size+1+1+1,0,none⟩)]] 143)
 have h0:=aQ.made (w.alloc (.cells #[.pointer (some ⟨sb,0,none⟩)] 159))
 have Ox:=heap_alloc_new (w.alloc (.cells #[.pointer (some ⟨sb,0,none⟩)] 159)) (.map #[] 0)
 rw[World.size_alloc] at h0 Ox
 have hM:aQ W4 (w.heap.size+1) (fO []):=h0.of_block (g1.trans Ox.symm)
 clear h0 Ox
 have hE:lF W4 w.heap.size (w.heap.size+1+1) (w.heap.size+1+1+1) sb (w.heap.size+1):=⟨g0,g2,g3⟩
 have Fv:=h.wX
 have HV:=Ch (R:=R) (us:=us) (mu:=mu) (m:=w.heap.size+1) (by omega) (us.length+1) [] name W4 (by rw[qH];omega) (by rw[qH];simp) hn (h.below hb4 zr) hE hM
 have c2:=(af g2 0).trans rfl
 have c3:=(af g3 0).trans rfl
 go_enter Tryz.func52,Tryz.ntmps52
 go_wp2_with (go_at_call 93;refine HV.mono ?_;clear HV;rintro e w5 ⟨rfl,FY,Hz⟩;have c5:=(af ((Hz.block (w.heap.size+1+1) (aj g2) (λe=>by injection e with e;omega)).trans g2) 0).trans rfl)
 go_ret
 exact⟨_,rfl,FY,Nat.le_succ _,hb4.grown Hz (by omega) (λb e=>by injection e with e;omega)⟩
end Go.Proofs.YtemjidmkolfgnaaGreatDoor
