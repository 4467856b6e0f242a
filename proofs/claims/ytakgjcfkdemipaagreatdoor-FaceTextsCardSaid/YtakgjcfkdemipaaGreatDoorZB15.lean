/-
  Lemmas for the statement: contract: the statements' own examples (arguslaw03.kept). Conditions: bounds of lengths; the variable strings.asciiSpace.
-/
import Derived.Test.YtakgjcfkdemipaaGreatDoorZBn
import Derived.Test.YtakgjcfkdemipaaGreatDoorZB12
import Derived.Test.YtakgjcfkdemipaaGreatDoorZB14
set_option maxHeartbeats 6400000
namespace Go.Proofs.YtakgjcfkdemipaaGreatDoor
section
def eY:List (List UInt8)→Bool
 | []=>true
 | [a]=>isName a
 | a::b::l=>isName a&&Op.bytesLess a b&&eY (b::l)
def cZ (s:bP) (oF:Bool):Bool:=
 decide (s.args.length≤6)&&decide (s.sigs.length≤6)&&eY s.sigs&& !(s.iter&&decide (s.res=[]))&&
  (aQ s).all (λt=>decide ((aq t).1=0)&&(!eM t||oF))
def aU (l:List aL):Bool:=l.all (λn=>cZ n.sig true)&&decide (l.length≤4)&&eY (l.map (·.name))
def o9:List (List UInt8)→Bool
 | []=>true
 | a::l=> !l.contains a&&o9 l
def dF (f:aA):Bool:=
 isName f.name&&decide (1≤f.kind)&&decide (f.kind≤3)&&aU f.ag&&(f.par||f.ag.isEmpty)&&
  decide (1≤f.ops.length)&&decide (f.ops.length≤20)&&f.ops.all (λo=>isName o.name&&cZ o.sig f.par)&&o9 (f.ops.map (·.name))&&
  (decide (f.kind=3)||match f.ops with
   | [o]=>decide (o.name=f.name)&&decide (o.sig.iter=decide (f.kind=2))
   | _=>false)
def ew (l:List aA) (n:List UInt8):Option aA:=l.find? λf=>decide (f.name=n)
def ic (a:List UInt8):List (List UInt8)→List (List UInt8)×Nat
 | []=>([],0)
 | t::l=>if(aV t a).2=0 then(if(ic a l).2=0 then((aV t a).1::(ic a l).1,0) else([],(ic a l).2)) else([],(aV t a).2)
def eF (s:bP) (a:List UInt8):bP×Nat:=
 if a=[] then(s,0)
 else if(ic a s.args).2≠0 then(.zero,(ic a s.args).2)
 else if s.res=[] then(⟨s.iter,(ic a s.args).1,[],s.sigs⟩,0)
 else if(aV s.res a).2≠0 then(.zero,(aV s.res a).2)
 else(⟨s.iter,(ic a s.args).1,(aV s.res a).1,s.sigs⟩,0)
structure bw where
 dG:List aA
 ag:List aL
 par:Bool
def sg (res:List UInt8) (args:List (List UInt8)) (sigs:List (List UInt8)):bP:=⟨false,args,res,sigs⟩
def dU (c:bw) (t:List UInt8):List aL×List UInt8:=
 let eq:aL:=⟨[101,113,117,97,108],sg gC [t,t] []⟩
 match (aq t).2.k with
 | 1=>([eq,⟨[108,101],sg gC [t,t] []⟩,⟨[108,116],sg gC [t,t] []⟩]++([[97,100,100],[115,117,98],[109,117,108]].map λn=>⟨n,sg t [t,t] [[111,118,101,114,102,108,111,119]]⟩)++([[100,105,118],[109,111,100]].map λn=>⟨n,sg t [t,t] [[122,101,114,111,100,105,118,105,100,101]]⟩),[])
 | 2=>([eq,⟨[97,110,100],sg t [t,t] []⟩,⟨[111,114],sg t [t,t] []⟩,⟨[110,111,116],sg t [t] []⟩],[])
 | 3=>([eq],[])
 | 4=>([eq,⟨[97,100,100,104],sg [] [t,(bQ t).1] [[111,118,101,114,102,108,111,119]]⟩,⟨[102,101,116,99,104],sg (bQ t).1 [t,mA] [[98,111,117,110,100,115]]⟩,⟨[110,101,119],sg t [] []⟩,⟨[114,101,109,104],sg (bQ t).1 [t] [[98,111,117,110,100,115]]⟩,⟨[115,105,122,101],sg mA [t] []⟩,⟨[115,116,111,114,101],sg [] [t,mA,(bQ t).1] [[98,111,117,110,100,115]]⟩],[])
 | 5=>(eq::((dJ t).1.flatMap λp=>[⟨[103,101,116,95]++p.1,sg p.2 [t] []⟩,⟨[115,101,116,95]++p.1,sg [] [t,p.2] []⟩])++[⟨[109,97,107,101],sg t ((dJ t).1.map (·.2)) []⟩],[])
 | 6=>(eq::((dJ t).1.flatMap λp=>[⟨[105,115,95]++p.1,sg gC [t] []⟩,⟨[109,97,107,101,95]++p.1,sg t [p.2] []⟩]),[])
 | 7=>(((ew c.dG (eH t).1).map (·.ops)).getD [],(bQ t).1)
 | 8=>(c.ag,[])
 | _=>([],[])
def ng (c:bw) (t n:List UInt8):bP×Nat:=
 match (dU c t).1.find? λo=>decide (o.name=n) with
 | none=>(.zero,40)
 | some o=>eF o.sig (dU c t).2
def Bd (c:bw) (t:List UInt8) (n:aL):Bool:=
 decide ((ng c t n.name).2≠0)||decide ((eF n.sig t).2≠0)|| !pK (ng c t n.name).1 (eF n.sig t).1
def dZ (c:bw) (want:List aL) (t:List UInt8):Option (List UInt8):=(want.find? (Bd c t)).map (·.name)
def dY:List Nat→Nat
 | []=>0
 | e::l=>if e=0 then dY l else e
def gm (c : bw) (rec : List UInt8 → Nat) (u : List UInt8) : Nat :=
 if (aq u).2.k = 7 then
  match ew c.dG (eH u).1 with
  | none=>5
  | some f=>
   if f.kind=3∧(bQ u).2.1=f.par then
    (if(bQ u).2.1=true∧((f.ag≠[]∧rec (bQ u).1≠0)∨(dZ c f.ag (bQ u).1).isSome=true) then 41 else 0)
   else 5
 else 0
def ff (c:bw):Nat→List UInt8→Nat
 | 0,_=>0
 | n+1,t=>
  if(aq t).1≠0 then(aq t).1
  else if eM t=true∧c.par=false then 43
  else dY ((cT t).1.map (gm c (ff c n)))
def dz (c:bw) (t:List UInt8):Nat:=ff c 7 t
def cU:List aA→Nat→Option (List UInt8)→Option (Nat×Nat)
 | [],_,_=>none
 | f::l,i,p=>
  if 20≤i then some (i,2)
  else if dF f=false then some (i,42)
  else if(p.any λq=> !Op.bytesLess q f.name)=true then some (i,6)
  else cU l (i+1) (some f.name)
def mL (f:aA):List bP:=f.ag.map (·.sig)++f.ops.map (·.sig)
def fI (all:List aA):List aA→Nat→Option (Nat×Nat)
 | [],_=>none
 | f::l,i=>
  let e:=dY (((mL f).flatMap aQ).map (dz ⟨all,f.ag,f.par⟩))
  if e=0 then fI all l (i+1) else some (i,e)
def kS (l:List aA):Nat×Nat:=((cU l 0 none).orElse λ_=>fI l l 0).getD (0,0)
def ez (a:List UInt8):List aL→List aL×Nat
 | []=>([],0)
 | o::l=>if(eF o.sig a).2=0 then(if(ez a l).2=0 then(⟨o.name,(eF o.sig a).1⟩::(ez a l).1,0) else([],(ez a l).2)) else([],(eF o.sig a).2)
def qX (x:aL):List aL→List aL
 | []=>[x]
 | y::l=>if Op.bytesLess y.name x.name=true then y::qX x l else x::y::l
def lH (l:List aL):List aL:=l.foldl (λacc x=>qX x acc) []
def cE (l:List aA) (ag:List aL):Nat:=if(kS l).2≠0 then(kS l).2 else if aU ag=true then 0 else 42
def fP (ag:List aL) (t:List UInt8):Bool:=decide (0<ag.length)||eM t
def fJ (l:List aA) (ag:List aL) (t:List UInt8):Nat:=if cE l ag≠0 then cE l ag else dz ⟨l,ag,fP ag t⟩ t
def wT (l:List aA) (ag:List aL) (par:Bool) (t:List UInt8):Nat:=if cE l ag≠0 then cE l ag else dz ⟨l,ag,par⟩ t
def Es (c:bw) (t:List UInt8):List aL×Nat:=if(ez (dU c t).2 (dU c t).1).2≠0 then([],(ez (dU c t).2 (dU c t).1).2) else(lH (ez (dU c t).2 (dU c t).1).1,0)
def jA (l:List aA) (ag:List aL) (t:List UInt8):List aL×Nat:=if fJ l ag t≠0 then([],fJ l ag t) else Es ⟨l,ag,fP ag t⟩ t
def jP (l:List aA) (ag:List aL) (t n:List UInt8):bP×Nat:=if fJ l ag t≠0 then(.zero,fJ l ag t) else ng ⟨l,ag,fP ag t⟩ t n
def AZ (c:bw) (want:List aL) (t:List UInt8):Bool:=(want.isEmpty||decide (dz c t=0))&&(dZ c want t).isNone
def ER (c:bw) (f:aA) (a:List UInt8):bP×Nat:=
 if f.kind=3∨f.par≠decide (a≠[]) then(.zero,5)
 else if f.par=true∧dz c a≠0 then(.zero,dz c a)
 else if f.par=true∧AZ c f.ag a=false then(.zero,41)
 else match f.ops with
  | []=>(.zero,0)
  | o::_=>eF o.sig a
def lF (l:List aA) (ag:List aL) (n a:List UInt8):bP×Nat:=
 if cE l ag≠0 then(.zero,cE l ag)
 else match ew l n with
  | none=>(.zero,5)
  | some f=>ER ⟨l,ag,fP ag a⟩ f a
def s9 (l:List aA) (ag want:List aL) (t:List UInt8):List UInt8×Bool×Nat:=
 if cE l ag≠0 then([],false,cE l ag)
 else if aU want=false then([],false,42)
 else if dz ⟨l,ag,fP ag t⟩ t≠0 then([],false,dz ⟨l,ag,fP ag t⟩ t)
 else match dZ ⟨l,ag,fP ag t⟩ want t with
  | none=>([],true,0)
  | some n=>(n,false,0)
def uF (f:aA):List (List UInt8)×Nat:=
 if dF f=true then(gB (((mL f).flatMap aQ).flatMap λt=>(bZ t).1),0) else([],42)
def Ji (s:bP):List UInt8:=
 (if s.iter then [105,116,101,114,40] else [112,114,111,99,40])++cH s.args++[41]++(if s.res=[] then [] else(if s.iter then [32,121,105,101,108,100,115,32] else [32,114,101,116,117,114,110,115,32])++s.res)++
  (if s.sigs=[] then [] else [32,115,105,103,110,97,108,115,40]++cH s.sigs++[41])
def dR (word:List UInt8) (o:aL):List UInt8:=word++[32]++o.name++[32]++Ji o.sig++[10]
def AX (f:aA):List UInt8:=
 (if f.kind=1 then [112,114,111,99] else if f.kind=2 then [105,116,101,114] else [99,108,117,115,116,101,114])++[32]++f.name++(if f.par then [91,116,93] else [])++[10]++
  f.ag.flatMap (dR ([104,97,115]))++f.ops.flatMap (dR ([111,112]))
def su (f:aA):List UInt8×Nat:=if dF f=true then(AX f,0) else([],42)
end
section
open Go.RowKit
theorem Strs.sh {w:World} {v:Value} {ss:List (List UInt8)} (h:Strs w v ss):∃p c,v=.slice p ss.length c:=by
 rcases h.shape with⟨rfl,rfl⟩|⟨b,o,c,rfl,_⟩
 · exact⟨none,0,rfl⟩
 · exact⟨_,_,rfl⟩
theorem Strs.at {w:World} {p:Option Addr} {n c:Nat} {ss:List (List UInt8)} (h:Strs w (.slice p n c) ss) {k:Nat} {x:List UInt8} (hk:ss[k]? =some x):∃b o,p=some ⟨b,o,none⟩∧w.cell? ⟨b,o+k,none⟩=some (str x):=by
 obtain⟨hj,e⟩:=List.getElem?_eq_some_iff.1 hk
 rcases h.shape with⟨h1,rfl⟩|⟨b,o,c',h1,_,h3⟩
 · simp at hj
 · injection h1 with h1
   exact⟨b,o,h1,by rw[h3 k hj,e]⟩


end
section
theorem Fe {s u:List UInt8} {t a:Tr} (hs:aq s=(0,t)) (hu:aq u=(0,a)):aV s u=kJ (t.put a):=by
 unfold aV jC
 simp only[hs,hu,if_true]
theorem Ff {s u x:List UInt8} (h:aV s u=(x,0)):∃t a,aq s=(0,t)∧aq u=(0,a)∧x=(t.put a).txt∧aq x=(0,t.put a):=by
 have h2:(jC s u).2.2=0:=by
  unfold aV at h;split at h
  · assumption
  · rename_i hc;simp only[Prod.mk.injEq] at h;exact absurd h.2 hc
 rcases hq:jC s u with⟨t,a,c⟩
 rw[hq] at h2
 simp only at h2
 subst h2
 obtain⟨h3,h4⟩:=BA hq
 rw[Fe h3 h4] at h
 obtain⟨o1,_⟩:=bC h3
 obtain⟨o2,_⟩:=bC h4
 have ho:(t.put a).ok:=Tr.ok.put o2 o1
 unfold kJ at h
 split at h
 · simp at h
 · rename_i hs
   simp only[Prod.mk.injEq,and_true] at h;refine⟨t,a,h3,h4,h.symm,?_⟩;rw[←h,oq ho,if_neg hs]
end
section
open Go.RowKit

end
section
def Fo.CB:Fo→List (List UInt8×Tr)
 | .nil=>[]
 | .cons pn k n sub rest=>(pn,⟨k,n,sub⟩)::rest.CB
theorem Fo.vB:∀fo:Fo,fo.pts=fo.CB.map λx=>(x.1,x.2.txt)
 | .nil=>rfl
 | .cons pn k n sub rest=>by rw[Fo.pts,Fo.CB,List.map_cons,Fo.vB rest]
theorem Wf.parts {tag:Option (List UInt8)} {fo:Fo} (h:Wf tag fo):∀b,tag=some b→(∀x∈fo.CB,isName x.1=true∧x.2.ok∧Op.bytesLess b x.1=true∧x.2.level≤fo.level)∧fo.CB.Pairwise λx y=>Op.bytesLess x.1 y.1=true:=by
 induction h with
 | par=>intro b h;simp at h
 | word=>intro b h;simp at h
 | arr=>intro b h;simp at h
 | rcd=>intro b h;simp at h
 | nam=>intro b h;simp at h
 | app=>intro b h;simp at h
 | last b pn k n sub hn hb h ih=>
  intro b' e;injection e with e;subst e;refine⟨λx hx=>?_,by simp[Fo.CB]⟩;simp only[Fo.CB,List.mem_singleton] at hx;subst hx;exact⟨hn,h,hb,by simp only[Tr.level,Fo.level];omega⟩
 | more b pn k n sub rest hn hb h h2 ih ih2=>
  intro b' e;injection e with e;subst e;obtain⟨i1,i2⟩:=ih2 pn rfl
  constructor
  · intro x hx
    rw[Fo.CB] at hx;rcases List.mem_cons.1 hx with rfl|hx
    · exact⟨hn,h,hb,by simp only[Tr.level,Fo.level];omega⟩
    · obtain⟨j1,j2,j3,j4⟩:=i1 x hx
      exact⟨j1,j2,fT _ _ _ hb j3,by simp only[Fo.level];omega⟩
  · rw[Fo.CB,List.pairwise_cons]
    exact⟨λx hx=>(i1 x hx).2.2.1,i2⟩
theorem nJ {t:Tr} (h:t.ok) (h1:t.txt.length≤100) (h2:t.level≤6):aq t.txt=(0,t):=by
 rw[oq h,if_neg (by omega)]
theorem Ja {T:Tr} (h:T.ok) (hk:T.k=5∨T.k=6):Wf (some []) T.sub:=by
 obtain⟨k,n,fo⟩:=T
 simp only at hk ⊢
 have h':Wf none (.cons [] k n fo .nil):=h
 clear h
 cases h' with
 | par=>simp at hk
 | word _ h3=>omega
 | arr _ h=>simp at hk
 | rcd _ _ _ hk2 h hl=>exact h
 | nam _ _=>simp at hk
 | app _ _ _ h=>simp at hk
theorem tR (ts:List Tr):jL ts=iX (ts.map (·.txt)):=by
 unfold jL iX
 rw[List.foldl_map]
theorem BN (acc l:List (List UInt8)):∃r,l.foldl (λacc s=>if hasB acc s then acc else acc++[s]) acc=acc++r:=by
 induction l generalizing acc with
 | nil=>exact⟨[],by simp⟩
 | cons s l ih=>
  rw[List.foldl_cons];split
  · exact ih acc
  · obtain⟨r,hr⟩:=ih (acc++[s])
    exact⟨s::r,by rw[hr];simp⟩
theorem Aa (s:List UInt8) (l:List (List UInt8)):∃r,iX (s::l)=s::r:=by
 obtain⟨r,hr⟩:=BN [s] l
 refine⟨r,?_⟩
 unfold iX
 rw[List.foldl_cons]
 exact hr
theorem Fo.zJ:∀fo:Fo,(fo=.nil∨∃tag,Wf tag fo)→∀u∈fo.ins,u.ok∧u.level≤fo.level
 | .nil,_,u,hu=>by simp[Fo.ins] at hu
 | .cons pn k n sub rest, h, u, hu => by
  obtain⟨tag,hw⟩:∃tag,Wf tag (.cons pn k n sub rest):=by
   rcases h with h|h
   · simp at h
   · exact h
  obtain⟨h1,h2⟩:=hw.head;rw[Fo.ins] at hu;rw[Fo.level];rcases List.mem_cons.1 hu with hu|hu
  · subst hu
    refine⟨h1,?_⟩;unfold Tr.level;simp only;omega
  · rcases List.mem_append.1 hu with hu|hu
    · have:=Fo.zJ sub h1.inner u hu
      exact⟨this.1,by omega⟩
    · have:=Fo.zJ rest h2 u hu
      exact⟨this.1,by omega⟩
theorem Fo.zK:∀fo:Fo,∀u∈fo.ins,u.txt.length≤fo.tx.length
 | .nil,u,hu=>by simp[Fo.ins] at hu
 | .cons pn k n sub rest, u, hu => by
  obtain⟨e1,e2,e3⟩:=Fo.vQ pn k n sub rest;rw[Fo.ins] at hu;rcases List.mem_cons.1 hu with hu|hu
  · subst hu
    rw[Tr.eA];exact e1
  · rcases List.mem_append.1 hu with hu|hu
    · have:=Fo.zK sub u hu
      omega
    · have:=Fo.zK rest u hu
      omega
theorem Tr.ok.A9 {t u:Tr} (h:t.ok) (hu:u∈t.ins):u.ok∧u.txt.length≤t.txt.length∧(u=t∨u.level<t.level):=by
 unfold Tr.ins at hu
 rcases List.mem_cons.1 hu with hu|hu
 · subst hu
   exact⟨h,nl _,.inl rfl⟩
 · have h1:t.sub=.nil∨∃tag,Wf tag t.sub:=Wf.inner (show Wf none (.cons [] t.k t.n t.sub .nil) from h)
   obtain⟨o,l⟩:=Fo.zJ t.sub h1 u hu;have hl:=Fo.zK t.sub u hu;obtain⟨_,e2,_⟩:=Fo.vQ [] t.k t.n t.sub .nil;refine⟨o,?_,.inr (by unfold Tr.level at l ⊢;omega)⟩;rw[Tr.eA t];exact Nat.le_trans hl e2
theorem ve {t:List UInt8} {T:Tr} (h:aq t=(0,T)):∃r,cT t=(t::r,0)∧(t::r).length≤100∧∀s∈r,s≠t∧∃U,aq s=(0,U)∧s.length≤100∧U.level<T.level:=by
 obtain⟨o,e,l,v⟩:=bC h
 obtain⟨r,hr⟩:=Aa t (T.sub.ins.map (·.txt))
 have hi:jL T.ins=t::r:=by
  rw[tR,Tr.ins,List.map_cons,e];exact hr
 refine⟨r,?_,?_,?_⟩
 · unfold cT
   rw[h];simp only[if_true];rw[hi]
 · have h1:=xz T.ins
   have h2:=o.lV;rw[hi] at h1;rw[e] at h2;omega
 · intro s hs
   have hnd:=o8 (t::T.sub.ins.map (·.txt));rw[hr] at hnd;have hne:s≠t:=λe=>(List.nodup_cons.1 hnd).1 (e▸hs)
   have hm:s∈iX (t::T.sub.ins.map (·.txt)):=by rw[hr];exact List.mem_cons_of_mem _ hs
   rw[l5] at hm;rcases List.mem_cons.1 hm with hm|hm
   · exact absurd hm hne
   · obtain⟨U,hU,rfl⟩:=List.mem_map.1 hm
     obtain⟨oU,lU,Kt⟩:=o.A9 (List.mem_cons_of_mem _ hU);rw[e] at lU;rcases Kt with Kt|Kt
     · exact absurd (by rw[Kt];exact e) hne
     · refine⟨hne,U,?_,by omega,Kt⟩
       rw[oq oU,if_neg (by omega)]
theorem CX (t a:List UInt8):(aV t a).1.length≤100:=by
 rcases h:aV t a with⟨x,c⟩
 by_cases hc:c=0
 · subst hc
   obtain⟨_,_,_,_,_,k⟩:=Ff h;exact(bC k).2.2.1
 · unfold aV at h
   split at h
   · unfold kJ at h
     split at h
     · simp only[Prod.mk.injEq] at h;rw[←h.1];simp
     · simp only[Prod.mk.injEq] at h;exact absurd h.2.symm hc
   · simp only[Prod.mk.injEq] at h;rw[←h.1];simp
theorem uf (t:List UInt8):jy t≤6:=by
 unfold jy
 split
 · rename_i h
   exact(bC (s:=t) (t:=(aq t).2) (by rw[←h])).2.2.2
 · omega
end
section
open Go.RowKit
theorem iE : ∀ (l : List aA) (i : Nat) (p : Option (List UInt8)), cU l i p = none → (l = [] ∨ i + l.length ≤ 20) ∧ (∀ f ∈ l, dF f = true) ∧ (∀ q, p = some q → ∀ f ∈ l, Op.bytesLess q f.name = true) ∧ l.Pairwise (fun f g => Op.bytesLess f.name g.name = true)
 | [],_,_,_=>⟨.inl rfl,(λ_ h=>by cases h),(λ_ _ _ h=>by cases h),List.Pairwise.nil⟩
 | f :: l, i, p, h => by
  unfold cU at h;split at h
  · cases h
  · rename_i h1
    split at h
    · cases h
    · rename_i h2
      split at h
      · cases h
      · rename_i h3
        obtain⟨k1,k2,k3,k4⟩:=iE l (i+1) (some f.name) h;have hf:dF f=true:=by simpa using h2
        refine⟨.inr ?_,?_,?_,?_⟩
        · rcases k1 with rfl|k1
          · simp;omega
          · rw[List.length_cons];omega
        · intro g hg
          rcases List.mem_cons.1 hg with rfl|hg
          · exact hf
          · exact k2 g hg
        · rintro q rfl g hg
          have h4:Op.bytesLess q f.name=true:=by simpa using h3
          rcases List.mem_cons.1 hg with rfl|hg
          · exact h4
          · exact fT _ _ _ h4 (k3 _ rfl g hg)
        · exact List.pairwise_cons.2 ⟨λg hg=>k3 _ rfl g hg,k4⟩
theorem qz:∀(l:List aA) (i:Nat) (p:Option (List UInt8)) (j e:Nat),cU l i p=some (j,e)→e≠0
 | [],_,_,_,_,h=>by cases h
 | f::l,i,p,j,e,h=>by
  unfold cU at h;split at h
  · simp only[Option.some.injEq,Prod.mk.injEq] at h;omega
  · split at h
    · simp only[Option.some.injEq,Prod.mk.injEq] at h;omega
    · split at h
      · simp only[Option.some.injEq,Prod.mk.injEq] at h;omega
      · exact qz l _ _ _ _ h
theorem r9 (a:List aA):∀(l:List aA) (i j e:Nat),fI a l i=some (j,e)→e≠0
 | [],_,_,_,h=>by cases h
 | f::l,i,j,e,h=>by
  unfold fI at h;simp only at h;split at h
  · exact r9 a l _ _ _ h
  · simp only[Option.some.injEq,Prod.mk.injEq] at h
    omega
theorem uP {l:List aA} (h:(kS l).2=0):cU l 0 none=none∧fI l l 0=none:=by
 unfold kS at h
 rcases h1:cU l 0 none with _|⟨j,e⟩
 · rcases h2:fI l l 0 with _|⟨j,e⟩
   · exact⟨rfl,rfl⟩
   · rw[h1,h2] at h
     exact absurd h (r9 l l 0 j e h2)
 · rw[h1] at h
   exact absurd h (qz l 0 none j e h1)
theorem vo {a b:List UInt8} (h:Op.bytesLess a b=true):a≠b:=by
 rintro rfl
 rw[lz] at h
 cases h
def mB (fs:List aA):Prop:=fs.Pairwise λf g=>f.name≠g.name
theorem wo {l:List aA} (h:cU l 0 none=none):mB l:=(iE l 0 none h).2.2.2.imp λh=>vo h
theorem gl {s:List UInt8} (h:(aq s).1=0):1≤(aq s).2.k∧(aq s).2.k≤8:=by
 rcases hq:aq s with⟨c,T⟩
 rw[hq] at h
 simp only at h
 subst h
 obtain⟨h1,_⟩:=bC hq
 obtain⟨k,n,sub⟩:=T
 have h':Wf none (.cons [] k n sub .nil):=h1
 simp only
 cases h' with
 | par=>exact⟨by decide,by decide⟩
 | word k h=>rcases h with rfl|rfl|rfl<;>exact⟨by decide,by decide⟩
 | arr a h=>exact⟨by decide,by decide⟩
 | rcd k w fo hk=>rcases hk with⟨rfl,rfl⟩|⟨rfl,rfl⟩<;>exact⟨by decide,by decide⟩
 | nam n hn=>exact⟨by decide,by decide⟩
 | app n a hn h=>exact⟨by decide,by decide⟩
theorem lZ {s:List UInt8} {T:Tr} (h:aq s=(0,T)):jy s=T.level:=by unfold jy;rw[h,if_pos rfl]
theorem zL {t:List UInt8} (h:(aq t).1=0):(cT t).2=0∧(cT t).1.length≤100∧∀u∈(cT t).1,(aq u).1=0∧u.length≤100∧jy u≤jy t:=by
 rcases hq:aq t with⟨c,T⟩
 rw[hq] at h
 simp only at h
 subst h
 obtain⟨r,h1,h2,h3⟩:=ve hq
 rw[h1]
 refine⟨rfl,h2,λu hu=>?_⟩
 rcases List.mem_cons.1 hu with rfl|hu
 · exact⟨by rw[hq],(bC hq).2.2.1,nl _⟩
 · obtain⟨_,U,k1,k2,k3⟩:=h3 u hu
   rw[lZ k1,lZ hq];exact⟨by rw[k1],k2,Nat.le_of_lt k3⟩
theorem Cu {s:List UInt8} (h:(aq s).1=0) (hk:(aq s).2.k=7):mz s [4,7]=aq s∧mz s [7]=aq s:=by
 unfold mz
 rw[if_pos h,if_pos h,if_pos (by rw[hk];rfl),if_pos (by rw[hk];rfl)]
 exact⟨rfl,rfl⟩
theorem sU {u : List UInt8} (h : (aq u).1 = 0) (hk : (aq u).2.k = 7) : (bQ u).2.2 = 0 ∧ (bQ u).1.length ≤ 100 ∧ (eH u).1.length ≤ 100 ∧ (eH u).2 = 0 ∧ ((bQ u).2.1 = true → (aq (bQ u).1).1 = 0 ∧ (bQ u).1 ≠ [] ∧ jy (bQ u).1 < jy u) ∧ ((bQ u).2.1 = false → (bQ u).1 = []) := by
 rcases hq:aq u with⟨c,T⟩
 rw[hq] at h hk
 simp only at h hk
 subst h
 obtain⟨o1,e1,l1,v1⟩:=bC hq
 obtain⟨h4,h7⟩:=Cu (s:=u) (by rw[hq]) (by rw[hq];exact hk)
 rw[hq] at h4 h7
 obtain⟨k,n,sub⟩:=T
 simp only at hk
 subst hk
 have h':Wf none (.cons [] 7 n sub .nil):=o1
 have hn:n.length≤100:=by
  cases h' with
  | word _ h3=>omega
  | rcd _ _ _ hk2=>omega
  | nam n hn=>have:=iT hn;omega
  | app n a hn h=>have:=iT hn;omega
 unfold bQ eH
 rw[h4,h7]
 simp only
 refine⟨by split<;>rfl,?_,hn,trivial,?_,?_⟩
 · split
   · rename_i hz
     have h5:=Fo.ou hz.2;have h6:(Tr.txt ⟨7,n,sub⟩).length≤100:=by rw[e1];exact l1
     rw[vR hz.2] at h6;simp only[List.length_append,List.length_cons] at h6;simp only;omega
   · exact Nat.zero_le _
 · intro hp
   split at hp
   · rename_i hz
     rw[if_pos hz];cases h' with
     | word _ h3=>omega
     | rcd _ _ _ hk2=>omega
     | nam n hn=>exact absurd rfl hz.2
     | app n a hn ha=>
      obtain⟨A,rfl⟩:=ha.one;have hA:A.ok:=ha;have hl:(Tr.txt ⟨7,n,.one A⟩).length≤100:=by rw[e1];exact l1
      rw[Gi] at hl;simp only[List.length_append,List.length_cons] at hl;have hv:Tr.level ⟨7,n,.one A⟩≤6:=v1;rw[uk] at hv;have hc:=nJ hA (by omega) (by omega);have hp:0<A.txt.length:=by
       have:=gM (Tr.ok.reads' (t:=A) ha)
       simpa using this
      refine⟨by rw[show(Fo.one A).first=A from rfl,hc],?_,?_⟩
      · rw[show(Fo.one A).first=A from rfl]
        intro e;have e:A.txt=[]:=e;rw[e] at hp;simp at hp
      · rw[show(Fo.one A).first=A from rfl,lZ hc,lZ hq,uk]
        omega
   · cases hp
 · intro hp
   split at hp
   · cases hp
   · rename_i hz
     rw[if_neg hz]
end
section
open Go.RowKit Go.Maps
def Ic (v:Value):Option (DataW Value×List MemPlace):=some (.held v,[])
def mK (l:List (List UInt8×Value)):DataW Value:=l.foldl (λd x=>d.put (.string x.1) (.held x.2)) (.map [])
theorem rP (l:List (List UInt8×Value)) (x:List UInt8×Value):mK (l++[x])=(mK l).put (.string x.1) (.held x.2):=by unfold mK;rw[List.foldl_append];rfl
theorem uu (l:List (List UInt8×Value)):IsMap (mK l):=by
 have:∀(l:List (List UInt8×Value)) (d:DataW Value),IsMap d→IsMap (l.foldl (λd x=>d.put (.string x.1) (.held x.2)) d):=by
  intro l
  induction l with
  | nil=>intro d h;exact h
  | cons x l ih=>intro d h;exact ih _ (h.put _ _)
 exact this l _ isMap_empty
def jN (k:List UInt8) (l:List (List UInt8×Value)):Option Value:=l.foldl (λa x=>if x.1=k then some x.2 else a) none
theorem zU (k:List UInt8) (l:List (List UInt8×Value)) (x:List UInt8×Value):jN k (l++[x])=if x.1=k then some x.2 else jN k l:=by unfold jN;rw[List.foldl_append];rfl
theorem EF (k:List UInt8) (z:DataW Value) (l:List (List UInt8×Value)):(mK l).atKey (.string k) z=(match jN k l with|none=>z|some v=>.held v)∧has (mK l) (.string k)=(jN k l).isSome:=by
 obtain⟨r,rfl⟩:∃r,l=r.reverse:=⟨l.reverse,by simp⟩
 induction r with
 | nil=>exact⟨rfl,rfl⟩
 | cons x r ih=>
  rw[List.reverse_cons,rP,zU]
  by_cases h:x.1=k
  · subst h
    rw[if_pos rfl];exact⟨atKey_put_same (uu _) (show WideAt.IsKeyLit (Lit.string x.1) from trivial) _ _,has_put_same (uu _) (show WideAt.IsKeyLit (Lit.string x.1) from trivial) _⟩
  · rw[if_neg h,atKey_put_other (λe=>h (by injection e with e;exact e.symm)),has_put_other (λe=>h (by injection e with e;exact e.symm))]
    exact ih
def jd (w:World) (m:Nat) (l:List (List UInt8×Value)):Prop:=w.ownsMap Tryz.prog 9 Ic m l.length (mK l)
theorem jd.made (w:World):jd (w.alloc (.map #[] 0)) w.heap.size []:=World.ownsMap_made w _ _ _
theorem jd.kept {w w':World} {b:Nat} {l:List (List UInt8×Value)} {row:Option Nat} (h:jd w b l) (hg:w.grownBy w' row) (hne:some b≠row):jd w' b l:=World.ownsMap.kept h hg hne
theorem jd.lt {w:World} {b:Nat} {l:List (List UInt8×Value)} (h:jd w b l):b<w.heap.size:=World.ownsMap.lt h
theorem jd.of_block {w w':World} {b:Nat} {l:List (List UInt8×Value)} (h:jd w b l) (hb:w'.heap[b]? =w.heap[b]?):jd w' b l:=by
 obtain⟨es,clock,h1,rest⟩:=h
 exact⟨es,clock,hb.trans h1,rest⟩
theorem jd.below {w w':World} {b K:Nat} {l:List (List UInt8×Value)} (h:jd w b l) (hb:Below K w w') (hK:w.heap.size≤K):jd w' b l:=h.of_block (hb.block b (Nat.lt_of_lt_of_le h.lt hK))
abbrev mD:Value:=.agg #[str [],.int .u8 0,.bool false,.slice none 0 0,.slice none 0 0]
theorem Fp (w:World):(zeroValue 58).run Tryz.prog w=.ok mD w:=by kernel_rfl
theorem jd.look {w:World} {b:Nat} {l:List (List UInt8×Value)} (h:jd w b l) {k:List UInt8} (hk:k.length≤maxLen):
 (Instr.lookup 82 (.map (some b)) (str k) true).run Tryz.prog w=.ok (.tuple #[(jN k l).getD mD,.bool (jN k l).isSome]) w:=by
 obtain⟨v,ps,hrun,hv⟩:=World.ownsMap.look_ok h (string_keyed Tryz.underlying9) Tryz.underlying82 (Fp w) (show Ic mD=some (.held mD,[]) from rfl) (WideMaps.keyOf_string_mk (s:=⟨k.toArray⟩) Tryz.underlying9 (by simpa[ByteArray.size] using hk))
 have hA:=EF k (.held mD) l
 rw[hrun]
 unfold Ic at hv
 simp only[Option.some.injEq,Prod.mk.injEq] at hv
 have h1:=hv.1
 have h1:DataW.held v=(mK l).atKey (Lit.string k) (DataW.held mD):=h1
 rw[hA.1] at h1
 rw[show has (mK l) (Lit.string (⟨k.toArray⟩:ByteArray).data.toList)=has (mK l) (Lit.string k) from rfl,hA.2]
 cases hl:jN k l<;>(rw[hl] at h1;simp at h1;simp[h1])
theorem p8 (w:World) {ops:Array Oper} {rest:List Oper} {o:Oper} {a:Act} {Q:Exit→Act→World→Prop}
 (hg:o.guard=none) (m x v:Operand) (hop:o.op=Op.mapUpdate 82 m x v) (b:Nat) (l:List (List UInt8×Value))
 (hm:a.eval m=.map (some b)) (hown:jd w b l) (hn:l.length<maxLen) (k:List UInt8) (f:Value) (hx:a.eval x=str k) (hv:a.eval v=f) (hk:k.length≤maxLen)
 (hK:∀w',jd w' b (l++[(k,f)])→w.grownBy w' (some b)→wpList Tryz.prog ops Q rest (a.put o.dst undef) w'):
 wpList Tryz.prog ops Q (o::rest) a w:=by
 refine wpList_mapUpdate_own w hg m x v _ hop _ _ (string_keyed Tryz.underlying9) Tryz.underlying82 _ b l.length _ hm hown hn _ _ _ hx hv (WideMaps.keyOf_string_mk (s:=⟨k.toArray⟩) Tryz.underlying9 (by simpa[ByteArray.size] using hk)) (.held f) [] rfl ?_
 intro w' h1 h2
 refine hK w' ?_ h2
 unfold jd
 rw[rP,List.length_append]
 exact h1
def dV (D:Nat→Prop) (w:World) (m:Nat) (fs:List aA):Prop:=
 ∃L:List (aA×Value),L.map (·.1)=fs∧jd w m (L.map λx=>(x.1.name,x.2))∧∀x∈L,dO D w x.2 x.1
theorem dV.below {D:Nat→Prop} {K:Nat} {w w':World} {m:Nat} {fs:List aA} (h:dV D w m fs) (hb:Below K w w') (hK:w.heap.size≤K):dV D w' m fs:=by
 obtain⟨L,h1,h2,h3⟩:=h
 exact⟨L,h1,h2.below hb hK,λx hx=>(h3 x hx).below hb hK⟩
theorem dV.mono {D D':Nat→Prop} {w:World} {m:Nat} {fs:List aA} (h:dV D w m fs) (hD:∀b,D b→D' b):dV D' w m fs:=by
 obtain⟨L,h1,h2,h3⟩:=h
 exact⟨L,h1,h2,λx hx=>(h3 x hx).mono hD⟩
theorem dV.set {D:Nat→Prop} {w:World} {m:Nat} {fs:List aA} (h:dV D w m fs) {a:Addr} (hm:m≠a.block) (ha:∀b,D b→b≠a.block) (u:Value):dV D (w.setCell a u) m fs:=by
 obtain⟨L,h1,h2,h3⟩:=h
 exact⟨L,h1,h2.of_block (heap_setCell_other w a m u hm),λx hx=>(h3 x hx).set ha u⟩
theorem ki (n:List UInt8):∀(L:List (aA×Value)) (a:Option Value),(L.map (·.1)).Pairwise (λf g=>f.name≠g.name)→(L.map λx=>(x.1.name,x.2)).foldl (λa x=>if x.1=n then some x.2 else a) a=match L.find? (λx=>decide (x.1.name=n)) with|some x=>some x.2|none=>a
 | [],a,_=>rfl
 | x :: L, a, h => by
  rw[List.map_cons,List.pairwise_cons] at h;rw[List.map_cons,List.foldl_cons,ki n L _ h.2]
  by_cases hx:x.1.name=n
  · have hn:L.find? (λy=>decide (y.1.name=n))=none:=by
     rw[List.find?_eq_none];intro y hy;have:=h.1 y.1 (List.mem_map_of_mem hy);rw[hx] at this
     simpa using λe=>this e.symm
    rw[hn,List.find?_cons_of_pos (by simpa using hx)];simp[hx]
  · rw[List.find?_cons_of_neg (by simpa using hx)]
    simp[hx]
theorem lR (n:List UInt8):∀(L:List (aA×Value)),ew (L.map (·.1)) n=(L.find? λx=>decide (x.1.name=n)).map (·.1)
 | []=>rfl
 | x::L=>by
  unfold ew at *;rw[List.map_cons]
  by_cases hx:x.1.name=n
  · rw[List.find?_cons_of_pos (by simpa using hx),List.find?_cons_of_pos (by simpa using hx)];rfl
  · rw[List.find?_cons_of_neg (by simpa using hx),List.find?_cons_of_neg (by simpa using hx)]
    exact lR n L
theorem dV.look {D:Nat→Prop} {w:World} {m:Nat} {fs:List aA} (h:dV D w m fs) (ha:mB fs) {n:List UInt8} (hn:n.length≤maxLen):
 ∃v,(Instr.lookup 82 (.map (some m)) (str n) true).run Tryz.prog w=.ok (.tuple #[v,.bool (ew fs n).isSome]) w∧(ew fs n=none→v=mD)∧∀f,ew fs n=some f→dO D w v f:=by
 obtain⟨L,rfl,h2,h3⟩:=h
 refine⟨(jN n (L.map λx=>(x.1.name,x.2))).getD mD,?_,?_,?_⟩
 · rw[h2.look hn]
   have hl:jN n (L.map λx=>(x.1.name,x.2))=(L.find? λx=>decide (x.1.name=n)).map (·.2):=by
    unfold jN;rw[ki n L none ha];cases L.find? (λx=>decide (x.1.name=n))<;>rfl
   rw[lR,hl];simp
 · intro hf
   rw[lR,Option.map_eq_none_iff] at hf;unfold jN;rw[ki n L none ha,hf]
   rfl
 · intro f hf
   rw[lR] at hf;unfold jN;rw[ki n L none ha];rcases hq:L.find? (λx=>decide (x.1.name=n)) with _|x
   · rw[hq] at hf;cases hf
   · rw[hq] at hf
     simp only[Option.map_some,Option.some.injEq] at hf;subst hf;simp only[hq];exact h3 x (List.mem_of_find?_eq_some hq)
end
section
open Go.RowKit
def iq (l:List aL):Prop:=(l.map (·.name)).Nodup
theorem uj:∀l:List (List UInt8),o9 l=true↔l.Nodup
 | []=>by simp[o9]
 | a::l=>by rw[o9,List.nodup_cons,Bool.and_eq_true,uj l];simp
theorem sW:∀l:List (List UInt8),eY l=true→(∀s∈l,isName s=true)∧l.Pairwise λa b=>Op.bytesLess a b=true
 | [],_=>⟨(λ_ h=>by cases h),List.Pairwise.nil⟩
 | [a],h=>⟨(λs hs=>by rw[List.mem_singleton.1 hs];exact h),by simp⟩
 | a::b::l,h=>by
  rw[eY,Bool.and_eq_true,Bool.and_eq_true] at h;obtain⟨⟨h1,h2⟩,h3⟩:=h;obtain⟨k1,k2⟩:=sW (b::l) h3;refine⟨λs hs=>?_,List.pairwise_cons.2 ⟨λs hs=>?_,k2⟩⟩
  · rcases List.mem_cons.1 hs with rfl|hs
    · exact h1
    · exact k1 s hs
  · rcases List.mem_cons.1 hs with rfl|hs
    · exact h2
    · exact fT _ _ _ h2 ((List.pairwise_cons.1 k2).1 s hs)
theorem Dk {l:List aL} (h:eY (l.map (·.name))=true):iq l:=((sW _ h).2).imp λh=>vo h
theorem vr {l:List aL} (h:aU l=true):iq l:=by
 unfold aU at h
 simp only[Bool.and_eq_true] at h
 exact Dk h.2
theorem dQ {f:aA} (h:dF f=true):isName f.name=true∧1≤f.kind∧f.kind≤3∧aU f.ag=true∧(f.par=true∨f.ag=[])∧1≤f.ops.length∧f.ops.length≤20∧(∀o∈f.ops,isName o.name=true∧cZ o.sig f.par=true)∧iq f.ops∧
 (f.kind=3∨∃o,f.ops=[o]∧o.name=f.name∧o.sig.iter=decide (f.kind=2)):=by
 unfold dF at h
 simp only[Bool.and_eq_true,decide_eq_true_eq,Bool.or_eq_true,List.all_eq_true,List.isEmpty_iff] at h
 obtain⟨⟨⟨⟨⟨⟨⟨⟨⟨h1,h2⟩,h3⟩,h4⟩,h5⟩,h6⟩,h7⟩,h8⟩,h9⟩,h10⟩:=h
 refine⟨h1,h2,h3,h4,h5,h6,h7,h8,(uj _).1 h9,?_⟩
 rcases h10 with h10|h10
 · exact .inl h10
 · right
   split at h10
   · rename_i o ho
     simp only[Bool.and_eq_true,decide_eq_true_eq] at h10;exact⟨o,ho,h10.1,h10.2⟩
   · cases h10
theorem eN {s:bP} {o:Bool} (h:cZ s o=true):s.args.length≤6∧s.sigs.length≤6∧eY s.sigs=true∧(s.iter=true→s.res≠[])∧∀t∈aQ s,(aq t).1=0∧(eM t=true→o=true):=by
 unfold cZ at h
 simp only[Bool.and_eq_true,decide_eq_true_eq,List.all_eq_true,Bool.or_eq_true,Bool.not_eq_true',Bool.and_eq_false_iff,decide_eq_false_iff_not] at h
 obtain⟨⟨⟨⟨h1,h2⟩,h3⟩,h4⟩,h5⟩:=h
 refine⟨h1,h2,h3,λh=>?_,λt ht=>⟨(h5 t ht).1,λho=>?_⟩⟩
 · rcases h4 with h4|h4
   · rw[h] at h4;cases h4
   · exact h4
 · rcases(h5 t ht).2 with h6|h6
   · rw[ho] at h6;cases h6
   · exact h6
theorem Fo.Ew:∀(fo:Fo) (y:List UInt8×Tr),y∈fo.CB→∃i pn,fo.at i=some (pn,y.2)
 | .nil,y,h=>by simp[Fo.CB] at h
 | .cons pn k n sub rest, y, h => by
  rw[Fo.CB,List.mem_cons] at h;rcases h with rfl|h
  · exact⟨0,pn,rfl⟩
  · obtain⟨i,sL,hi⟩:=Fo.Ew rest y h
    exact⟨i+1,sL,hi⟩
theorem gZ {t:List UInt8}:(∀x∈(dJ t).1,isName x.1=true∧(aq x.2).1=0)∧((dJ t).1.map (·.1)).Nodup∧(dJ t).1.length≤6:=by
 unfold dJ
 by_cases h0:(mz t [5,6]).1=0
 · rw [if_pos h0]
   rcases hq:mz t [5,6] with⟨c,T⟩;rw[hq] at h0;simp only at h0;subst h0;obtain⟨hc,hk⟩:=rH hq;obtain⟨o1,e1,l1,v1⟩:=bC hc;have hk2:T.k=5∨T.k=6:=by simpa using hk
   have hw:=Ja o1 hk2;obtain⟨p1,p2⟩:=Wf.parts hw [] rfl;have hl:=Bp o1 hk2;simp only;rw[Fo.vB];have hlen:(T.sub.CB.map λx=>(x.1,x.2.txt)).length≤6:=by
    rw[←Fo.vB];have:=Fo.nS T.sub;omega
   refine⟨λx hx=>?_,?_,hlen⟩
   · obtain⟨y,hy,rfl⟩:=List.mem_map.1 hx
     obtain⟨q1,q2,_,q4⟩:=p1 y hy;refine⟨q1,?_⟩;have hin:∃i pn,T.sub.at i=some (pn,y.2):=Fo.Ew T.sub y hy
     obtain⟨i,pn,hat⟩:=hin;have h1:=T.sub.at_len i pn y.2 hat;have h2:=uC T;have h3:=Fo.jG T.sub i pn y.2 hat;have h4:T.txt.length≤100:=by rw[e1];exact l1
     have h5:T.sub.level+1≤6+1:=by
      have:T.level=T.sub.level+1:=rfl;omega
     rw[nJ q2 (by omega) (by have:y.2.level=y.2.sub.level+1:=rfl;have:T.level=T.sub.level+1:=rfl;omega)]
   · rw[List.map_map]
     exact List.pairwise_map.2 (p2.imp λh=>vo h)
 · rw[if_neg h0]
   exact⟨(λ_ h=>by cases h),List.nodup_nil,Nat.zero_le _⟩
def v8 (l:List aL):Prop:=l.Pairwise λx y=>Op.bytesLess x.name y.name=true
theorem lT (x:aL):∀l:List aL,(qX x l).Perm (x::l)
 | []=>List.Perm.refl _
 | y::l=>by
  unfold qX;split
  · exact((lT x l).cons y).trans (List.Perm.swap x y l)
  · exact List.Perm.refl _
theorem tj:∀(l acc:List aL),(l.foldl (λacc x=>qX x acc) acc).Perm (acc++l)
 | [],acc=>by simp
 | x::l,acc=>by
  rw[List.foldl_cons];refine(tj l (qX x acc)).trans ?_;refine((lT x acc).append_right l).trans ?_;rw[List.cons_append];exact(List.perm_middle (a:=x) (l₁:=acc) (l₂:=l)).symm
theorem nB (l:List aL):(lH l).Perm l:=by
 have:=tj l []
 simpa[lH] using this
theorem xA (x:aL):∀l:List aL,v8 l→(∀y∈l,y.name≠x.name)→v8 (qX x l)
 | [],_,_=>by unfold qX v8;simp
 | y :: l, h, hn => by
  obtain⟨h1,h2⟩:=List.pairwise_cons.1 h;unfold qX;split
  · rename_i hl
    refine List.pairwise_cons.2 ⟨λz hz=>?_,xA x l h2 λz hz=>hn z (List.mem_cons_of_mem _ hz)⟩;rcases List.mem_cons.1 ((lT x l).mem_iff.1 hz) with rfl|hz
    · exact hl
    · exact h1 z hz
  · rename_i hl
    have hxy:Op.bytesLess x.name y.name=true:=by
     have:=gH _ _ (by simpa using hl:Op.bytesLess y.name x.name=false);rw[Bool.or_eq_true] at this;rcases this with e|e
     · exact e
     · exact absurd (by simpa using e:x.name=y.name) (λe=>hn y (List.mem_cons_self ..) e.symm)
    refine List.pairwise_cons.2 ⟨λz hz=>?_,h⟩;rcases List.mem_cons.1 hz with rfl|hz
    · exact hxy
    · exact fT _ _ _ hxy (h1 z hz)
theorem wS:∀(l acc:List aL),v8 acc→iq (acc++l)→v8 (l.foldl (λacc x=>qX x acc) acc)
 | [],acc,h,_=>h
 | x::l,acc,h,ho=>by
  rw[List.foldl_cons];have hp:(acc++x::l).Perm (qX x acc++l):=by
   refine List.Perm.trans ?_ ((lT x acc).symm.append_right l);rw[List.cons_append];exact List.perm_middle
  refine wS l _ (xA x acc h λy hy=>?_) ?_
  · unfold iq at ho
    rw[List.map_append,List.map_cons,List.nodup_append] at ho;exact ho.2.2 _ (List.mem_map_of_mem hy) _ (List.mem_cons_self ..)
  · unfold iq at *
    exact(hp.map (·.name)).nodup_iff.1 ho
theorem CQ {l:List aL} (h:iq l):v8 (lH l):=wS l [] List.Pairwise.nil (by simpa using h)
theorem wq {l m:List aL} (hl:v8 l) (hm:v8 m) (hp:m.Perm l):m=l:=by
 refine List.Perm.eq_of_pairwise (le:=λ(a b:aL)=>Op.bytesLess a.name b.name=true) (λa b ha hb h1 h2=>?_) hm hl hp
 rw[iR _ _ h1] at h2
 cases h2
theorem iq.perm {l m:List aL} (h:iq l) (hp:m.Perm l):iq m:=(hp.map (λx:aL=>x.name)).nodup_iff.2 h
theorem ET {l m:List aL} (h:iq l) (hp:m.Perm l) (hs:m.Pairwise λx y=>Op.bytesLess y.name x.name=false):m=lH l:=by
 refine wq (CQ h) ?_ (hp.trans (nB l).symm)
 have hn:m.Pairwise λx y=>x.name≠y.name:=List.pairwise_map.1 (h.perm hp)
 refine(hs.and hn).imp λ{x y} ⟨h1,h2⟩=>?_
 have:=gH _ _ h1
 rw[Bool.or_eq_true] at this
 rcases this with e|e
 · exact e
 · exact absurd (by simpa using e:x.name=y.name) h2
theorem nc {A B:List UInt8} (L4:∀x y:List UInt8,A++x≠B++y):∀ns:List (List UInt8),ns.Nodup→(ns.flatMap λx=>[A++x,B++x]).Nodup∧∀y,y∈(ns.flatMap λx=>[A++x,B++x])→∃x∈ns,y=A++x∨y=B++x
 | [],_=>⟨by simp,by simp⟩
 | n :: ns, h => by
  obtain⟨h1,h2⟩:=List.nodup_cons.1 h;obtain⟨k1,k2⟩:=nc L4 ns h2;have mem:∀y,y∈((n::ns).flatMap λx=>[A++x,B++x])→∃x∈n::ns,y=A++x∨y=B++x:=by
   intro y hy;rw[List.flatMap_cons,List.mem_append] at hy;rcases hy with hy|hy
   · simp only[List.mem_cons,List.not_mem_nil,or_false] at hy
     exact⟨n,List.mem_cons_self ..,hy⟩
   · obtain⟨x,hx,e⟩:=k2 y hy
     exact⟨x,List.mem_cons_of_mem _ hx,e⟩
  refine⟨?_,mem⟩;rw[List.flatMap_cons,List.nodup_append];refine⟨by simp[L4],k1,λa ha b hb e=>?_⟩;obtain⟨x,hx,e2⟩:=k2 b hb;simp only[List.mem_cons,List.not_mem_nil,or_false] at ha;subst e;rcases ha with ha|ha<;>rcases e2 with e2|e2
  · rw[ha] at e2
    exact h1 (by rw[List.append_cancel_left e2];exact hx)
  · rw[ha] at e2;exact L4 _ _ e2
  · rw[ha] at e2;exact L4 _ _ e2.symm
  · rw[ha] at e2
    exact h1 (by rw[List.append_cancel_left e2];exact hx)
theorem EG (c:bw) (t:List UInt8) (hf:∀f∈c.dG,dF f=true) (hn:aU c.ag=true):iq (dU c t).1:=by
 obtain⟨p1,p2,p3⟩:=gZ (t:=t)
 unfold dU iq
 simp only
 split
 · exact(show List.Nodup [[101,113,117,97,108],[108,101],[108,116],[97,100,100],[115,117,98],[109,117,108],[100,105,118],([109,111,100]:List UInt8)] by decide)
 · exact(show List.Nodup [[101,113,117,97,108],[97,110,100],[111,114],([110,111,116]:List UInt8)] by decide)
 · exact(show List.Nodup [([101,113,117,97,108]:List UInt8)] by decide)
 · exact(show List.Nodup [[101,113,117,97,108],[97,100,100,104],[102,101,116,99,104],[110,101,119],[114,101,109,104],[115,105,122,101],([115,116,111,114,101]:List UInt8)] by decide)
 · have e:∀ps:List (List UInt8×List UInt8),(ps.flatMap λp=>[(⟨[103,101,116,95]++p.1,sg p.2 [t] []⟩:aL),⟨[115,101,116,95]++p.1,sg [] [t,p.2] []⟩]).map (·.name)=(ps.map (·.1)).flatMap λx=>[[103,101,116,95]++x,[115,101,116,95]++x]:=by
    intro ps
    induction ps with
    | nil=>rfl
    | cons p ps ih=>rw[List.flatMap_cons,List.map_append,ih];rfl
   obtain⟨k1,k2⟩:=nc (A:=[103,101,116,95]) (B:=[115,101,116,95]) (by intro x y e;simp at e) _ p2;rw[List.map_append,List.map_cons,e,List.map_cons,List.map_nil,List.nodup_append];refine⟨List.nodup_cons.2 ⟨λh=>?_,k1⟩,by simp,λa ha b hb e=>?_⟩
   · obtain⟨x,_,h|h⟩:=k2 _ h<;>simp at h
   · simp only[List.mem_cons,List.not_mem_nil,or_false] at hb
     subst hb;rcases List.mem_cons.1 ha with h|h
     · rw[h] at e;simp at e
     · obtain⟨x,_,h|h⟩:=k2 _ h<;>(rw[e] at h;simp at h)
 · have e:∀ps:List (List UInt8×List UInt8),(ps.flatMap λp=>[(⟨[105,115,95]++p.1,sg gC [t] []⟩:aL),⟨[109,97,107,101,95]++p.1,sg t [p.2] []⟩]).map (·.name)=(ps.map (·.1)).flatMap λx=>[[105,115,95]++x,[109,97,107,101,95]++x]:=by
    intro ps
    induction ps with
    | nil=>rfl
    | cons p ps ih=>rw[List.flatMap_cons,List.map_append,ih];rfl
   obtain⟨k1,k2⟩:=nc (A:=[105,115,95]) (B:=[109,97,107,101,95]) (by intro x y e;simp at e) _ p2;rw[List.map_cons,e];refine List.nodup_cons.2 ⟨λh=>?_,k1⟩;obtain⟨x,_,h|h⟩:=k2 _ h<;>simp at h
 · rcases hq:ew c.dG (eH t).1 with _|f
   · exact List.nodup_nil
   · have hm:f∈c.dG:=List.mem_of_find?_eq_some hq
     exact(dQ (hf f hm)).2.2.2.2.2.2.2.2.1
 · exact vr hn
 · exact List.nodup_nil
end
section
def stop (r:List UInt8):Prop:=∀c r',r=c::r'→c=93∨c=44
theorem yI:stop []:=by intro c r' h;simp at h
theorem l9 (r:List UInt8):stop (93::r):=by intro c r' h;simp only[List.cons.injEq] at h;exact .inl h.1.symm
theorem r5 (r:List UInt8):stop (44::r):=by intro c r' h;simp only[List.cons.injEq] at h;exact .inr h.1.symm
theorem stop.ends {r:List UInt8} (h:stop r):ends r:=by
 cases r with
 | nil=>exact wN
 | cons c r=>
  rcases h c r rfl with rfl|rfl
  · exact jH r
  · exact mQ r
theorem stop.subst {a s:List UInt8} (h:stop s):stop (subst a s):=by
 cases s with
 | nil=>simpa[Proofs.YtakgjcfkdemipaaGreatDoor.subst] using yI
 | cons c s=>
  have hc:c≠63:=by rcases h c s rfl with rfl|rfl<;>decide
  rw[fC _ _ _ hc];rcases h c s rfl with rfl|rfl
  · exact l9 _
  · exact r5 _
theorem CH {t:Tr} (h:t.ok) {r:List UInt8} (hr:ends r):cW (t.txt++r)=t.txt.length:=by
 unfold cW
 rw[h.reads hr]
 simp
theorem Tr.ok.GB {t:Tr} (h:t.ok):0<t.txt.length:=by
 have:=gM h.reads'
 simpa using this
def colon (s:List UInt8):Bool:=(s.drop (aj s)).head? ==some 58
def gz (p:UInt8) (s:List UInt8):List (List UInt8):=if(p=91∨p=58)∧cW s≠0∧colon s=false then [s.take (cW s)] else []
def scan:UInt8→List UInt8→List (List UInt8)
 | _,[]=>[]
 | p,c::r=>gz p (c::r)++scan c r
theorem fN {p:UInt8} (s:List UInt8) (h1:p≠91) (h2:p≠58):gz p s=[]:=by
 unfold gz;rw[if_neg];rintro⟨h|h,_⟩
 · exact h1 h
 · exact h2 h
theorem vH {p:UInt8} (s:List UInt8) (h1:p≠91) (h2:p≠58):scan p s=scan 0 s:=by
 cases s with
 | nil=>rfl
 | cons c r=>rw[scan,scan,fN _ h1 h2,fN _ (by decide) (by decide)]
theorem wj {c:UInt8} (h:eG c=true):c≠91∧c≠58∧c≠63:=by
 refine⟨?_,?_,?_⟩<;>(rintro rfl;simp[eG] at h)
theorem uA:∀(w r:List UInt8) (p:UInt8),aj w=w.length→p≠91→p≠58→scan p (w++r)=scan 0 r
 | [],r,p,_,h1,h2=>vH r h1 h2
 | c::w,r,p,h,h1,h2=>by
  rw[bh] at h;split at h
  · rename_i hc
    obtain⟨c1,c2,_⟩:=wj hc;rw[List.cons_append,scan,fN _ h1 h2,List.nil_append];exact uA w r c (by simpa using h) c1 c2
  · simp at h
theorem oH {w r:List UInt8} (p:UInt8) (hw:aj w=w.length) (hne:w≠[]):scan p (w++r)=gz p (w++r)++scan 0 r:=by
 cases w with
 | nil=>exact absurd rfl hne
 | cons c w=>
  rw[bh] at hw;split at hw
  · rename_i hc
    obtain⟨c1,c2,_⟩:=wj hc;rw[List.cons_append,scan,uA w r c (by simpa using hw) c1 c2]
  · simp at hw
theorem qC {w r:List UInt8} (hw:aj w=w.length) (hr:aj r=0):colon (w++r)=(r.head? ==some 58):=by
 unfold colon;rw[(fE hw hr).2]
theorem stop.colon {r:List UInt8} (h:stop r):(r.head? ==some 58)=false:=by
 cases r with
 | nil=>rfl
 | cons c r=>rcases h c r rfl with rfl|rfl<;>rfl
theorem FE {sub:Fo} {r:List UInt8} (h:stop r):((sub.br++r).head? ==some 58)=false∧aj (sub.br++r)=0:=by
 cases sub with
 | nil=>exact⟨h.colon,h.ends.1⟩
 | cons pn k n sub rest=>
  constructor
  · rfl
  · rw[Fo.br,List.cons_append,bh];rfl
theorem Fk {k:Nat} {n:List UInt8} {sub:Fo} (h:Wf none (.cons [] k n sub .nil)):b8 k n≠[]:=by
 cases h with
 | par=>decide
 | word k h=>rcases h with rfl|rfl|rfl<;>decide
 | arr a h=>decide
 | rcd k w fo hk=>rcases hk with⟨rfl,rfl⟩|⟨rfl,rfl⟩<;>decide
 | nam n hn=>exact gQ hn
 | app n a hn h=>exact gQ hn
theorem Ca {k:Nat} {n:List UInt8} {sub:Fo} (h:Wf none (.cons [] k n sub .nil)) {p:UInt8} (hp:p=91∨p=58) {r:List UInt8} (hr:stop r):
 gz p ((Fo.cons [] k n sub .nil).tx++r)=[(Fo.cons [] k n sub .nil).tx]:=by
 have ho:(Tr.mk k n sub).ok:=h
 have e:(Fo.cons [] k n sub .nil).tx=(Tr.mk k n sub).txt:=by rw[Tr.eA];rfl
 have hn:cW ((Fo.cons [] k n sub .nil).tx++r)=(Fo.cons [] k n sub .nil).tx.length:=by rw[e];exact CH ho hr.ends
 have hpos:=ho.GB
 rw[←e] at hpos
 have hc:colon ((Fo.cons [] k n sub .nil).tx++r)=false:=by
  rw[Fo.cN,List.append_assoc]
  by_cases hk:k=8
  · subst hk
    obtain⟨rfl,rfl⟩:=h.I1
    rfl
  · obtain⟨b1,b2⟩:=FE (sub:=sub) hr
    rw[qC (mh h hk) b2];exact b1
 unfold gz
 rw[hn,if_pos ⟨hp,by omega,hc⟩]
 simp
def De:Option (List UInt8)→Fo→Prop
 | none,fo=>∀p r,(p=91∨p=58)→stop r→scan p (fo.tx++r)=fo.ins.map (·.txt)++scan 0 r
 | some _,fo=>∀p r,(p=91∨p=44)→scan p (fo.tx++93::r)=fo.ins.map (·.txt)++scan 0 (93::r)
theorem qR {pn X:List UInt8} {p:UInt8} (hn:isName pn=true):gz p (pn++58::X)=[]:=by
 unfold gz
 rw[if_neg]
 rintro⟨_,_,h⟩
 rw[qC (dw hn) (by rw[bh];rfl)] at h
 simp at h
theorem Wf.Lt {tag:Option (List UInt8)} {fo:Fo} (h:Wf tag fo):De tag fo:=by
 have key : ∀ (k : Nat) (n : List UInt8) (sub : Fo), Wf none (.cons [] k n sub .nil) → (sub ≠ .nil → ∀ r, scan 91 (sub.tx ++ 93 :: r) = sub.ins.map (·.txt) ++ scan 0 (93 :: r)) → De none (.cons [] k n sub .nil) := by
  intro k n sub h ih p r hp hr;have hh:=Ca h hp hr;have e:(Fo.cons [] k n sub .nil).tx=(Tr.mk k n sub).txt:=by rw[Tr.eA];rfl
  have hi:(Fo.cons [] k n sub .nil).ins.map (·.txt)=(Fo.cons [] k n sub .nil).tx::sub.ins.map (·.txt):=by rw[Fo.ins,e];simp[Fo.ins]
  rw[hi];rw[Fo.cN] at hh ⊢;rw[List.append_assoc] at hh ⊢
  by_cases hk:k=8
  · subst hk
    obtain⟨rfl,rfl⟩:=h.I1;have e1:scan p (63::116::r)=gz p (63::116::r)++(gz 63 (116::r)++scan 116 r):=by rw[scan,scan]
    have e2:gz p (63::116::r)=[b8 8 []++Fo.nil.br]:=hh
    show scan p (63::116::r)=_
    rw[e1,e2,fN (p:=63) _ (by decide) (by decide),vH (p:=116) r (by decide) (by decide)];simp[Fo.ins]
  · rw [oH p (mh h hk) (Fk h), hh]
    by_cases hs:sub=.nil
    · subst hs;simp[Fo.ins,Fo.br]
    · have e2:scan 0 (sub.br++r)=sub.ins.map (·.txt)++scan 0 r:=by
       rw[Fo.ji hs,show(91::(sub.tx++[93]))++r=91::(sub.tx++93::r) from by simp,scan,fN (p:=0) _ (by decide) (by decide),List.nil_append,ih hs,scan,fN (p:=0) _ (by decide) (by decide),List.nil_append,vH (p:=93) r (by decide) (by decide)]
      rw[e2];simp
 induction h with
 | par=>exact key _ _ _ .par (λh=>absurd rfl h)
 | word k h=>exact key _ _ _ (.word k h) (λh=>absurd rfl h)
 | arr x h ih=>exact key _ _ _ (.arr x h) (λ_ r=>ih 91 (93::r) (.inl rfl) (l9 r))
 | rcd k w fo hk h hl ih=>exact key _ _ _ (.rcd k w fo hk h hl) (λ_ r=>ih 91 r (.inl rfl))
 | nam n hn=>exact key _ _ _ (.nam n hn) (λh=>absurd rfl h)
 | app n x hn h ih=>exact key _ _ _ (.app n x hn h) (λ_ r=>ih 91 (93::r) (.inl rfl) (l9 r))
 | last b pn k n sub hn hb h ih=>
  intro p r hp;have hi:(Fo.cons pn k n sub .nil).ins=(Fo.cons [] k n sub .nil).ins:=by simp[Fo.ins]
  rw[hi,Fo.gU,dM hn,List.append_assoc,List.append_assoc,List.singleton_append,oH p (dw hn) (gQ hn),qR hn,List.nil_append,scan,fN _ (by decide) (by decide),List.nil_append];exact ih 58 (93::r) (.inr rfl) (l9 r)
 | more b pn k n sub rest hn hb h h2 ih ih2=>
  intro p r hp;have hi:(Fo.cons pn k n sub rest).ins=(Fo.cons [] k n sub .nil).ins++rest.ins:=by simp[Fo.ins]
  have e1:=ih 58 (44::(rest.tx++93::r)) (.inr rfl) (r5 _);have e2:=ih2 44 r (.inr rfl);rw[hi,Fo.gV _ _ _ _ _ h2.ne,dM hn,List.map_append];rw[show pn++[58]++((Fo.cons [] k n sub Fo.nil).tx++44::rest.tx)++93::r=pn++58::((Fo.cons [] k n sub .nil).tx++44::(rest.tx++93::r)) from by simp];rw[oH p (dw hn) (gQ hn),qR hn,List.nil_append,scan,fN _ (by decide) (by decide),List.nil_append,e1,scan,fN _ (by decide) (by decide),List.nil_append,e2];simp
theorem Tr.ok.scan {t:Tr} (h:t.ok):scan 91 t.txt=t.ins.map (·.txt):=by
 have hs:De none (.one t):=Wf.Lt h
 have:=hs 91 [] (.inl rfl) yI
 rw[List.append_nil,←Tr.eA,Proofs.YtakgjcfkdemipaaGreatDoor.scan,List.append_nil] at this
 rw[this]
 simp[Fo.one,Fo.ins,Tr.ins]
def gJ (acc l:List (List UInt8)):List (List UInt8):=l.foldl (λacc s=>if hasB acc s then acc else acc++[s]) acc
theorem Ab {t:Tr} (h:t.ok):gJ [] (scan 91 t.txt)=jL t.ins:=by
 rw[h.scan,tR];rfl
end
open Go.RowKit
theorem EM (v : Value) (ss : List (List UInt8)) (s : List UInt8) (w : World) (hv : Strs w v ss) :
 Calls Tryz.prog 163 #[v,str s] w λe w'=>e=.returned (.bool (hasB ss s))∧w=w':=by
 rcases hv.shape with⟨rfl,rfl⟩|⟨b,o,cap,rfl,hm,hc⟩
 · go_enter Tryz.func163,Tryz.ntmps163
   go_wp2
   refine wp_loop_rounds 1 ?_;rw[rounds_succ]
   go_wp2
   go_ret;exact⟨rfl,rfl⟩
 · unfold maxLen at hm
   go_enter Tryz.func163,Tryz.ntmps163
   go_wp2
   go_loop [5] (λi=>∃k:Nat,k≤ss.length∧hasB (ss.take k) s=false∧i=.int .i64 k) (λi=>ss.length - (intOf i).toNat)
   case atStart=>exact⟨0,by omega,tF _ _,rfl⟩
   case round =>
    obtain⟨k,hk,hn,rfl⟩:=hrel;have Hn:=zh hn;clear hn
    by_cases hlt:k<ss.length
    · have RX:=hc k hlt
      clear hc;cases he:(ss[k]==s)
      · have Hs:=zh (kZ ss s k hlt Hn.out he)
        go_wp2
        go_round
        case rel=>exact⟨k+1,by omega,Hs.out,by go_num⟩
        case measure=>simp[intOf];omega
      · have Hs:=zh (wY ss s k hlt he)
        go_wp2
        go_ret;exact⟨bI Hs.out.symm,rfl⟩
    · have Hs:=zh (wX ss s k hlt Hn.out)
      clear hc
      go_wp2
      go_ret;exact⟨bI Hs.out.symm,rfl⟩
theorem dD {v:Value} {ss:List (List UInt8)} {s:List UInt8} {w:World} {q:Bool} (hv:Strs w v ss) (h:hasB ss s=q):
 Calls Tryz.prog 163 #[v,str s] w λe w'=>e=.returned (.bool q)∧w=w':=by
 have:=EM v ss s w hv
 rwa [h] at this
def ei (s:List UInt8):Nat→UInt8
 | 0=>91
 | j+1=>s.getD j 0
theorem nu {s:List UInt8} {i:Nat} (h:i<s.length):ei s (i+1)=s[i]:=by simp[ei,h]
theorem Bt {s:List UInt8} {i:Nat} (h:i<s.length):scan (ei s i) (s.drop i)=gz (ei s i) (s.drop i)++scan (ei s (i+1)) (s.drop (i+1)):=by
 rw[List.drop_eq_getElem_cons h,scan,nu h]
theorem BJ {s:List UInt8} {i:Nat} (h:¬i+aj (s.drop i)<s.length):colon (s.drop i)=false:=by
 unfold colon
 rw[List.drop_drop,List.drop_of_length_le (by omega)]
 rfl
theorem wF {s:List UInt8} {i:Nat} (h:i+aj (s.drop i)<s.length):colon (s.drop i)=(s[i+aj (s.drop i)]==58):=by
 unfold colon
 rw[List.drop_drop,List.drop_eq_getElem_cons h]
 rfl
theorem vO {s:List UInt8} {i:Nat} {acc tot:List (List UInt8)} (h:i<s.length) (he:gz (ei s i) (s.drop i)=[]) (ht:gJ acc (scan (ei s i) (s.drop i))=tot):gJ acc (scan (ei s (i+1)) (s.drop (i+1)))=tot:=by
 rw[←ht,Bt h,he];rfl
theorem E1 {s x:List UInt8} {i:Nat} {acc tot:List (List UInt8)} (h:i<s.length) (he:gz (ei s i) (s.drop i)=[x]) (ht:gJ acc (scan (ei s i) (s.drop i))=tot):gJ (if hasB acc x then acc else acc++[x]) (scan (ei s (i+1)) (s.drop (i+1)))=tot:=by
 rw[←ht,Bt h,he];rfl
theorem Cg {s:List UInt8} {i:Nat} {acc tot:List (List UInt8)} (h:i<s.length) (ht:gJ acc (scan (ei s i) (s.drop i))=tot):
 ((ei s i≠91∧ei s i≠58)∧gJ acc (scan (ei s (i+1)) (s.drop (i+1)))=tot)∨
 (ei s i=91∨ei s i=58)∧
  (cW (s.drop i)=0∧gJ acc (scan (ei s (i+1)) (s.drop (i+1)))=tot∨
  0 < cW (s.drop i) ∧ ((∃ h : i + aj (s.drop i) < s.length, s[i + aj (s.drop i)] = 58 ∧ gJ acc (scan (ei s (i + 1)) (s.drop (i + 1))) = tot) ∨
   (¬i+aj (s.drop i)<s.length∨∃h:i+aj (s.drop i)<s.length,s[i+aj (s.drop i)]≠58)∧
    (hasB acc (List.drop i (List.take (i+cW (s.drop i)) s))=true∧gJ acc (scan (ei s (i+1)) (s.drop (i+1)))=tot∨
     hasB acc (List.drop i (List.take (i+cW (s.drop i)) s))=false∧gJ (acc++[List.drop i (List.take (i+cW (s.drop i)) s)]) (scan (ei s (i+1)) (s.drop (i+1)))=tot))):=by
 by_cases hp:ei s i=91∨ei s i=58
 · refine .inr ⟨hp, ?_⟩
   by_cases h0:cW (s.drop i)=0
   · exact .inl ⟨h0,vO h (by unfold gz;rw[if_neg];rintro⟨_,h,_⟩;exact h h0) ht⟩
   · refine .inr ⟨by omega,?_⟩
     rcases hc:colon (s.drop i) with _|_
     · refine .inr ⟨?_,?_⟩
       · by_cases hl:i+aj (s.drop i)<s.length
         · rw[wF hl] at hc
           exact .inr ⟨hl,by simpa using hc⟩
         · exact .inl hl
       · have he:gz (ei s i) (s.drop i)=[List.drop i (List.take (i+cW (s.drop i)) s)]:=by
          unfold gz;rw[if_pos ⟨hp,h0,hc⟩,List.drop_take,show i+cW (s.drop i) - i=cW (s.drop i) from by omega]
         have hs:=E1 h he ht;rcases hb:hasB acc (List.drop i (List.take (i+cW (s.drop i)) s)) with _|_
         · rw[hb] at hs;exact .inr ⟨rfl,hs⟩
         · rw[hb] at hs;exact .inl ⟨rfl,hs⟩
     · refine .inl ?_
       by_cases hl:i+aj (s.drop i)<s.length
       · refine⟨hl,?_,vO h (by unfold gz;rw[if_neg];rintro⟨_,_,h⟩;rw[hc] at h;simp at h) ht⟩
         rw[wF hl] at hc
         simpa using hc
       · rw[BJ hl] at hc;simp at hc
 · have hp':ei s i≠91∧ei s i≠58:=⟨λh=>hp (.inl h),λh=>hp (.inr h)⟩
   exact .inl ⟨hp',vO h (fN _ hp'.1 hp'.2) ht⟩
set_option maxRecDepth 8000 in
theorem vF (s : List UInt8) (T : Tr) (hs : aq s = (0, T)) (w : World) :
 Calls Tryz.prog 127 #[str s] w λe w'=>∃v,e=.returned (.tuple #[v,.int .i64 0])∧Strs w' v (jL T.ins)∧Below w.heap.size w w':=by
 obtain⟨o1,e1,l1,_⟩:=bC hs
 have hC:=λW=>nw s (by unfold maxLen;omega) W
 rw[hs] at hC
 have hT:gJ [] (scan (ei s 0) (s.drop 0))=jL T.ins:=by rw[←Ab o1,e1];rfl
 generalize jL T.ins=tot at hT ⊢
 have HT:=zh hT
 obtain⟨i0,gw,hz0,hz1,hz2⟩:=info_parts uZ
 clear hs o1 e1 hT
 go_enter Tryz.func127,Tryz.ntmps127
 go_wp2_with (go_at_call 84;refine(hC _).mono ?_;clear hC;rintro e w1 ⟨rfl,au⟩)
 go_loopw [5,6] (λo y wr=>∃(i:Nat) (acc:List (List UInt8)),i≤s.length∧y=.int .i64 i∧acc.length≤i∧wr.ownsRow w.heap.size 9 1 o acc.length (aB acc)∧Hid (gJ acc (scan (ei s i) (s.drop i))=tot)∧Below w.heap.size w wr) (λ_ y _=>s.length - (intOf y).toNat)
 case atStart=>exact⟨0,[],Nat.zero_le _,by go_num,by simp,by simpa[aB] using World.ownsRow_nil _ _ _ _,HT,au⟩
 case round =>
  clear au;obtain⟨i,acc,hi,rfl,ha,hown,HO,hb⟩:=hrel;obtain⟨po,co,rfl⟩:=bu hown
  by_cases hlt:i<s.length
  case neg=>
   have HS:Hid (acc=tot):=by
    have h:=HO.out;rw[List.drop_of_length_le (by omega)] at h;exact h
   obtain rfl:acc=tot:=HS.out;go_wp2_with fail;go_ret2;exact⟨_,rfl,Sl.bH (by simpa[aB] using hown),hb⟩
  case pos =>
   have hcs:=Cg hlt HO.out;have hR:=λW=>yt (s.drop i) 0 W (Int.le_refl _) (by simp;omega)
   have hK:=λW=>aX (s.drop i) W (by simp;unfold maxLen;omega)
   have hN:=vC (s.drop i);have hM:=bX (s.drop i);rw[List.length_drop] at hN hM;generalize cW (s.drop i)=N at hcs hR hN;generalize iZ (s.drop i)=L at hR;generalize aj (s.drop i)=M at hcs hK hM;have R7:i+N≤s.length:=by omega
   have R6:i+M≤s.length:=by omega
   have M0:(List.drop i (List.take (i+N) s)).length≤100:=by simp;omega
   rcases hcs with⟨⟨hp1,hp2⟩,hx⟩|⟨hp,hcs⟩
   case inl=>
    have HX:=zh hx;obtain⟨j,rfl⟩:∃j,i=j+1:=by
     cases i with
     | zero=>exact absurd rfl hp1
     | succ j=>exact⟨j,rfl⟩
    rw[nu (by omega)] at hp1 hp2;have g1:(((s[j]).toNat:Int) != 91)=true:=by rw[bne_iff_ne];exact nY (d:=91) hp1
    have g2:(((s[j]).toNat:Int) != 58)=true:=by rw[bne_iff_ne];exact nY (d:=58) hp2
    have hj:j<s.length:=by omega
    clear hx hp1 hp2 hR hK HO;go_wp2_with fail;exact⟨⟨j+2,acc,by omega,by go_num,by omega,hown,HX.out,hb⟩,by simp only[intOf];omega⟩
   case inr =>
    cases i with
    | zero =>
     clear hp;simp only[Nat.zero_add,Nat.sub_zero,List.drop_zero] at hcs hR hK hN hM R7 R6 M0 ha;rcases hcs with⟨h0,hx⟩|⟨h0,⟨hl,hch,hx⟩|⟨DP,hcs⟩⟩
     · have HX:=zh hx
       have g3:((N:Int)==0)=true:=by rw[h0];rfl
       have HB:=zh (rfl:hasB acc []=hasB acc []);clear hx h0 HO;go_wp2_with (first
        | (go_at_call 140;refine(hR _).mono ?_;clear hR;rintro e w2 ⟨rfl,aC⟩;have aH:=hb.trans (af aC hb.size);have aP:=ay hown aC zr;have fh:Strs w2 _ acc:=Sl.bH (by simpa[aB] using aP))
        | (go_at_call 162;refine(hK _).mono ?_;clear hK;rintro e w3 ⟨rfl,rfl⟩)
        | (go_at_call 163;(with_reducible refine(dD fh HB.out).mono ?_);rintro e w4 ⟨rfl,rfl⟩)
        | (at_builtin;refine wpList_append_own _ rfl _ _ 34 rfl w.heap.size 9 i0 (.string ⟨#[]⟩) 1 16 Tryz.underlying34 gw hz0 hz1 hz2 rfl (by decide) _ _ _ rfl (aP.alloc _) ⟨w2.heap.size,0,none⟩ 1 1 [str (List.take N s)] rfl rfl (cell_one_new _ _ _) (λx hx=>by simp at hx;subst hx;rfl) (by unfold maxLen;omega) (by omega) (by have:=aH.size;simp;omega) ?_;intro v' w5 bB hgr _))
       exact⟨⟨1,acc,by omega,by go_num,by omega,aP,HX.out,aH⟩,by simp only[intOf];omega⟩
     · have HX:=zh hx
       have g3:((N:Int)==0)=false:=by rw[beq_eq_false_iff_ne];omega
       have g4:(((s[M]).toNat:Int)==58)=true:=by rw[hch];rfl
       have HB:=zh (rfl:hasB acc []=hasB acc []);clear hx h0 HO hch;go_wp2_with (first
        | (go_at_call 140;refine(hR _).mono ?_;clear hR;rintro e w2 ⟨rfl,aC⟩;have aH:=hb.trans (af aC hb.size);have aP:=ay hown aC zr;have fh:Strs w2 _ acc:=Sl.bH (by simpa[aB] using aP))
        | (go_at_call 162;refine(hK _).mono ?_;clear hK;rintro e w3 ⟨rfl,rfl⟩)
        | (go_at_call 163;(with_reducible refine(dD fh HB.out).mono ?_);rintro e w4 ⟨rfl,rfl⟩)
        | (at_builtin;refine wpList_append_own _ rfl _ _ 34 rfl w.heap.size 9 i0 (.string ⟨#[]⟩) 1 16 Tryz.underlying34 gw hz0 hz1 hz2 rfl (by decide) _ _ _ rfl (aP.alloc _) ⟨w2.heap.size,0,none⟩ 1 1 [str (List.take N s)] rfl rfl (cell_one_new _ _ _) (λx hx=>by simp at hx;subst hx;rfl) (by unfold maxLen;omega) (by omega) (by have:=aH.size;simp;omega) ?_;intro v' w5 bB hgr _))
       exact⟨⟨1,acc,by omega,by go_num,by omega,aP,HX.out,aH⟩,by simp only[intOf];omega⟩
     · have g3 : ((N : Int) == 0) = false := by rw [beq_eq_false_iff_ne]; omega
       rcases DP with hl|⟨hl,hch⟩
       ·
        rcases hcs with⟨hq,hx⟩|⟨hq,hx⟩
        · have HX:=zh hx
          have HB:=zh hq;clear hx h0 HO hq;go_wp2_with (first
           | (go_at_call 140;refine(hR _).mono ?_;clear hR;rintro e w2 ⟨rfl,aC⟩;have aH:=hb.trans (af aC hb.size);have aP:=ay hown aC zr;have fh:Strs w2 _ acc:=Sl.bH (by simpa[aB] using aP))
           | (go_at_call 162;refine(hK _).mono ?_;clear hK;rintro e w3 ⟨rfl,rfl⟩)
           | (go_at_call 163;(with_reducible refine(dD fh HB.out).mono ?_);rintro e w4 ⟨rfl,rfl⟩)
           | (at_builtin;refine wpList_append_own _ rfl _ _ 34 rfl w.heap.size 9 i0 (.string ⟨#[]⟩) 1 16 Tryz.underlying34 gw hz0 hz1 hz2 rfl (by decide) _ _ _ rfl (aP.alloc _) ⟨w2.heap.size,0,none⟩ 1 1 [str (List.take N s)] rfl rfl (cell_one_new _ _ _) (λx hx=>by simp at hx;subst hx;rfl) (by unfold maxLen;omega) (by omega) (by have:=aH.size;simp;omega) ?_;intro v' w5 bB hgr _))
          exact⟨⟨1,acc,by omega,by go_num,by omega,aP,HX.out,aH⟩,by simp only[intOf];omega⟩
        · have HX:=zh hx
          have HB:=zh hq;clear hx h0 HO hq;go_wp2_with (first
           | (go_at_call 140;refine(hR _).mono ?_;clear hR;rintro e w2 ⟨rfl,aC⟩;have aH:=hb.trans (af aC hb.size);have aP:=ay hown aC zr;have fh:Strs w2 _ acc:=Sl.bH (by simpa[aB] using aP))
           | (go_at_call 162;refine(hK _).mono ?_;clear hK;rintro e w3 ⟨rfl,rfl⟩)
           | (go_at_call 163;(with_reducible refine(dD fh HB.out).mono ?_);rintro e w4 ⟨rfl,rfl⟩)
           | (at_builtin;refine wpList_append_own _ rfl _ _ 34 rfl w.heap.size 9 i0 (.string ⟨#[]⟩) 1 16 Tryz.underlying34 gw hz0 hz1 hz2 rfl (by decide) _ _ _ rfl (aP.alloc _) ⟨w2.heap.size,0,none⟩ 1 1 [str (List.take N s)] rfl rfl (cell_one_new _ _ _) (λx hx=>by simp at hx;subst hx;rfl) (by unfold maxLen;omega) (by omega) (by have:=aH.size;simp;omega) ?_;intro v' w5 bB hgr _))
          refine⟨⟨1,acc++[List.take N s],by omega,by go_num,by simp only[List.length_append,List.length_cons,List.length_nil];omega,?_,HX.out,?_⟩,by simp only[intOf];omega⟩
          · rw[List.length_append,show aB (acc++[List.take N s])=aB acc++[str (List.take N s)] from by simp[aB]]
            exact bB
          · exact(aH.alloc aH.size _).grown hgr (by have:=aH.size;simp;omega) (λb e=>(aP.lt b e).1)
       ·
        have g4:(((s[M]).toNat:Int)==58)=false:=by rw[beq_eq_false_iff_ne];exact nY (d:=58) hch
        clear hch;rcases hcs with⟨hq,hx⟩|⟨hq,hx⟩
        · have HX:=zh hx
          have HB:=zh hq;clear hx h0 HO hq;go_wp2_with (first
           | (go_at_call 140;refine(hR _).mono ?_;clear hR;rintro e w2 ⟨rfl,aC⟩;have aH:=hb.trans (af aC hb.size);have aP:=ay hown aC zr;have fh:Strs w2 _ acc:=Sl.bH (by simpa[aB] using aP))
           | (go_at_call 162;refine(hK _).mono ?_;clear hK;rintro e w3 ⟨rfl,rfl⟩)
           | (go_at_call 163;(with_reducible refine(dD fh HB.out).mono ?_);rintro e w4 ⟨rfl,rfl⟩)
           | (at_builtin;refine wpList_append_own _ rfl _ _ 34 rfl w.heap.size 9 i0 (.string ⟨#[]⟩) 1 16 Tryz.underlying34 gw hz0 hz1 hz2 rfl (by decide) _ _ _ rfl (aP.alloc _) ⟨w2.heap.size,0,none⟩ 1 1 [str (List.take N s)] rfl rfl (cell_one_new _ _ _) (λx hx=>by simp at hx;subst hx;rfl) (by unfold maxLen;omega) (by omega) (by have:=aH.size;simp;omega) ?_;intro v' w5 bB hgr _))
          exact⟨⟨1,acc,by omega,by go_num,by omega,aP,HX.out,aH⟩,by simp only[intOf];omega⟩
        · have HX:=zh hx
          have HB:=zh hq;clear hx h0 HO hq;go_wp2_with (first
           | (go_at_call 140;refine(hR _).mono ?_;clear hR;rintro e w2 ⟨rfl,aC⟩;have aH:=hb.trans (af aC hb.size);have aP:=ay hown aC zr;have fh:Strs w2 _ acc:=Sl.bH (by simpa[aB] using aP))
           | (go_at_call 162;refine(hK _).mono ?_;clear hK;rintro e w3 ⟨rfl,rfl⟩)
           | (go_at_call 163;(with_reducible refine(dD fh HB.out).mono ?_);rintro e w4 ⟨rfl,rfl⟩)
           | (at_builtin;refine wpList_append_own _ rfl _ _ 34 rfl w.heap.size 9 i0 (.string ⟨#[]⟩) 1 16 Tryz.underlying34 gw hz0 hz1 hz2 rfl (by decide) _ _ _ rfl (aP.alloc _) ⟨w2.heap.size,0,none⟩ 1 1 [str (List.take N s)] rfl rfl (cell_one_new _ _ _) (λx hx=>by simp at hx;subst hx;rfl) (by unfold maxLen;omega) (by omega) (by have:=aH.size;simp;omega) ?_;intro v' w5 bB hgr _))
          refine⟨⟨1,acc++[List.take N s],by omega,by go_num,by simp only[List.length_append,List.length_cons,List.length_nil];omega,?_,HX.out,?_⟩,by simp only[intOf];omega⟩
          · rw[List.length_append,show aB (acc++[List.take N s])=aB acc++[str (List.take N s)] from by simp[aB]]
            exact bB
          · exact(aH.alloc aH.size _).grown hgr (by have:=aH.size;simp;omega) (λb e=>(aP.lt b e).1)
    | succ j =>
     rw[nu (by omega)] at hp;have hj:j<s.length:=by omega
     rcases hp with hp|hp
     · have g1 : (((s[j]).toNat : Int) != 91) = false := by rw [hp]; rfl
       clear hp;rcases hcs with⟨h0,hx⟩|⟨h0,⟨hl,hch,hx⟩|⟨DP,hcs⟩⟩
       · have HX:=zh hx
         have g3:((N:Int)==0)=true:=by rw[h0];rfl
         have HB:=zh (rfl:hasB acc []=hasB acc []);clear hx h0 HO;go_wp2_with (first
          | (go_at_call 140;refine(hR _).mono ?_;clear hR;rintro e w2 ⟨rfl,aC⟩;have aH:=hb.trans (af aC hb.size);have aP:=ay hown aC zr;have fh:Strs w2 _ acc:=Sl.bH (by simpa[aB] using aP))
          | (go_at_call 162;refine(hK _).mono ?_;clear hK;rintro e w3 ⟨rfl,rfl⟩)
          | (go_at_call 163;(with_reducible refine(dD fh HB.out).mono ?_);rintro e w4 ⟨rfl,rfl⟩)
          | (at_builtin;refine wpList_append_own _ rfl _ _ 34 rfl w.heap.size 9 i0 (.string ⟨#[]⟩) 1 16 Tryz.underlying34 gw hz0 hz1 hz2 rfl (by decide) _ _ _ rfl (aP.alloc _) ⟨w2.heap.size,0,none⟩ 1 1 [str (List.drop (j+1) (List.take ((j+1)+N) s))] rfl rfl (cell_one_new _ _ _) (λx hx=>by simp at hx;subst hx;rfl) (by unfold maxLen;omega) (by omega) (by have:=aH.size;simp;omega) ?_;intro v' w5 bB hgr _))
         exact⟨⟨(j+1)+1,acc,by omega,by go_num,by omega,aP,HX.out,aH⟩,by simp only[intOf];omega⟩
       · have HX:=zh hx
         have g3:((N:Int)==0)=false:=by rw[beq_eq_false_iff_ne];omega
         have g4:(((s[(j+1)+M]).toNat:Int)==58)=true:=by rw[hch];rfl
         have HB:=zh (rfl:hasB acc []=hasB acc []);clear hx h0 HO hch;go_wp2_with (first
          | (go_at_call 140;refine(hR _).mono ?_;clear hR;rintro e w2 ⟨rfl,aC⟩;have aH:=hb.trans (af aC hb.size);have aP:=ay hown aC zr;have fh:Strs w2 _ acc:=Sl.bH (by simpa[aB] using aP))
          | (go_at_call 162;refine(hK _).mono ?_;clear hK;rintro e w3 ⟨rfl,rfl⟩)
          | (go_at_call 163;(with_reducible refine(dD fh HB.out).mono ?_);rintro e w4 ⟨rfl,rfl⟩)
          | (at_builtin;refine wpList_append_own _ rfl _ _ 34 rfl w.heap.size 9 i0 (.string ⟨#[]⟩) 1 16 Tryz.underlying34 gw hz0 hz1 hz2 rfl (by decide) _ _ _ rfl (aP.alloc _) ⟨w2.heap.size,0,none⟩ 1 1 [str (List.drop (j+1) (List.take ((j+1)+N) s))] rfl rfl (cell_one_new _ _ _) (λx hx=>by simp at hx;subst hx;rfl) (by unfold maxLen;omega) (by omega) (by have:=aH.size;simp;omega) ?_;intro v' w5 bB hgr _))
         exact⟨⟨(j+1)+1,acc,by omega,by go_num,by omega,aP,HX.out,aH⟩,by simp only[intOf];omega⟩
       · have g3 : ((N : Int) == 0) = false := by rw [beq_eq_false_iff_ne]; omega
         rcases DP with hl|⟨hl,hch⟩
         ·
          rcases hcs with⟨hq,hx⟩|⟨hq,hx⟩
          · have HX:=zh hx
            have HB:=zh hq;clear hx h0 HO hq;go_wp2_with (first
             | (go_at_call 140;refine(hR _).mono ?_;clear hR;rintro e w2 ⟨rfl,aC⟩;have aH:=hb.trans (af aC hb.size);have aP:=ay hown aC zr;have fh:Strs w2 _ acc:=Sl.bH (by simpa[aB] using aP))
             | (go_at_call 162;refine(hK _).mono ?_;clear hK;rintro e w3 ⟨rfl,rfl⟩)
             | (go_at_call 163;(with_reducible refine(dD fh HB.out).mono ?_);rintro e w4 ⟨rfl,rfl⟩)
             | (at_builtin;refine wpList_append_own _ rfl _ _ 34 rfl w.heap.size 9 i0 (.string ⟨#[]⟩) 1 16 Tryz.underlying34 gw hz0 hz1 hz2 rfl (by decide) _ _ _ rfl (aP.alloc _) ⟨w2.heap.size,0,none⟩ 1 1 [str (List.drop (j+1) (List.take ((j+1)+N) s))] rfl rfl (cell_one_new _ _ _) (λx hx=>by simp at hx;subst hx;rfl) (by unfold maxLen;omega) (by omega) (by have:=aH.size;simp;omega) ?_;intro v' w5 bB hgr _))
            exact⟨⟨(j+1)+1,acc,by omega,by go_num,by omega,aP,HX.out,aH⟩,by simp only[intOf];omega⟩
          · have HX:=zh hx
            have HB:=zh hq;clear hx h0 HO hq;go_wp2_with (first
             | (go_at_call 140;refine(hR _).mono ?_;clear hR;rintro e w2 ⟨rfl,aC⟩;have aH:=hb.trans (af aC hb.size);have aP:=ay hown aC zr;have fh:Strs w2 _ acc:=Sl.bH (by simpa[aB] using aP))
             | (go_at_call 162;refine(hK _).mono ?_;clear hK;rintro e w3 ⟨rfl,rfl⟩)
             | (go_at_call 163;(with_reducible refine(dD fh HB.out).mono ?_);rintro e w4 ⟨rfl,rfl⟩)
             | (at_builtin;refine wpList_append_own _ rfl _ _ 34 rfl w.heap.size 9 i0 (.string ⟨#[]⟩) 1 16 Tryz.underlying34 gw hz0 hz1 hz2 rfl (by decide) _ _ _ rfl (aP.alloc _) ⟨w2.heap.size,0,none⟩ 1 1 [str (List.drop (j+1) (List.take ((j+1)+N) s))] rfl rfl (cell_one_new _ _ _) (λx hx=>by simp at hx;subst hx;rfl) (by unfold maxLen;omega) (by omega) (by have:=aH.size;simp;omega) ?_;intro v' w5 bB hgr _))
            refine⟨⟨(j+1)+1,acc++[List.drop (j+1) (List.take ((j+1)+N) s)],by omega,by go_num,by simp only[List.length_append,List.length_cons,List.length_nil];omega,?_,HX.out,?_⟩,by simp only[intOf];omega⟩
            · rw[List.length_append,show aB (acc++[List.drop (j+1) (List.take ((j+1)+N) s)])=aB acc++[str (List.drop (j+1) (List.take ((j+1)+N) s))] from by simp[aB]]
              exact bB
            · exact(aH.alloc aH.size _).grown hgr (by have:=aH.size;simp;omega) (λb e=>(aP.lt b e).1)
         ·
          have g4:(((s[(j+1)+M]).toNat:Int)==58)=false:=by rw[beq_eq_false_iff_ne];exact nY (d:=58) hch
          clear hch;rcases hcs with⟨hq,hx⟩|⟨hq,hx⟩
          · have HX:=zh hx
            have HB:=zh hq;clear hx h0 HO hq;go_wp2_with (first
             | (go_at_call 140;refine(hR _).mono ?_;clear hR;rintro e w2 ⟨rfl,aC⟩;have aH:=hb.trans (af aC hb.size);have aP:=ay hown aC zr;have fh:Strs w2 _ acc:=Sl.bH (by simpa[aB] using aP))
             | (go_at_call 162;refine(hK _).mono ?_;clear hK;rintro e w3 ⟨rfl,rfl⟩)
             | (go_at_call 163;(with_reducible refine(dD fh HB.out).mono ?_);rintro e w4 ⟨rfl,rfl⟩)
             | (at_builtin;refine wpList_append_own _ rfl _ _ 34 rfl w.heap.size 9 i0 (.string ⟨#[]⟩) 1 16 Tryz.underlying34 gw hz0 hz1 hz2 rfl (by decide) _ _ _ rfl (aP.alloc _) ⟨w2.heap.size,0,none⟩ 1 1 [str (List.drop (j+1) (List.take ((j+1)+N) s))] rfl rfl (cell_one_new _ _ _) (λx hx=>by simp at hx;subst hx;rfl) (by unfold maxLen;omega) (by omega) (by have:=aH.size;simp;omega) ?_;intro v' w5 bB hgr _))
            exact⟨⟨(j+1)+1,acc,by omega,by go_num,by omega,aP,HX.out,aH⟩,by simp only[intOf];omega⟩
          · have HX:=zh hx
            have HB:=zh hq;clear hx h0 HO hq;go_wp2_with (first
             | (go_at_call 140;refine(hR _).mono ?_;clear hR;rintro e w2 ⟨rfl,aC⟩;have aH:=hb.trans (af aC hb.size);have aP:=ay hown aC zr;have fh:Strs w2 _ acc:=Sl.bH (by simpa[aB] using aP))
             | (go_at_call 162;refine(hK _).mono ?_;clear hK;rintro e w3 ⟨rfl,rfl⟩)
             | (go_at_call 163;(with_reducible refine(dD fh HB.out).mono ?_);rintro e w4 ⟨rfl,rfl⟩)
             | (at_builtin;refine wpList_append_own _ rfl _ _ 34 rfl w.heap.size 9 i0 (.string ⟨#[]⟩) 1 16 Tryz.underlying34 gw hz0 hz1 hz2 rfl (by decide) _ _ _ rfl (aP.alloc _) ⟨w2.heap.size,0,none⟩ 1 1 [str (List.drop (j+1) (List.take ((j+1)+N) s))] rfl rfl (cell_one_new _ _ _) (λx hx=>by simp at hx;subst hx;rfl) (by unfold maxLen;omega) (by omega) (by have:=aH.size;simp;omega) ?_;intro v' w5 bB hgr _))
            refine⟨⟨(j+1)+1,acc++[List.drop (j+1) (List.take ((j+1)+N) s)],by omega,by go_num,by simp only[List.length_append,List.length_cons,List.length_nil];omega,?_,HX.out,?_⟩,by simp only[intOf];omega⟩
            · rw[List.length_append,show aB (acc++[List.drop (j+1) (List.take ((j+1)+N) s)])=aB acc++[str (List.drop (j+1) (List.take ((j+1)+N) s))] from by simp[aB]]
              exact bB
            · exact(aH.alloc aH.size _).grown hgr (by have:=aH.size;simp;omega) (λb e=>(aP.lt b e).1)
     · have g1 : (((s[j]).toNat : Int) != 91) = true := by rw [hp]; rfl
       have g2:(((s[j]).toNat:Int) != 58)=false:=by rw[hp];rfl
       clear hp;rcases hcs with⟨h0,hx⟩|⟨h0,⟨hl,hch,hx⟩|⟨DP,hcs⟩⟩
       · have HX:=zh hx
         have g3:((N:Int)==0)=true:=by rw[h0];rfl
         have HB:=zh (rfl:hasB acc []=hasB acc []);clear hx h0 HO;go_wp2_with (first
          | (go_at_call 140;refine(hR _).mono ?_;clear hR;rintro e w2 ⟨rfl,aC⟩;have aH:=hb.trans (af aC hb.size);have aP:=ay hown aC zr;have fh:Strs w2 _ acc:=Sl.bH (by simpa[aB] using aP))
          | (go_at_call 162;refine(hK _).mono ?_;clear hK;rintro e w3 ⟨rfl,rfl⟩)
          | (go_at_call 163;(with_reducible refine(dD fh HB.out).mono ?_);rintro e w4 ⟨rfl,rfl⟩)
          | (at_builtin;refine wpList_append_own _ rfl _ _ 34 rfl w.heap.size 9 i0 (.string ⟨#[]⟩) 1 16 Tryz.underlying34 gw hz0 hz1 hz2 rfl (by decide) _ _ _ rfl (aP.alloc _) ⟨w2.heap.size,0,none⟩ 1 1 [str (List.drop (j+1) (List.take ((j+1)+N) s))] rfl rfl (cell_one_new _ _ _) (λx hx=>by simp at hx;subst hx;rfl) (by unfold maxLen;omega) (by omega) (by have:=aH.size;simp;omega) ?_;intro v' w5 bB hgr _))
         exact⟨⟨(j+1)+1,acc,by omega,by go_num,by omega,aP,HX.out,aH⟩,by simp only[intOf];omega⟩
       · have HX:=zh hx
         have g3:((N:Int)==0)=false:=by rw[beq_eq_false_iff_ne];omega
         have g4:(((s[(j+1)+M]).toNat:Int)==58)=true:=by rw[hch];rfl
         have HB:=zh (rfl:hasB acc []=hasB acc []);clear hx h0 HO hch;go_wp2_with (first
          | (go_at_call 140;refine(hR _).mono ?_;clear hR;rintro e w2 ⟨rfl,aC⟩;have aH:=hb.trans (af aC hb.size);have aP:=ay hown aC zr;have fh:Strs w2 _ acc:=Sl.bH (by simpa[aB] using aP))
          | (go_at_call 162;refine(hK _).mono ?_;clear hK;rintro e w3 ⟨rfl,rfl⟩)
          | (go_at_call 163;(with_reducible refine(dD fh HB.out).mono ?_);rintro e w4 ⟨rfl,rfl⟩)
          | (at_builtin;refine wpList_append_own _ rfl _ _ 34 rfl w.heap.size 9 i0 (.string ⟨#[]⟩) 1 16 Tryz.underlying34 gw hz0 hz1 hz2 rfl (by decide) _ _ _ rfl (aP.alloc _) ⟨w2.heap.size,0,none⟩ 1 1 [str (List.drop (j+1) (List.take ((j+1)+N) s))] rfl rfl (cell_one_new _ _ _) (λx hx=>by simp at hx;subst hx;rfl) (by unfold maxLen;omega) (by omega) (by have:=aH.size;simp;omega) ?_;intro v' w5 bB hgr _))
         exact⟨⟨(j+1)+1,acc,by omega,by go_num,by omega,aP,HX.out,aH⟩,by simp only[intOf];omega⟩
       · have g3 : ((N : Int) == 0) = false := by rw [beq_eq_false_iff_ne]; omega
         rcases DP with hl|⟨hl,hch⟩
         ·
          rcases hcs with⟨hq,hx⟩|⟨hq,hx⟩
          · have HX:=zh hx
            have HB:=zh hq;clear hx h0 HO hq;go_wp2_with (first
             | (go_at_call 140;refine(hR _).mono ?_;clear hR;rintro e w2 ⟨rfl,aC⟩;have aH:=hb.trans (af aC hb.size);have aP:=ay hown aC zr;have fh:Strs w2 _ acc:=Sl.bH (by simpa[aB] using aP))
             | (go_at_call 162;refine(hK _).mono ?_;clear hK;rintro e w3 ⟨rfl,rfl⟩)
             | (go_at_call 163;(with_reducible refine(dD fh HB.out).mono ?_);rintro e w4 ⟨rfl,rfl⟩)
             | (at_builtin;refine wpList_append_own _ rfl _ _ 34 rfl w.heap.size 9 i0 (.string ⟨#[]⟩) 1 16 Tryz.underlying34 gw hz0 hz1 hz2 rfl (by decide) _ _ _ rfl (aP.alloc _) ⟨w2.heap.size,0,none⟩ 1 1 [str (List.drop (j+1) (List.take ((j+1)+N) s))] rfl rfl (cell_one_new _ _ _) (λx hx=>by simp at hx;subst hx;rfl) (by unfold maxLen;omega) (by omega) (by have:=aH.size;simp;omega) ?_;intro v' w5 bB hgr _))
            exact⟨⟨(j+1)+1,acc,by omega,by go_num,by omega,aP,HX.out,aH⟩,by simp only[intOf];omega⟩
          · have HX:=zh hx
            have HB:=zh hq;clear hx h0 HO hq;go_wp2_with (first
             | (go_at_call 140;refine(hR _).mono ?_;clear hR;rintro e w2 ⟨rfl,aC⟩;have aH:=hb.trans (af aC hb.size);have aP:=ay hown aC zr;have fh:Strs w2 _ acc:=Sl.bH (by simpa[aB] using aP))
             | (go_at_call 162;refine(hK _).mono ?_;clear hK;rintro e w3 ⟨rfl,rfl⟩)
             | (go_at_call 163;(with_reducible refine(dD fh HB.out).mono ?_);rintro e w4 ⟨rfl,rfl⟩)
             | (at_builtin;refine wpList_append_own _ rfl _ _ 34 rfl w.heap.size 9 i0 (.string ⟨#[]⟩) 1 16 Tryz.underlying34 gw hz0 hz1 hz2 rfl (by decide) _ _ _ rfl (aP.alloc _) ⟨w2.heap.size,0,none⟩ 1 1 [str (List.drop (j+1) (List.take ((j+1)+N) s))] rfl rfl (cell_one_new _ _ _) (λx hx=>by simp at hx;subst hx;rfl) (by unfold maxLen;omega) (by omega) (by have:=aH.size;simp;omega) ?_;intro v' w5 bB hgr _))
            refine⟨⟨(j+1)+1,acc++[List.drop (j+1) (List.take ((j+1)+N) s)],by omega,by go_num,by simp only[List.length_append,List.length_cons,List.length_nil];omega,?_,HX.out,?_⟩,by simp only[intOf];omega⟩
            · rw[List.length_append,show aB (acc++[List.drop (j+1) (List.take ((j+1)+N) s)])=aB acc++[str (List.drop (j+1) (List.take ((j+1)+N) s))] from by simp[aB]]
              exact bB
            · exact(aH.alloc aH.size _).grown hgr (by have:=aH.size;simp;omega) (λb e=>(aP.lt b e).1)
         ·
          have g4:(((s[(j+1)+M]).toNat:Int)==58)=false:=by rw[beq_eq_false_iff_ne];exact nY (d:=58) hch
          clear hch;rcases hcs with⟨hq,hx⟩|⟨hq,hx⟩
          · have HX:=zh hx
            have HB:=zh hq;clear hx h0 HO hq;go_wp2_with (first
             | (go_at_call 140;refine(hR _).mono ?_;clear hR;rintro e w2 ⟨rfl,aC⟩;have aH:=hb.trans (af aC hb.size);have aP:=ay hown aC zr;have fh:Strs w2 _ acc:=Sl.bH (by simpa[aB] using aP))
             | (go_at_call 162;refine(hK _).mono ?_;clear hK;rintro e w3 ⟨rfl,rfl⟩)
             | (go_at_call 163;(with_reducible refine(dD fh HB.out).mono ?_);rintro e w4 ⟨rfl,rfl⟩)
             | (at_builtin;refine wpList_append_own _ rfl _ _ 34 rfl w.heap.size 9 i0 (.string ⟨#[]⟩) 1 16 Tryz.underlying34 gw hz0 hz1 hz2 rfl (by decide) _ _ _ rfl (aP.alloc _) ⟨w2.heap.size,0,none⟩ 1 1 [str (List.drop (j+1) (List.take ((j+1)+N) s))] rfl rfl (cell_one_new _ _ _) (λx hx=>by simp at hx;subst hx;rfl) (by unfold maxLen;omega) (by omega) (by have:=aH.size;simp;omega) ?_;intro v' w5 bB hgr _))
            exact⟨⟨(j+1)+1,acc,by omega,by go_num,by omega,aP,HX.out,aH⟩,by simp only[intOf];omega⟩
          · have HX:=zh hx
            have HB:=zh hq;clear hx h0 HO hq;go_wp2_with (first
             | (go_at_call 140;refine(hR _).mono ?_;clear hR;rintro e w2 ⟨rfl,aC⟩;have aH:=hb.trans (af aC hb.size);have aP:=ay hown aC zr;have fh:Strs w2 _ acc:=Sl.bH (by simpa[aB] using aP))
             | (go_at_call 162;refine(hK _).mono ?_;clear hK;rintro e w3 ⟨rfl,rfl⟩)
             | (go_at_call 163;(with_reducible refine(dD fh HB.out).mono ?_);rintro e w4 ⟨rfl,rfl⟩)
             | (at_builtin;refine wpList_append_own _ rfl _ _ 34 rfl w.heap.size 9 i0 (.string ⟨#[]⟩) 1 16 Tryz.underlying34 gw hz0 hz1 hz2 rfl (by decide) _ _ _ rfl (aP.alloc _) ⟨w2.heap.size,0,none⟩ 1 1 [str (List.drop (j+1) (List.take ((j+1)+N) s))] rfl rfl (cell_one_new _ _ _) (λx hx=>by simp at hx;subst hx;rfl) (by unfold maxLen;omega) (by omega) (by have:=aH.size;simp;omega) ?_;intro v' w5 bB hgr _))
            refine⟨⟨(j+1)+1,acc++[List.drop (j+1) (List.take ((j+1)+N) s)],by omega,by go_num,by simp only[List.length_append,List.length_cons,List.length_nil];omega,?_,HX.out,?_⟩,by simp only[intOf];omega⟩
            · rw[List.length_append,show aB (acc++[List.drop (j+1) (List.take ((j+1)+N) s)])=aB acc++[str (List.drop (j+1) (List.take ((j+1)+N) s))] from by simp[aB]]
              exact bB
            · exact(aH.alloc aH.size _).grown hgr (by have:=aH.size;simp;omega) (λb e=>(aP.lt b e).1)
end Go.Proofs.YtakgjcfkdemipaaGreatDoor
