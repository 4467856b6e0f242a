/-
  Lemmas for the statement: faces, signatures, needs and operations (plain): what the functions of the package face answer. Contracts: argusref03.Same; the statements' own examples (arguslaw03.kept). Contract: the statements' own examples (arguslaw03.kept). Conditions: bounds of lengths; the variable strings.asciiSpace.
-/
import Derived.Test.YtakgjcfkdemipaaGreatDoorZGn
import Derived.Test.YtakgjcfkdemipaaGreatDoorZG12
import Derived.Test.YtakgjcfkdemipaaGreatDoorZG14
set_option maxHeartbeats 3200000
namespace Go.Proofs.YtakgjcfkdemipaaGreatDoor
def gy:List (List UInt8)→Bool
 | []=>true
 | [a]=>isName a
 | a::b::l=>isName a&&Op.bytesLess a b&&gy (b::l)
def ek (s:cD) (pS:Bool):Bool:=
 decide (s.args.length≤6)&&decide (s.sigs.length≤6)&&gy s.sigs&& !(s.iter&&decide (s.res=[]))&&
  (aI s).all (λt=>decide ((aq t).1=0)&&(!eW t||pS))
def bh (l:List aG):Bool:=l.all (λn=>ek n.sig true)&&decide (l.length≤4)&&gy (l.map (·.name))
def sy:List (List UInt8)→Bool
 | []=>true
 | a::l=> !l.contains a&&sy l
def eU (f:aB):Bool:=
 isName f.name&&decide (1≤f.kind)&&decide (f.kind≤3)&&bh f.ag&&(f.par||f.ag.isEmpty)&&
  decide (1≤f.ops.length)&&decide (f.ops.length≤20)&&f.ops.all (λo=>isName o.name&&ek o.sig f.par)&&sy (f.ops.map (·.name))&&
  (decide (f.kind=3)||match f.ops with
   | [o]=>decide (o.name=f.name)&&decide (o.sig.iter=decide (f.kind=2))
   | _=>false)
def ez (l:List aB) (n:List UInt8):Option aB:=l.find? λf=>decide (f.name=n)
def jD (a:List UInt8):List (List UInt8)→List (List UInt8)×Nat
 | []=>([],0)
 | t::l=>if(aQ t a).2=0 then(if(jD a l).2=0 then((aQ t a).1::(jD a l).1,0) else([],(jD a l).2)) else([],(aQ t a).2)
def bZ (s:cD) (a:List UInt8):cD×Nat:=
 if a=[] then(s,0)
 else if(jD a s.args).2≠0 then(.zero,(jD a s.args).2)
 else if s.res=[] then(⟨s.iter,(jD a s.args).1,[],s.sigs⟩,0)
 else if(aQ s.res a).2≠0 then(.zero,(aQ s.res a).2)
 else(⟨s.iter,(jD a s.args).1,(aQ s.res a).1,s.sigs⟩,0)
structure aR where
 bK:List aB
 ag:List aG
 par:Bool
def sg (res:List UInt8) (args:List (List UInt8)) (sigs:List (List UInt8)):cD:=⟨false,args,res,sigs⟩
def cG (c:aR) (t:List UInt8):List aG×List UInt8:=
 let eq:aG:=⟨[101,113,117,97,108],sg aX [t,t] []⟩
 match (aq t).2.k with
 | 1=>([eq,⟨[108,101],sg aX [t,t] []⟩,⟨[108,116],sg aX [t,t] []⟩]++([[97,100,100],[115,117,98],[109,117,108]].map λn=>⟨n,sg t [t,t] [[111,118,101,114,102,108,111,119]]⟩)++([[100,105,118],[109,111,100]].map λn=>⟨n,sg t [t,t] [[122,101,114,111,100,105,118,105,100,101]]⟩),[])
 | 2=>([eq,⟨[97,110,100],sg t [t,t] []⟩,⟨[111,114],sg t [t,t] []⟩,⟨[110,111,116],sg t [t] []⟩],[])
 | 3=>([eq],[])
 | 4=>([eq,⟨[97,100,100,104],sg [] [t,(bQ t).1] [[111,118,101,114,102,108,111,119]]⟩,⟨[102,101,116,99,104],sg (bQ t).1 [t,cU] [[98,111,117,110,100,115]]⟩,⟨[110,101,119],sg t [] []⟩,⟨[114,101,109,104],sg (bQ t).1 [t] [[98,111,117,110,100,115]]⟩,⟨[115,105,122,101],sg cU [t] []⟩,⟨[115,116,111,114,101],sg [] [t,cU,(bQ t).1] [[98,111,117,110,100,115]]⟩],[])
 | 5=>(eq::((cK t).1.flatMap λp=>[⟨[103,101,116,95]++p.1,sg p.2 [t] []⟩,⟨[115,101,116,95]++p.1,sg [] [t,p.2] []⟩])++[⟨[109,97,107,101],sg t ((cK t).1.map (·.2)) []⟩],[])
 | 6=>(eq::((cK t).1.flatMap λp=>[⟨[105,115,95]++p.1,sg aX [t] []⟩,⟨[109,97,107,101,95]++p.1,sg t [p.2] []⟩]),[])
 | 7=>(((ez c.bK (dI t).1).map (·.ops)).getD [],(bQ t).1)
 | 8=>(c.ag,[])
 | _=>([],[])
def oE (c:aR) (t n:List UInt8):cD×Nat:=
 match (cG c t).1.find? λo=>decide (o.name=n) with
 | none=>(.zero,40)
 | some o=>bZ o.sig (cG c t).2
def xK (c:aR) (t:List UInt8) (n:aG):Bool:=
 decide ((oE c t n.name).2≠0)||decide ((bZ n.sig t).2≠0)|| !ic (oE c t n.name).1 (bZ n.sig t).1
def dP (c:aR) (want:List aG) (t:List UInt8):Option (List UInt8):=(want.find? (xK c t)).map (·.name)
def dV:List Nat→Nat
 | []=>0
 | e::l=>if e=0 then dV l else e
def gH (c : aR) (rec : List UInt8 → Nat) (u : List UInt8) : Nat :=
 if (aq u).2.k = 7 then
  match ez c.bK (dI u).1 with
  | none=>5
  | some f=>
   if f.kind=3∧(bQ u).2.1=f.par then
    (if(bQ u).2.1=true∧((f.ag≠[]∧rec (bQ u).1≠0)∨(dP c f.ag (bQ u).1).isSome=true) then 41 else 0)
   else 5
 else 0
def cV (c:aR):Nat→List UInt8→Nat
 | 0,_=>0
 | n+1,t=>
  if(aq t).1≠0 then(aq t).1
  else if eW t=true∧c.par=false then 43
  else dV ((dO t).1.map (gH c (cV c n)))
def dx (c:aR) (t:List UInt8):Nat:=cV c 7 t
def dm:List aB→Nat→Option (List UInt8)→Option (Nat×Nat)
 | [],_,_=>none
 | f::l,i,p=>
  if 20≤i then some (i,2)
  else if eU f=false then some (i,42)
  else if(p.any λq=> !Op.bytesLess q f.name)=true then some (i,6)
  else dm l (i+1) (some f.name)
def mJ (f:aB):List cD:=f.ag.map (·.sig)++f.ops.map (·.sig)
def fL (all:List aB):List aB→Nat→Option (Nat×Nat)
 | [],_=>none
 | f::l,i=>
  let e:=dV (((mJ f).flatMap aI).map (dx ⟨all,f.ag,f.par⟩))
  if e=0 then fL all l (i+1) else some (i,e)
def ja (l:List aB):Nat×Nat:=((dm l 0 none).orElse λ_=>fL l l 0).getD (0,0)
def fS (a:List UInt8):List aG→List aG×Nat
 | []=>([],0)
 | o::l=>if(bZ o.sig a).2=0 then(if(fS a l).2=0 then(⟨o.name,(bZ o.sig a).1⟩::(fS a l).1,0) else([],(fS a l).2)) else([],(bZ o.sig a).2)
def cZ (x:aG):List aG→List aG
 | []=>[x]
 | y::l=>if Op.bytesLess y.name x.name=true then y::cZ x l else x::y::l
def cN (l:List aG):List aG:=l.foldl (λacc x=>cZ x acc) []
def bP (l:List aB) (ag:List aG):Nat:=if(ja l).2≠0 then(ja l).2 else if bh ag=true then 0 else 42
def dX (ag:List aG) (t:List UInt8):Bool:=decide (0<ag.length)||eW t
def gU (l:List aB) (ag:List aG) (t:List UInt8):Nat:=if bP l ag≠0 then bP l ag else dx ⟨l,ag,dX ag t⟩ t
def oJ (l:List aB) (ag:List aG) (par:Bool) (t:List UInt8):Nat:=if bP l ag≠0 then bP l ag else dx ⟨l,ag,par⟩ t
def Jb (c:aR) (t:List UInt8):List aG×Nat:=if(fS (cG c t).2 (cG c t).1).2≠0 then([],(fS (cG c t).2 (cG c t).1).2) else(cN (fS (cG c t).2 (cG c t).1).1,0)
def nG (l:List aB) (ag:List aG) (t:List UInt8):List aG×Nat:=if gU l ag t≠0 then([],gU l ag t) else Jb ⟨l,ag,dX ag t⟩ t
def lC (l:List aB) (ag:List aG) (t n:List UInt8):cD×Nat:=if gU l ag t≠0 then(.zero,gU l ag t) else oE ⟨l,ag,dX ag t⟩ t n
def DZ (c:aR) (want:List aG) (t:List UInt8):Bool:=(want.isEmpty||decide (dx c t=0))&&(dP c want t).isNone
def JC (c:aR) (f:aB) (a:List UInt8):cD×Nat:=
 if f.kind=3∨f.par≠decide (a≠[]) then(.zero,5)
 else if f.par=true∧dx c a≠0 then(.zero,dx c a)
 else if f.par=true∧DZ c f.ag a=false then(.zero,41)
 else match f.ops with
  | []=>(.zero,0)
  | o::_=>bZ o.sig a
def rO (l:List aB) (ag:List aG) (n a:List UInt8):cD×Nat:=
 if bP l ag≠0 then(.zero,bP l ag)
 else match ez l n with
  | none=>(.zero,5)
  | some f=>JC ⟨l,ag,dX ag a⟩ f a
def mE (l:List aB) (ag want:List aG) (t:List UInt8):List UInt8×Bool×Nat:=
 if bP l ag≠0 then([],false,bP l ag)
 else if bh want=false then([],false,42)
 else if dx ⟨l,ag,dX ag t⟩ t≠0 then([],false,dx ⟨l,ag,dX ag t⟩ t)
 else match dP ⟨l,ag,dX ag t⟩ want t with
  | none=>([],true,0)
  | some n=>(n,false,0)
def yx (f:aB):List (List UInt8)×Nat:=
 if eU f=true then(iY (((mJ f).flatMap aI).flatMap λt=>(dz t).1),0) else([],42)
def Oa (s:cD):List UInt8:=
 (if s.iter then [105,116,101,114,40] else [112,114,111,99,40])++ei s.args++[41]++(if s.res=[] then [] else(if s.iter then [32,121,105,101,108,100,115,32] else [32,114,101,116,117,114,110,115,32])++s.res)++
  (if s.sigs=[] then [] else [32,115,105,103,110,97,108,115,40]++ei s.sigs++[41])
def fG (word:List UInt8) (o:aG):List UInt8:=word++[32]++o.name++[32]++Oa o.sig++[10]
def DX (f:aB):List UInt8:=
 (if f.kind=1 then [112,114,111,99] else if f.kind=2 then [105,116,101,114] else [99,108,117,115,116,101,114])++[32]++f.name++(if f.par then [91,116,93] else [])++[10]++
  f.ag.flatMap (fG ([104,97,115]))++f.ops.flatMap (fG ([111,112]))
def vR (f:aB):List UInt8×Nat:=if eU f=true then(DX f,0) else([],42)
end Go.Proofs.YtakgjcfkdemipaaGreatDoor
namespace Go.Proofs.YtakgjcfkdemipaaGreatDoor
open Go.RowKit
theorem Strs.sh {w:World} {v:Value} {ss:List (List UInt8)} (h:Strs w v ss):∃p c,v=.slice p ss.length c:=by
 rcases h.shape with⟨rfl,rfl⟩|⟨b,o,c,rfl,_⟩
 · exact⟨none,0,rfl⟩
 · exact⟨_,_,rfl⟩
theorem Strs.at {w:World} {p:Option Addr} {n c:Nat} {ss:List (List UInt8)} (h:Strs w (.slice p n c) ss) {k:Nat} {x:List UInt8} (hk:ss[k]? =some x):∃b o,p=some ⟨b,o,none⟩∧w.cell? ⟨b,o+k,none⟩=some (str x):=by
 obtain⟨hj,e⟩:=List.getElem?_eq_some_iff.1 hk
 rcases h.shape with⟨h1,rfl⟩|⟨b,o,c',h1,_,h3⟩
 · simp at hj
 · injection h1 with h1
   exact⟨b,o,h1,by rw[h3 k hj,e]⟩
end Go.Proofs.YtakgjcfkdemipaaGreatDoor
namespace Go.Proofs.YtakgjcfkdemipaaGreatDoor
open Go.RowKit
end Go.Proofs.YtakgjcfkdemipaaGreatDoor
namespace Go.Proofs.YtakgjcfkdemipaaGreatDoor
open Go.RowKit
end Go.Proofs.YtakgjcfkdemipaaGreatDoor
namespace Go.Proofs.YtakgjcfkdemipaaGreatDoor
theorem BS {s u:List UInt8} {t a:Tr} (hs:aq s=(0,t)) (hu:aq u=(0,a)):aQ s u=ij (t.put a):=by
 unfold aQ jC
 simp only[hs,hu,if_true]
theorem JV {s u x:List UInt8} (h:aQ s u=(x,0)):∃t a,aq s=(0,t)∧aq u=(0,a)∧x=(t.put a).txt∧aq x=(0,t.put a):=by
 have h2:(jC s u).2.2=0:=by
  unfold aQ at h;split at h
  · assumption
  · rename_i hc;simp only[Prod.mk.injEq] at h;exact absurd h.2 hc
 rcases hq:jC s u with⟨t,a,c⟩
 rw[hq] at h2
 simp only at h2
 subst h2
 obtain⟨h3,h4⟩:=zu hq
 rw[BS h3 h4] at h
 obtain⟨o1,_⟩:=bE h3
 obtain⟨o2,_⟩:=bE h4
 have ho:(t.put a).ok:=Tr.ok.put o2 o1
 unfold ij at h
 split at h
 · simp at h
 · rename_i hs
   simp only[Prod.mk.injEq,and_true] at h;refine⟨t,a,h3,h4,h.symm,?_⟩;rw[←h,nR ho,if_neg hs]
end Go.Proofs.YtakgjcfkdemipaaGreatDoor
namespace Go.Proofs.YtakgjcfkdemipaaGreatDoor
open Go.RowKit
end Go.Proofs.YtakgjcfkdemipaaGreatDoor
namespace Go.Proofs.YtakgjcfkdemipaaGreatDoor
def Fo.FP:Fo→List (List UInt8×Tr)
 | .nil=>[]
 | .cons pn k n sub rest=>(pn,⟨k,n,sub⟩)::rest.FP
theorem Fo.zf:∀fo:Fo,fo.pts=fo.FP.map λx=>(x.1,x.2.txt)
 | .nil=>rfl
 | .cons pn k n sub rest=>by rw[Fo.pts,Fo.FP,List.map_cons,Fo.zf rest]
theorem Wf.parts {tag:Option (List UInt8)} {fo:Fo} (h:Wf tag fo):∀b,tag=some b→(∀x∈fo.FP,isName x.1=true∧x.2.ok∧Op.bytesLess b x.1=true∧x.2.level≤fo.level)∧fo.FP.Pairwise λx y=>Op.bytesLess x.1 y.1=true:=by
 induction h with
 | par=>intro b h;simp at h
 | word=>intro b h;simp at h
 | arr=>intro b h;simp at h
 | rcd=>intro b h;simp at h
 | nam=>intro b h;simp at h
 | app=>intro b h;simp at h
 | last b pn k n sub hn hb h ih=>
  intro b' e;injection e with e;subst e;refine⟨λx hx=>?_,by simp[Fo.FP]⟩;simp only[Fo.FP,List.mem_singleton] at hx;subst hx;exact⟨hn,h,hb,by simp only[Tr.level,Fo.level];omega⟩
 | more b pn k n sub rest hn hb h h2 ih ih2=>
  intro b' e;injection e with e;subst e;obtain⟨i1,i2⟩:=ih2 pn rfl
  constructor
  · intro x hx
    rw[Fo.FP] at hx;rcases List.mem_cons.1 hx with rfl|hx
    · exact⟨hn,h,hb,by simp only[Tr.level,Fo.level];omega⟩
    · obtain⟨j1,j2,j3,j4⟩:=i1 x hx
      exact⟨j1,j2,iy _ _ _ hb j3,by simp only[Fo.level];omega⟩
  · rw[Fo.FP,List.pairwise_cons]
    exact⟨λx hx=>(i1 x hx).2.2.1,i2⟩
theorem qp {t:Tr} (h:t.ok) (h1:t.txt.length≤100) (h2:t.level≤6):aq t.txt=(0,t):=by
 rw[nR h,if_neg (by omega)]
theorem N2 {T:Tr} (h:T.ok) (hk:T.k=5∨T.k=6):Wf (some []) T.sub:=by
 obtain⟨k,n,fo⟩:=T
 simp only at hk ⊢
 have h':Wf none (.cons [] k n fo .nil):=h
 clear h
 cases h' with
 | par=>simp at hk
 | word _ h3=>omega
 | arr _ h=>simp at hk
 | rcd _ _ _ hk2 h hl=>exact h
 | nam _ _=>simp at hk
 | app _ _ _ h=>simp at hk
end Go.Proofs.YtakgjcfkdemipaaGreatDoor
namespace Go.Proofs.YtakgjcfkdemipaaGreatDoor
theorem xC (ts:List Tr):kZ ts=kf (ts.map (·.txt)):=by
 unfold kZ kf
 rw[List.foldl_map]
theorem EX (acc l:List (List UInt8)):∃r,l.foldl (λacc s=>if hasB acc s then acc else acc++[s]) acc=acc++r:=by
 induction l generalizing acc with
 | nil=>exact⟨[],by simp⟩
 | cons s l ih=>
  rw[List.foldl_cons];split
  · exact ih acc
  · obtain⟨r,hr⟩:=ih (acc++[s])
    exact⟨s::r,by rw[hr];simp⟩
theorem Dc (s:List UInt8) (l:List (List UInt8)):∃r,kf (s::l)=s::r:=by
 obtain⟨r,hr⟩:=EX [s] l
 refine⟨r,?_⟩
 unfold kf
 rw[List.foldl_cons]
 exact hr
theorem Fo.CU:∀fo:Fo,(fo=.nil∨∃tag,Wf tag fo)→∀u∈fo.ins,u.ok∧u.level≤fo.level
 | .nil,_,u,hu=>by simp[Fo.ins] at hu
 | .cons pn k n sub rest, h, u, hu => by
  obtain⟨tag,hw⟩:∃tag,Wf tag (.cons pn k n sub rest):=by
   rcases h with h|h
   · simp at h
   · exact h
  obtain⟨h1,h2⟩:=hw.head;rw[Fo.ins] at hu;rw[Fo.level];rcases List.mem_cons.1 hu with hu|hu
  · subst hu
    refine⟨h1,?_⟩;unfold Tr.level;simp only;omega
  · rcases List.mem_append.1 hu with hu|hu
    · have:=Fo.CU sub h1.inner u hu
      exact⟨this.1,by omega⟩
    · have:=Fo.CU rest h2 u hu
      exact⟨this.1,by omega⟩
theorem Fo.CV:∀fo:Fo,∀u∈fo.ins,u.txt.length≤fo.tx.length
 | .nil,u,hu=>by simp[Fo.ins] at hu
 | .cons pn k n sub rest, u, hu => by
  obtain⟨e1,e2,e3⟩:=Fo.zv pn k n sub rest;rw[Fo.ins] at hu;rcases List.mem_cons.1 hu with hu|hu
  · subst hu
    rw[Tr.eT];exact e1
  · rcases List.mem_append.1 hu with hu|hu
    · have:=Fo.CV sub u hu
      omega
    · have:=Fo.CV rest u hu
      omega
theorem Tr.ok.Eg {t u:Tr} (h:t.ok) (hu:u∈t.ins):u.ok∧u.txt.length≤t.txt.length∧(u=t∨u.level<t.level):=by
 unfold Tr.ins at hu
 rcases List.mem_cons.1 hu with hu|hu
 · subst hu
   exact⟨h,nl _,.inl rfl⟩
 · have h1:t.sub=.nil∨∃tag,Wf tag t.sub:=Wf.inner (show Wf none (.cons [] t.k t.n t.sub .nil) from h)
   obtain⟨o,l⟩:=Fo.CU t.sub h1 u hu;have hl:=Fo.CV t.sub u hu;obtain⟨_,e2,_⟩:=Fo.zv [] t.k t.n t.sub .nil;refine⟨o,?_,.inr (by unfold Tr.level at l ⊢;omega)⟩;rw[Tr.eT t];exact Nat.le_trans hl e2
theorem qB {t:List UInt8} {T:Tr} (h:aq t=(0,T)):∃r,dO t=(t::r,0)∧(t::r).length≤100∧∀s∈r,s≠t∧∃U,aq s=(0,U)∧s.length≤100∧U.level<T.level:=by
 obtain⟨o,e,l,v⟩:=bE h
 obtain⟨r,hr⟩:=Dc t (T.sub.ins.map (·.txt))
 have hi:kZ T.ins=t::r:=by
  rw[xC,Tr.ins,List.map_cons,e];exact hr
 refine⟨r,?_,?_,?_⟩
 · unfold dO
   rw[h];simp only[if_true];rw[hi]
 · have h1:=AE T.ins
   have h2:=o.n9;rw[hi] at h1;rw[e] at h2;omega
 · intro s hs
   have hnd:=sx (t::T.sub.ins.map (·.txt));rw[hr] at hnd;have hne:s≠t:=λe=>(List.nodup_cons.1 hnd).1 (e▸hs)
   have hm:s∈kf (t::T.sub.ins.map (·.txt)):=by rw[hr];exact List.mem_cons_of_mem _ hs
   rw[oq] at hm;rcases List.mem_cons.1 hm with hm|hm
   · exact absurd hm hne
   · obtain⟨U,hU,rfl⟩:=List.mem_map.1 hm
     obtain⟨oU,lU,Qu⟩:=o.Eg (List.mem_cons_of_mem _ hU);rw[e] at lU;rcases Qu with Qu|Qu
     · exact absurd (by rw[Qu];exact e) hne
     · refine⟨hne,U,?_,by omega,Qu⟩
       rw[nR oU,if_neg (by omega)]
theorem Gp (t a:List UInt8):(aQ t a).1.length≤100:=by
 rcases h:aQ t a with⟨x,c⟩
 by_cases hc:c=0
 · subst hc
   obtain⟨_,_,_,_,_,k⟩:=JV h;exact(bE k).2.2.1
 · unfold aQ at h
   split at h
   · unfold ij at h
     split at h
     · simp only[Prod.mk.injEq] at h;rw[←h.1];simp
     · simp only[Prod.mk.injEq] at h;exact absurd h.2.symm hc
   · simp only[Prod.mk.injEq] at h;rw[←h.1];simp
theorem oh (t:List UInt8):iz t≤6:=by
 unfold iz
 split
 · rename_i h
   exact(bE (s:=t) (t:=(aq t).2) (by rw[←h])).2.2.2
 · omega
end Go.Proofs.YtakgjcfkdemipaaGreatDoor
namespace Go.Proofs.YtakgjcfkdemipaaGreatDoor
open Go.RowKit
theorem iD : ∀ (l : List aB) (i : Nat) (p : Option (List UInt8)), dm l i p = none → (l = [] ∨ i + l.length ≤ 20) ∧ (∀ f ∈ l, eU f = true) ∧ (∀ q, p = some q → ∀ f ∈ l, Op.bytesLess q f.name = true) ∧ l.Pairwise (fun f g => Op.bytesLess f.name g.name = true)
 | [],_,_,_=>⟨.inl rfl,(λ_ h=>by cases h),(λ_ _ _ h=>by cases h),List.Pairwise.nil⟩
 | f :: l, i, p, h => by
  unfold dm at h;split at h
  · cases h
  · rename_i h1
    split at h
    · cases h
    · rename_i h2
      split at h
      · cases h
      · rename_i h3
        obtain⟨k1,k2,k3,k4⟩:=iD l (i+1) (some f.name) h;have hf:eU f=true:=by simpa using h2
        refine⟨.inr ?_,?_,?_,?_⟩
        · rcases k1 with rfl|k1
          · simp;omega
          · rw[List.length_cons];omega
        · intro g hg
          rcases List.mem_cons.1 hg with rfl|hg
          · exact hf
          · exact k2 g hg
        · rintro q rfl g hg
          have h4:Op.bytesLess q f.name=true:=by simpa using h3
          rcases List.mem_cons.1 hg with rfl|hg
          · exact h4
          · exact iy _ _ _ h4 (k3 _ rfl g hg)
        · exact List.pairwise_cons.2 ⟨λg hg=>k3 _ rfl g hg,k4⟩
theorem tG:∀(l:List aB) (i:Nat) (p:Option (List UInt8)) (j e:Nat),dm l i p=some (j,e)→e≠0
 | [],_,_,_,_,h=>by cases h
 | f::l,i,p,j,e,h=>by
  unfold dm at h;split at h
  · simp only[Option.some.injEq,Prod.mk.injEq] at h;omega
  · split at h
    · simp only[Option.some.injEq,Prod.mk.injEq] at h;omega
    · split at h
      · simp only[Option.some.injEq,Prod.mk.injEq] at h;omega
      · exact tG l _ _ _ _ h
theorem vJ (a:List aB):∀(l:List aB) (i j e:Nat),fL a l i=some (j,e)→e≠0
 | [],_,_,_,h=>by cases h
 | f::l,i,j,e,h=>by
  unfold fL at h;simp only at h;split at h
  · exact vJ a l _ _ _ h
  · simp only[Option.some.injEq,Prod.mk.injEq] at h
    omega
theorem sR {l:List aB} (h:(ja l).2=0):dm l 0 none=none∧fL l l 0=none:=by
 unfold ja at h
 rcases h1:dm l 0 none with _|⟨j,e⟩
 · rcases h2:fL l l 0 with _|⟨j,e⟩
   · exact⟨rfl,rfl⟩
   · rw[h1,h2] at h
     exact absurd h (vJ l l 0 j e h2)
 · rw[h1] at h
   exact absurd h (tG l 0 none j e h1)
theorem yV {a b:List UInt8} (h:Op.bytesLess a b=true):a≠b:=by
 rintro rfl
 rw[nD] at h
 cases h
def oF (fs:List aB):Prop:=fs.Pairwise λf g=>f.name≠g.name
theorem zO {l:List aB} (h:dm l 0 none=none):oF l:=(iD l 0 none h).2.2.2.imp λh=>yV h
theorem gm {s:List UInt8} (h:(aq s).1=0):1≤(aq s).2.k∧(aq s).2.k≤8:=by
 rcases hq:aq s with⟨c,T⟩
 rw[hq] at h
 simp only at h
 subst h
 obtain⟨h1,_⟩:=bE hq
 obtain⟨k,n,sub⟩:=T
 have h':Wf none (.cons [] k n sub .nil):=h1
 simp only
 cases h' with
 | par=>exact⟨by decide,by decide⟩
 | word k h=>rcases h with rfl|rfl|rfl<;>exact⟨by decide,by decide⟩
 | arr a h=>exact⟨by decide,by decide⟩
 | rcd k w fo hk=>rcases hk with⟨rfl,rfl⟩|⟨rfl,rfl⟩<;>exact⟨by decide,by decide⟩
 | nam n hn=>exact⟨by decide,by decide⟩
 | app n a hn h=>exact⟨by decide,by decide⟩
theorem om {s:List UInt8} {T:Tr} (h:aq s=(0,T)):iz s=T.level:=by unfold iz;rw[h,if_pos rfl]
theorem uo {t:List UInt8} (h:(aq t).1=0):(dO t).2=0∧(dO t).1.length≤100∧∀u∈(dO t).1,(aq u).1=0∧u.length≤100∧iz u≤iz t:=by
 rcases hq:aq t with⟨c,T⟩
 rw[hq] at h
 simp only at h
 subst h
 obtain⟨r,h1,h2,h3⟩:=qB hq
 rw[h1]
 refine⟨rfl,h2,λu hu=>?_⟩
 rcases List.mem_cons.1 hu with rfl|hu
 · exact⟨by rw[hq],(bE hq).2.2.1,nl _⟩
 · obtain⟨_,U,k1,k2,k3⟩:=h3 u hu
   rw[om k1,om hq];exact⟨by rw[k1],k2,Nat.le_of_lt k3⟩
theorem FE {s:List UInt8} (h:(aq s).1=0) (hk:(aq s).2.k=7):lX s [4,7]=aq s∧lX s [7]=aq s:=by
 unfold lX
 rw[if_pos h,if_pos h,if_pos (by rw[hk];rfl),if_pos (by rw[hk];rfl)]
 exact⟨rfl,rfl⟩
theorem qX {u : List UInt8} (h : (aq u).1 = 0) (hk : (aq u).2.k = 7) : (bQ u).2.2 = 0 ∧ (bQ u).1.length ≤ 100 ∧ (dI u).1.length ≤ 100 ∧ (dI u).2 = 0 ∧ ((bQ u).2.1 = true → (aq (bQ u).1).1 = 0 ∧ (bQ u).1 ≠ [] ∧ iz (bQ u).1 < iz u) ∧ ((bQ u).2.1 = false → (bQ u).1 = []) := by
 rcases hq:aq u with⟨c,T⟩
 rw[hq] at h hk
 simp only at h hk
 subst h
 obtain⟨o1,e1,l1,v1⟩:=bE hq
 obtain⟨h4,h7⟩:=FE (s:=u) (by rw[hq]) (by rw[hq];exact hk)
 rw[hq] at h4 h7
 obtain⟨k,n,sub⟩:=T
 simp only at hk
 subst hk
 have h':Wf none (.cons [] 7 n sub .nil):=o1
 have hn:n.length≤100:=by
  cases h' with
  | word _ h3=>omega
  | rcd _ _ _ hk2=>omega
  | nam n hn=>have:=j5 hn;omega
  | app n a hn h=>have:=j5 hn;omega
 unfold bQ dI
 rw[h4,h7]
 simp only
 refine⟨by split<;>rfl,?_,hn,trivial,?_,?_⟩
 · split
   · rename_i hz
     have h5:=Fo.ri hz.2;have h6:(Tr.txt ⟨7,n,sub⟩).length≤100:=by rw[e1];exact l1
     rw[zw hz.2] at h6;simp only[List.length_append,List.length_cons] at h6;simp only;omega
   · exact Nat.zero_le _
 · intro hp
   split at hp
   · rename_i hz
     rw[if_pos hz];cases h' with
     | word _ h3=>omega
     | rcd _ _ _ hk2=>omega
     | nam n hn=>exact absurd rfl hz.2
     | app n a hn ha=>
      obtain⟨A,rfl⟩:=ha.one;have hA:A.ok:=ha;have hl:(Tr.txt ⟨7,n,.one A⟩).length≤100:=by rw[e1];exact l1
      rw[K8] at hl;simp only[List.length_append,List.length_cons] at hl;have hv:Tr.level ⟨7,n,.one A⟩≤6:=v1;rw[xT] at hv;have hc:=qp hA (by omega) (by omega);have hp:0<A.txt.length:=by
       have:=iF (Tr.ok.reads' (t:=A) ha)
       simpa using this
      refine⟨by rw[show(Fo.one A).first=A from rfl,hc],?_,?_⟩
      · rw[show(Fo.one A).first=A from rfl]
        intro e;have e:A.txt=[]:=e;rw[e] at hp;simp at hp
      · rw[show(Fo.one A).first=A from rfl,om hc,om hq,xT]
        omega
   · cases hp
 · intro hp
   split at hp
   · cases hp
   · rename_i hz
     rw[if_neg hz]
end Go.Proofs.YtakgjcfkdemipaaGreatDoor
namespace Go.Proofs.YtakgjcfkdemipaaGreatDoor
open Go.RowKit Go.Maps
def MQ (v:Value):Option (DataW Value×List MemPlace):=some (.held v,[])
def oP (l:List (List UInt8×Value)):DataW Value:=l.foldl (λd x=>d.put (.string x.1) (.held x.2)) (.map [])
theorem uX (l:List (List UInt8×Value)) (x:List UInt8×Value):oP (l++[x])=(oP l).put (.string x.1) (.held x.2):=by unfold oP;rw[List.foldl_append];rfl
theorem xY (l:List (List UInt8×Value)):IsMap (oP l):=by
 have:∀(l:List (List UInt8×Value)) (d:DataW Value),IsMap d→IsMap (l.foldl (λd x=>d.put (.string x.1) (.held x.2)) d):=by
  intro l
  induction l with
  | nil=>intro d h;exact h
  | cons x l ih=>intro d h;exact ih _ (h.put _ _)
 exact this l _ isMap_empty
def lz (k:List UInt8) (l:List (List UInt8×Value)):Option Value:=l.foldl (λa x=>if x.1=k then some x.2 else a) none
theorem C4 (k:List UInt8) (l:List (List UInt8×Value)) (x:List UInt8×Value):lz k (l++[x])=if x.1=k then some x.2 else lz k l:=by unfold lz;rw[List.foldl_append];rfl
theorem Jq (k:List UInt8) (z:DataW Value) (l:List (List UInt8×Value)):(oP l).atKey (.string k) z=(match lz k l with|none=>z|some v=>.held v)∧has (oP l) (.string k)=(lz k l).isSome:=by
 obtain⟨r,rfl⟩:∃r,l=r.reverse:=⟨l.reverse,by simp⟩
 induction r with
 | nil=>exact⟨rfl,rfl⟩
 | cons x r ih=>
  rw[List.reverse_cons,uX,C4]
  by_cases h:x.1=k
  · subst h
    rw[if_pos rfl];exact⟨atKey_put_same (xY _) (show WideAt.IsKeyLit (Lit.string x.1) from trivial) _ _,has_put_same (xY _) (show WideAt.IsKeyLit (Lit.string x.1) from trivial) _⟩
  · rw[if_neg h,atKey_put_other (λe=>h (by injection e with e;exact e.symm)),has_put_other (λe=>h (by injection e with e;exact e.symm))]
    exact ih
def kn (w:World) (m:Nat) (l:List (List UInt8×Value)):Prop:=w.ownsMap Tryz.prog 9 MQ m l.length (oP l)
theorem kn.made (w:World):kn (w.alloc (.map #[] 0)) w.heap.size []:=World.ownsMap_made w _ _ _
theorem kn.kept {w w':World} {b:Nat} {l:List (List UInt8×Value)} {row:Option Nat} (h:kn w b l) (hg:w.grownBy w' row) (hne:some b≠row):kn w' b l:=World.ownsMap.kept h hg hne
theorem kn.lt {w:World} {b:Nat} {l:List (List UInt8×Value)} (h:kn w b l):b<w.heap.size:=World.ownsMap.lt h
theorem kn.of_block {w w':World} {b:Nat} {l:List (List UInt8×Value)} (h:kn w b l) (hb:w'.heap[b]? =w.heap[b]?):kn w' b l:=by
 obtain⟨es,clock,h1,rest⟩:=h
 exact⟨es,clock,hb.trans h1,rest⟩
theorem kn.below {w w':World} {b K:Nat} {l:List (List UInt8×Value)} (h:kn w b l) (hb:Below K w w') (hK:w.heap.size≤K):kn w' b l:=h.of_block (hb.block b (Nat.lt_of_lt_of_le h.lt hK))
abbrev oI:Value:=.agg #[str [],.int .u8 0,.bool false,.slice none 0 0,.slice none 0 0]
theorem J4 (w:World):(zeroValue 58).run Tryz.prog w=.ok oI w:=by kernel_rfl
theorem kn.look {w:World} {b:Nat} {l:List (List UInt8×Value)} (h:kn w b l) {k:List UInt8} (hk:k.length≤maxLen):
 (Instr.lookup 82 (.map (some b)) (str k) true).run Tryz.prog w=.ok (.tuple #[(lz k l).getD oI,.bool (lz k l).isSome]) w:=by
 obtain⟨v,ps,hrun,hv⟩:=World.ownsMap.look_ok h (string_keyed Tryz.underlying9) Tryz.underlying82 (J4 w) (show MQ oI=some (.held oI,[]) from rfl) (WideMaps.keyOf_string_mk (s:=⟨k.toArray⟩) Tryz.underlying9 (by simpa[ByteArray.size] using hk))
 have hA:=Jq k (.held oI) l
 rw[hrun]
 unfold MQ at hv
 simp only[Option.some.injEq,Prod.mk.injEq] at hv
 have h1:=hv.1
 have h1:DataW.held v=(oP l).atKey (Lit.string k) (DataW.held oI):=h1
 rw[hA.1] at h1
 rw[show has (oP l) (Lit.string (⟨k.toArray⟩:ByteArray).data.toList)=has (oP l) (Lit.string k) from rfl,hA.2]
 cases hl:lz k l<;>(rw[hl] at h1;simp at h1;simp[h1])
theorem sP (w:World) {ops:Array Oper} {rest:List Oper} {o:Oper} {a:Act} {Q:Exit→Act→World→Prop}
 (hg:o.guard=none) (m x v:Operand) (hop:o.op=Op.mapUpdate 82 m x v) (b:Nat) (l:List (List UInt8×Value))
 (hm:a.eval m=.map (some b)) (hown:kn w b l) (hn:l.length<maxLen) (k:List UInt8) (f:Value) (hx:a.eval x=str k) (hv:a.eval v=f) (hk:k.length≤maxLen)
 (hK:∀w',kn w' b (l++[(k,f)])→w.grownBy w' (some b)→wpList Tryz.prog ops Q rest (a.put o.dst undef) w'):
 wpList Tryz.prog ops Q (o::rest) a w:=by
 refine wpList_mapUpdate_own w hg m x v _ hop _ _ (string_keyed Tryz.underlying9) Tryz.underlying82 _ b l.length _ hm hown hn _ _ _ hx hv (WideMaps.keyOf_string_mk (s:=⟨k.toArray⟩) Tryz.underlying9 (by simpa[ByteArray.size] using hk)) (.held f) [] rfl ?_
 intro w' h1 h2
 refine hK w' ?_ h2
 unfold kn
 rw[uX,List.length_append]
 exact h1
def fI (D:Nat→Prop) (w:World) (m:Nat) (fs:List aB):Prop:=
 ∃L:List (aB×Value),L.map (·.1)=fs∧kn w m (L.map λx=>(x.1.name,x.2))∧∀x∈L,fE D w x.2 x.1
theorem fI.below {D:Nat→Prop} {K:Nat} {w w':World} {m:Nat} {fs:List aB} (h:fI D w m fs) (hb:Below K w w') (hK:w.heap.size≤K):fI D w' m fs:=by
 obtain⟨L,h1,h2,h3⟩:=h
 exact⟨L,h1,h2.below hb hK,λx hx=>(h3 x hx).below hb hK⟩
theorem fI.mono {D D':Nat→Prop} {w:World} {m:Nat} {fs:List aB} (h:fI D w m fs) (hD:∀b,D b→D' b):fI D' w m fs:=by
 obtain⟨L,h1,h2,h3⟩:=h
 exact⟨L,h1,h2,λx hx=>(h3 x hx).mono hD⟩
theorem fI.set {D:Nat→Prop} {w:World} {m:Nat} {fs:List aB} (h:fI D w m fs) {a:Addr} (hm:m≠a.block) (ha:∀b,D b→b≠a.block) (u:Value):fI D (w.setCell a u) m fs:=by
 obtain⟨L,h1,h2,h3⟩:=h
 exact⟨L,h1,h2.of_block (heap_setCell_other w a m u hm),λx hx=>(h3 x hx).set ha u⟩
theorem lV (n:List UInt8):∀(L:List (aB×Value)) (a:Option Value),(L.map (·.1)).Pairwise (λf g=>f.name≠g.name)→(L.map λx=>(x.1.name,x.2)).foldl (λa x=>if x.1=n then some x.2 else a) a=match L.find? (λx=>decide (x.1.name=n)) with|some x=>some x.2|none=>a
 | [],a,_=>rfl
 | x :: L, a, h => by
  rw[List.map_cons,List.pairwise_cons] at h;rw[List.map_cons,List.foldl_cons,lV n L _ h.2]
  by_cases hx:x.1.name=n
  · have hn:L.find? (λy=>decide (y.1.name=n))=none:=by
     rw[List.find?_eq_none];intro y hy;have:=h.1 y.1 (List.mem_map_of_mem hy);rw[hx] at this
     simpa using λe=>this e.symm
    rw[hn,List.find?_cons_of_pos (by simpa using hx)];simp[hx]
  · rw[List.find?_cons_of_neg (by simpa using hx)]
    simp[hx]
theorem nV (n:List UInt8):∀(L:List (aB×Value)),ez (L.map (·.1)) n=(L.find? λx=>decide (x.1.name=n)).map (·.1)
 | []=>rfl
 | x::L=>by
  unfold ez at *;rw[List.map_cons]
  by_cases hx:x.1.name=n
  · rw[List.find?_cons_of_pos (by simpa using hx),List.find?_cons_of_pos (by simpa using hx)];rfl
  · rw[List.find?_cons_of_neg (by simpa using hx),List.find?_cons_of_neg (by simpa using hx)]
    exact nV n L
theorem fI.look {D:Nat→Prop} {w:World} {m:Nat} {fs:List aB} (h:fI D w m fs) (ha:oF fs) {n:List UInt8} (hn:n.length≤maxLen):
 ∃v,(Instr.lookup 82 (.map (some m)) (str n) true).run Tryz.prog w=.ok (.tuple #[v,.bool (ez fs n).isSome]) w∧(ez fs n=none→v=oI)∧∀f,ez fs n=some f→fE D w v f:=by
 obtain⟨L,rfl,h2,h3⟩:=h
 refine⟨(lz n (L.map λx=>(x.1.name,x.2))).getD oI,?_,?_,?_⟩
 · rw[h2.look hn]
   have hl:lz n (L.map λx=>(x.1.name,x.2))=(L.find? λx=>decide (x.1.name=n)).map (·.2):=by
    unfold lz;rw[lV n L none ha];cases L.find? (λx=>decide (x.1.name=n))<;>rfl
   rw[nV,hl];simp
 · intro hf
   rw[nV,Option.map_eq_none_iff] at hf;unfold lz;rw[lV n L none ha,hf]
   rfl
 · intro f hf
   rw[nV] at hf;unfold lz;rw[lV n L none ha];rcases hq:L.find? (λx=>decide (x.1.name=n)) with _|x
   · rw[hq] at hf;cases hf
   · rw[hq] at hf
     simp only[Option.map_some,Option.some.injEq] at hf;subst hf;simp only[hq];exact h3 x (List.mem_of_find?_eq_some hq)
end Go.Proofs.YtakgjcfkdemipaaGreatDoor
namespace Go.Proofs.YtakgjcfkdemipaaGreatDoor
open Go.RowKit
def gW (l:List aG):Prop:=(l.map (·.name)).Nodup
theorem xS:∀l:List (List UInt8),sy l=true↔l.Nodup
 | []=>by simp[sy]
 | a::l=>by rw[sy,List.nodup_cons,Bool.and_eq_true,xS l];simp
theorem wP:∀l:List (List UInt8),gy l=true→(∀s∈l,isName s=true)∧l.Pairwise λa b=>Op.bytesLess a b=true
 | [],_=>⟨(λ_ h=>by cases h),List.Pairwise.nil⟩
 | [a],h=>⟨(λs hs=>by rw[List.mem_singleton.1 hs];exact h),by simp⟩
 | a::b::l,h=>by
  rw[gy,Bool.and_eq_true,Bool.and_eq_true] at h;obtain⟨⟨h1,h2⟩,h3⟩:=h;obtain⟨k1,k2⟩:=wP (b::l) h3;refine⟨λs hs=>?_,List.pairwise_cons.2 ⟨λs hs=>?_,k2⟩⟩
  · rcases List.mem_cons.1 hs with rfl|hs
    · exact h1
    · exact k1 s hs
  · rcases List.mem_cons.1 hs with rfl|hs
    · exact h2
    · exact iy _ _ _ h2 ((List.pairwise_cons.1 k2).1 s hs)
theorem G0 {l:List aG} (h:gy (l.map (·.name))=true):gW l:=((wP _ h).2).imp λh=>yV h
theorem yZ {l:List aG} (h:bh l=true):gW l:=by
 unfold bh at h
 simp only[Bool.and_eq_true] at h
 exact G0 h.2
theorem ec {f:aB} (h:eU f=true):isName f.name=true∧1≤f.kind∧f.kind≤3∧bh f.ag=true∧(f.par=true∨f.ag=[])∧1≤f.ops.length∧f.ops.length≤20∧(∀o∈f.ops,isName o.name=true∧ek o.sig f.par=true)∧gW f.ops∧
 (f.kind=3∨∃o,f.ops=[o]∧o.name=f.name∧o.sig.iter=decide (f.kind=2)):=by
 unfold eU at h
 simp only[Bool.and_eq_true,decide_eq_true_eq,Bool.or_eq_true,List.all_eq_true,List.isEmpty_iff] at h
 obtain⟨⟨⟨⟨⟨⟨⟨⟨⟨h1,h2⟩,h3⟩,h4⟩,h5⟩,h6⟩,h7⟩,h8⟩,h9⟩,h10⟩:=h
 refine⟨h1,h2,h3,h4,h5,h6,h7,h8,(xS _).1 h9,?_⟩
 rcases h10 with h10|h10
 · exact .inl h10
 · right
   split at h10
   · rename_i o ho
     simp only[Bool.and_eq_true,decide_eq_true_eq] at h10;exact⟨o,ho,h10.1,h10.2⟩
   · cases h10
theorem eC {s:cD} {o:Bool} (h:ek s o=true):s.args.length≤6∧s.sigs.length≤6∧gy s.sigs=true∧(s.iter=true→s.res≠[])∧∀t∈aI s,(aq t).1=0∧(eW t=true→o=true):=by
 unfold ek at h
 simp only[Bool.and_eq_true,decide_eq_true_eq,List.all_eq_true,Bool.or_eq_true,Bool.not_eq_true',Bool.and_eq_false_iff,decide_eq_false_iff_not] at h
 obtain⟨⟨⟨⟨h1,h2⟩,h3⟩,h4⟩,h5⟩:=h
 refine⟨h1,h2,h3,λh=>?_,λt ht=>⟨(h5 t ht).1,λho=>?_⟩⟩
 · rcases h4 with h4|h4
   · rw[h] at h4;cases h4
   · exact h4
 · rcases(h5 t ht).2 with h6|h6
   · rw[ho] at h6;cases h6
   · exact h6
theorem Fo.Jf:∀(fo:Fo) (y:List UInt8×Tr),y∈fo.FP→∃i pn,fo.at i=some (pn,y.2)
 | .nil,y,h=>by simp[Fo.FP] at h
 | .cons pn k n sub rest, y, h => by
  rw[Fo.FP,List.mem_cons] at h;rcases h with rfl|h
  · exact⟨0,pn,rfl⟩
  · obtain⟨i,wD,hi⟩:=Fo.Jf rest y h
    exact⟨i+1,wD,hi⟩
theorem jy {t:List UInt8}:(∀x∈(cK t).1,isName x.1=true∧(aq x.2).1=0)∧((cK t).1.map (·.1)).Nodup∧(cK t).1.length≤6:=by
 unfold cK
 by_cases h0:(lX t [5,6]).1=0
 · rw [if_pos h0]
   rcases hq:lX t [5,6] with⟨c,T⟩;rw[hq] at h0;simp only at h0;subst h0;obtain⟨hc,hk⟩:=uJ hq;obtain⟨o1,e1,l1,v1⟩:=bE hc;have hk2:T.k=5∨T.k=6:=by simpa using hk
   have hw:=N2 o1 hk2;obtain⟨p1,p2⟩:=Wf.parts hw [] rfl;have hl:=zh o1 hk2;simp only;rw[Fo.zf];have hlen:(T.sub.FP.map λx=>(x.1,x.2.txt)).length≤6:=by
    rw[←Fo.zf];have:=Fo.qH T.sub;omega
   refine⟨λx hx=>?_,?_,hlen⟩
   · obtain⟨y,hy,rfl⟩:=List.mem_map.1 hx
     obtain⟨q1,q2,_,q4⟩:=p1 y hy;refine⟨q1,?_⟩;have hin:∃i pn,T.sub.at i=some (pn,y.2):=Fo.Jf T.sub y hy
     obtain⟨i,pn,hat⟩:=hin;have h1:=T.sub.at_len i pn y.2 hat;have h2:=yo T;have h3:=Fo.kU T.sub i pn y.2 hat;have h4:T.txt.length≤100:=by rw[e1];exact l1
     have h5:T.sub.level+1≤6+1:=by
      have:T.level=T.sub.level+1:=rfl;omega
     rw[qp q2 (by omega) (by have:y.2.level=y.2.sub.level+1:=rfl;have:T.level=T.sub.level+1:=rfl;omega)]
   · rw[List.map_map]
     exact List.pairwise_map.2 (p2.imp λh=>yV h)
 · rw[if_neg h0]
   exact⟨(λ_ h=>by cases h),List.nodup_nil,Nat.zero_le _⟩
end Go.Proofs.YtakgjcfkdemipaaGreatDoor
namespace Go.Proofs.YtakgjcfkdemipaaGreatDoor
open Go.RowKit
def zH (l:List aG):Prop:=l.Pairwise λx y=>Op.bytesLess x.name y.name=true
theorem lg (x:aG):∀l:List aG,(cZ x l).Perm (x::l)
 | []=>List.Perm.refl _
 | y::l=>by
  unfold cZ;split
  · exact((lg x l).cons y).trans (List.Perm.swap x y l)
  · exact List.Perm.refl _
theorem wW:∀(l acc:List aG),(l.foldl (λacc x=>cZ x acc) acc).Perm (acc++l)
 | [],acc=>by simp
 | x::l,acc=>by
  rw[List.foldl_cons];refine(wW l (cZ x acc)).trans ?_;refine((lg x acc).append_right l).trans ?_;rw[List.cons_append];exact(List.perm_middle (a:=x) (l₁:=acc) (l₂:=l)).symm
theorem jg (l:List aG):(cN l).Perm l:=by
 have:=wW l []
 simpa[cN] using this
theorem AF (x:aG):∀l:List aG,zH l→(∀y∈l,y.name≠x.name)→zH (cZ x l)
 | [],_,_=>by unfold cZ zH;simp
 | y :: l, h, hn => by
  obtain⟨h1,h2⟩:=List.pairwise_cons.1 h;unfold cZ;split
  · rename_i hl
    refine List.pairwise_cons.2 ⟨λz hz=>?_,AF x l h2 λz hz=>hn z (List.mem_cons_of_mem _ hz)⟩;rcases List.mem_cons.1 ((lg x l).mem_iff.1 hz) with rfl|hz
    · exact hl
    · exact h1 z hz
  · rename_i hl
    have hxy:Op.bytesLess x.name y.name=true:=by
     have:=jc _ _ (by simpa using hl:Op.bytesLess y.name x.name=false);rw[Bool.or_eq_true] at this;rcases this with e|e
     · exact e
     · exact absurd (by simpa using e:x.name=y.name) (λe=>hn y (List.mem_cons_self ..) e.symm)
    refine List.pairwise_cons.2 ⟨λz hz=>?_,h⟩;rcases List.mem_cons.1 hz with rfl|hz
    · exact hxy
    · exact iy _ _ _ hxy (h1 z hz)
theorem Ah:∀(l acc:List aG),zH acc→gW (acc++l)→zH (l.foldl (λacc x=>cZ x acc) acc)
 | [],acc,h,_=>h
 | x::l,acc,h,ho=>by
  rw[List.foldl_cons];have hp:(acc++x::l).Perm (cZ x acc++l):=by
   refine List.Perm.trans ?_ ((lg x acc).symm.append_right l);rw[List.cons_append];exact List.perm_middle
  refine Ah l _ (AF x acc h λy hy=>?_) ?_
  · unfold gW at ho
    rw[List.map_append,List.map_cons,List.nodup_append] at ho;exact ho.2.2 _ (List.mem_map_of_mem hy) _ (List.mem_cons_self ..)
  · unfold gW at *
    exact(hp.map (·.name)).nodup_iff.1 ho
theorem Gj {l:List aG} (h:gW l):zH (cN l):=Ah l [] List.Pairwise.nil (by simpa using h)
theorem zP {l m:List aG} (hl:zH l) (hm:zH m) (hp:m.Perm l):m=l:=by
 refine List.Perm.eq_of_pairwise (le:=λ(a b:aG)=>Op.bytesLess a.name b.name=true) (λa b ha hb h1 h2=>?_) hm hl hp
 rw[jZ _ _ h1] at h2
 cases h2
theorem gW.perm {l m:List aG} (h:gW l) (hp:m.Perm l):gW m:=(hp.map (λx:aG=>x.name)).nodup_iff.2 h
theorem JE {l m:List aG} (h:gW l) (hp:m.Perm l) (hs:m.Pairwise λx y=>Op.bytesLess y.name x.name=false):m=cN l:=by
 refine zP (Gj h) ?_ (hp.trans (jg l).symm)
 have hn:m.Pairwise λx y=>x.name≠y.name:=List.pairwise_map.1 (h.perm hp)
 refine(hs.and hn).imp λ{x y} ⟨h1,h2⟩=>?_
 have:=jc _ _ h1
 rw[Bool.or_eq_true] at this
 rcases this with e|e
 · exact e
 · exact absurd (by simpa using e:x.name=y.name) h2
theorem pQ {A B:List UInt8} (Sd:∀x y:List UInt8,A++x≠B++y):∀ns:List (List UInt8),ns.Nodup→(ns.flatMap λx=>[A++x,B++x]).Nodup∧∀y,y∈(ns.flatMap λx=>[A++x,B++x])→∃x∈ns,y=A++x∨y=B++x
 | [],_=>⟨by simp,by simp⟩
 | n :: ns, h => by
  obtain⟨h1,h2⟩:=List.nodup_cons.1 h;obtain⟨k1,k2⟩:=pQ Sd ns h2;have mem:∀y,y∈((n::ns).flatMap λx=>[A++x,B++x])→∃x∈n::ns,y=A++x∨y=B++x:=by
   intro y hy;rw[List.flatMap_cons,List.mem_append] at hy;rcases hy with hy|hy
   · simp only[List.mem_cons,List.not_mem_nil,or_false] at hy
     exact⟨n,List.mem_cons_self ..,hy⟩
   · obtain⟨x,hx,e⟩:=k2 y hy
     exact⟨x,List.mem_cons_of_mem _ hx,e⟩
  refine⟨?_,mem⟩;rw[List.flatMap_cons,List.nodup_append];refine⟨by simp[Sd],k1,λa ha b hb e=>?_⟩;obtain⟨x,hx,e2⟩:=k2 b hb;simp only[List.mem_cons,List.not_mem_nil,or_false] at ha;subst e;rcases ha with ha|ha<;>rcases e2 with e2|e2
  · rw[ha] at e2
    exact h1 (by rw[List.append_cancel_left e2];exact hx)
  · rw[ha] at e2;exact Sd _ _ e2
  · rw[ha] at e2;exact Sd _ _ e2.symm
  · rw[ha] at e2
    exact h1 (by rw[List.append_cancel_left e2];exact hx)
theorem ve (c:aR) (t:List UInt8) (hf:∀f∈c.bK,eU f=true) (hn:bh c.ag=true):gW (cG c t).1:=by
 obtain⟨p1,p2,p3⟩:=jy (t:=t)
 unfold cG gW
 simp only
 split
 · exact(show List.Nodup [[101,113,117,97,108],[108,101],[108,116],[97,100,100],[115,117,98],[109,117,108],[100,105,118],([109,111,100]:List UInt8)] by decide)
 · exact(show List.Nodup [[101,113,117,97,108],[97,110,100],[111,114],([110,111,116]:List UInt8)] by decide)
 · exact(show List.Nodup [([101,113,117,97,108]:List UInt8)] by decide)
 · exact(show List.Nodup [[101,113,117,97,108],[97,100,100,104],[102,101,116,99,104],[110,101,119],[114,101,109,104],[115,105,122,101],([115,116,111,114,101]:List UInt8)] by decide)
 · have e:∀ps:List (List UInt8×List UInt8),(ps.flatMap λp=>[(⟨[103,101,116,95]++p.1,sg p.2 [t] []⟩:aG),⟨[115,101,116,95]++p.1,sg [] [t,p.2] []⟩]).map (·.name)=(ps.map (·.1)).flatMap λx=>[[103,101,116,95]++x,[115,101,116,95]++x]:=by
    intro ps
    induction ps with
    | nil=>rfl
    | cons p ps ih=>rw[List.flatMap_cons,List.map_append,ih];rfl
   obtain⟨k1,k2⟩:=pQ (A:=[103,101,116,95]) (B:=[115,101,116,95]) (by intro x y e;simp at e) _ p2;rw[List.map_append,List.map_cons,e,List.map_cons,List.map_nil,List.nodup_append];refine⟨List.nodup_cons.2 ⟨λh=>?_,k1⟩,by simp,λa ha b hb e=>?_⟩
   · obtain⟨x,_,h|h⟩:=k2 _ h<;>simp at h
   · simp only[List.mem_cons,List.not_mem_nil,or_false] at hb
     subst hb;rcases List.mem_cons.1 ha with h|h
     · rw[h] at e;simp at e
     · obtain⟨x,_,h|h⟩:=k2 _ h<;>(rw[e] at h;simp at h)
 · have e:∀ps:List (List UInt8×List UInt8),(ps.flatMap λp=>[(⟨[105,115,95]++p.1,sg aX [t] []⟩:aG),⟨[109,97,107,101,95]++p.1,sg t [p.2] []⟩]).map (·.name)=(ps.map (·.1)).flatMap λx=>[[105,115,95]++x,[109,97,107,101,95]++x]:=by
    intro ps
    induction ps with
    | nil=>rfl
    | cons p ps ih=>rw[List.flatMap_cons,List.map_append,ih];rfl
   obtain⟨k1,k2⟩:=pQ (A:=[105,115,95]) (B:=[109,97,107,101,95]) (by intro x y e;simp at e) _ p2;rw[List.map_cons,e];refine List.nodup_cons.2 ⟨λh=>?_,k1⟩;obtain⟨x,_,h|h⟩:=k2 _ h<;>simp at h
 · rcases hq:ez c.bK (dI t).1 with _|f
   · exact List.nodup_nil
   · have hm:f∈c.bK:=List.mem_of_find?_eq_some hq
     exact(ec (hf f hm)).2.2.2.2.2.2.2.2.1
 · exact yZ hn
 · exact List.nodup_nil
def A5 (raw:List aG) (a:List UInt8) (t:List UInt8) (n:aG):Bool:=
 decide ((bZ n.sig t).2=0)&&raw.any λo=>decide ((bZ o.sig a).2=0)&&decide (o.name=n.name)&&ic (bZ o.sig a).1 (bZ n.sig t).1
theorem FF {l:List aG} (h:gW l) {o:aG} (ho:o∈l):l.find? (λx=>decide (x.name=o.name))=some o:=by
 induction l with
 | nil=>cases ho
 | cons y l ih=>
  unfold gW at h;rw[List.map_cons,List.nodup_cons] at h;rcases List.mem_cons.1 ho with rfl|ho
  · rw[List.find?_cons_of_pos (by simp)]
  · rw[List.find?_cons_of_neg,ih h.2 ho]
    simp only[decide_eq_true_eq];intro e;exact h.1 (by rw[e];exact List.mem_map_of_mem ho)
theorem I6 (c : aR) (t : List UInt8) (n : aG) {raw : List aG} (ho : gW (cG c t).1) (hp : raw.Perm (cG c t).1) : A5 raw (cG c t).2 t n = !xK c t n := by
 have Ul:∀p:aG→Bool,raw.any p=(cG c t).1.any p:=λp=>by
  rw[Bool.eq_iff_iff,List.any_eq_true,List.any_eq_true]
  constructor
  · rintro⟨x,hx,h⟩;exact⟨x,hp.mem_iff.1 hx,h⟩
  · rintro⟨x,hx,h⟩;exact⟨x,hp.mem_iff.2 hx,h⟩
 unfold A5 xK
 rw[Ul]
 unfold oE
 by_cases h1:(bZ n.sig t).2=0
 · rcases hq:(cG c t).1.find? (λo=>decide (o.name=n.name)) with _|o
   · have:(cG c t).1.any (λo=>decide ((bZ o.sig (cG c t).2).2=0)&&decide (o.name=n.name)&&ic (bZ o.sig (cG c t).2).1 (bZ n.sig t).1)=false:=by
      rw[List.any_eq_false];intro x hx;have:=List.find?_eq_none.1 hq x hx;simp only[decide_eq_true_eq] at this;simp[this]
     rw[this];simp only[hq];simp
   · have hm:=List.mem_of_find?_eq_some hq
     have hnm:o.name=n.name:=by simpa using List.find?_some hq
     have:(cG c t).1.any (λo=>decide ((bZ o.sig (cG c t).2).2=0)&&decide (o.name=n.name)&&ic (bZ o.sig (cG c t).2).1 (bZ n.sig t).1)=(decide ((bZ o.sig (cG c t).2).2=0)&&ic (bZ o.sig (cG c t).2).1 (bZ n.sig t).1):=by
      rw[Bool.eq_iff_iff,List.any_eq_true]
      constructor
      · rintro⟨x,hx,h⟩
        simp only[Bool.and_eq_true,decide_eq_true_eq] at h;have:=FF ho hx;rw[h.1.2,hq] at this;injection this with this;subst this;simp[h.1.1,h.2]
      · intro h
        exact⟨o,hm,by simp only[Bool.and_eq_true,decide_eq_true_eq] at h;simp[h.1,h.2,hnm]⟩
     rw[this];simp only[hq];simp[h1]
 · simp[h1]
end Go.Proofs.YtakgjcfkdemipaaGreatDoor
namespace Go.Proofs.YtakgjcfkdemipaaGreatDoor
def tB:List UInt8:=[98,111,111,108]
def tQ:List UInt8:=[63,116]
def tS:List UInt8:=[115,101,116,91,63,116,93]
def ig:aB:=⟨[115,101,116],3,true,[⟨[101,113,117,97,108],⟨false,[tQ,tQ],tB,[]⟩⟩],[⟨[110,101,119],⟨false,[],tS,[]⟩⟩,⟨[104,111,108,100,115],⟨false,[tS,tQ],tB,[]⟩⟩]⟩
def fe:aB:=⟨[115,111,114,116],1,true,[⟨[108,116],⟨false,[tQ,tQ],tB,[]⟩⟩],[⟨[115,111,114,116],⟨false,[[97,114,114,97,121,91,63,116,93]],[],[]⟩⟩]⟩
def ia:List aB:=[ig,fe]
theorem N6:ja ia=(0,0):=by decide+kernel
theorem Lf:ja [fe,ig]=(1,6):=by decide+kernel
theorem JB:lC ia [] [115,101,116,91,105,110,116,93] [104,111,108,100,115]=(⟨false,[[115,101,116,91,105,110,116,93],[105,110,116]],tB,[]⟩,0):=by
 have h:((lC ia [] [115,101,116,91,105,110,116,93] [104,111,108,100,115]).1.iter,(lC ia [] [115,101,116,91,105,110,116,93] [104,111,108,100,115]).1.args,(lC ia [] [115,101,116,91,105,110,116,93] [104,111,108,100,115]).1.res,(lC ia [] [115,101,116,91,105,110,116,93] [104,111,108,100,115]).1.sigs,(lC ia [] [115,101,116,91,105,110,116,93] [104,111,108,100,115]).2)=(false,[[115,101,116,91,105,110,116,93],[105,110,116]],tB,[],0):=by decide+kernel
 generalize lC ia [] [115,101,116,91,105,110,116,93] [104,111,108,100,115]=r at *
 obtain⟨⟨a1,a2,a3,a4⟩,a5⟩:=r
 simpa[and_assoc] using h
theorem N5:(lC ia [] [115,101,116,91,105,110,116,93] [97,100,100]).2=40:=by decide+kernel
theorem N8:(nG ia [] [97,114,114,97,121,91,105,110,116,93]).2=0∧(nG ia [] [97,114,114,97,121,91,105,110,116,93]).1.length=7∧(nG ia [] [97,114,114,97,121,91,105,110,116,93]).1[2]?.map (·.name)=some [102,101,116,99,104]:=by decide+kernel
theorem N9:(rO ia [] [115,111,114,116] [98,111,111,108]).2=41:=by decide+kernel
theorem Lg:mE ia [] fe.ag [98,111,111,108]=([108,116],false,0):=by decide+kernel
theorem Lj:yx ig=([[115,101,116]],0):=by
 have h1:eU ig=true:=by decide+kernel
 have h2:(mJ ig).flatMap aI=[tQ,tQ,tB,tS,tS,tQ,tB]:=by decide+kernel
 have s0:iY []=[]:=by unfold iY;simp[kf]
 have s1:∀a:List UInt8,iY [a]=[a]:=λa=>by unfold iY;simp[kf,hasB]
 have n1:dz tQ=([],0):=by
  unfold dz;rw[if_pos (by decide+kernel),show sL (aq tQ).2.ins=[] by decide+kernel,s0]
 have n2:dz tB=([],0):=by
  unfold dz;rw[if_pos (by decide+kernel),show sL (aq tB).2.ins=[] by decide+kernel,s0]
 have n3:dz tS=([[115,101,116]],0):=by
  unfold dz;rw[if_pos (by decide+kernel),show sL (aq tS).2.ins=[[115,101,116]] by decide+kernel,s1]
 unfold yx
 rw[if_pos h1,h2]
 simp only[List.flatMap_cons,List.flatMap_nil,n1,n2,n3,List.nil_append,List.append_nil,List.singleton_append]
 unfold iY
 rw[show kf [[115,101,116],[115,101,116]]=[[115,101,116]] by decide]
 simp
theorem Li:vR fe=([112,114,111,99,32,115,111,114,116,91,116,93,10,104,97,115,32,108,116,32,112,114,111,99,40,63,116,44,63,116,41,32,114,101,116,117,114,110,115,32,98,111,111,108,10,111,112,32,115,111,114,116,32,112,114,111,99,40,97,114,114,97,121,91,63,116,93,41,10],0):=by decide+kernel
theorem N7:oJ ia [] false [115,101,116,91,115,101,116,91,105,110,116,93,93]=41:=by decide+kernel
theorem Lh:oJ ia ig.ag true tS=0:=by decide+kernel
end Go.Proofs.YtakgjcfkdemipaaGreatDoor
namespace Go.Proofs.YtakgjcfkdemipaaGreatDoor
def stop (r:List UInt8):Prop:=∀c r',r=c::r'→c=93∨c=44
theorem BM:stop []:=by intro c r' h;simp at h
theorem oz (r:List UInt8):stop (93::r):=by intro c r' h;simp only[List.cons.injEq] at h;exact .inl h.1.symm
theorem vG (r:List UInt8):stop (44::r):=by intro c r' h;simp only[List.cons.injEq] at h;exact .inr h.1.symm
theorem stop.ends {r:List UInt8} (h:stop r):ends r:=by
 cases r with
 | nil=>exact Ac
 | cons c r=>
  rcases h c r rfl with rfl|rfl
  · exact kV r
  · exact oZ r
theorem stop.subst {a s:List UInt8} (h:stop s):stop (subst a s):=by
 cases s with
 | nil=>simpa[Proofs.YtakgjcfkdemipaaGreatDoor.subst] using BM
 | cons c s=>
  have hc:c≠63:=by rcases h c s rfl with rfl|rfl<;>decide
  rw[gl _ _ _ hc];rcases h c s rfl with rfl|rfl
  · exact oz _
  · exact vG _
theorem FY {t:Tr} (h:t.ok) {r:List UInt8} (hr:ends r):eB (t.txt++r)=t.txt.length:=by
 unfold eB
 rw[h.reads hr]
 simp
theorem Tr.ok.Lu {t:Tr} (h:t.ok):0<t.txt.length:=by
 have:=iF h.reads'
 simpa using this
end Go.Proofs.YtakgjcfkdemipaaGreatDoor
namespace Go.Proofs.YtakgjcfkdemipaaGreatDoor
open Go.RowKit
theorem Lx {t:List UInt8} (h0:(aq t).1=0) (hk:(aq t).2.k=1∨(aq t).2.k=2):t=if(aq t).2.k=1 then cU else aX:=by
 rcases hq:aq t with⟨c,T⟩
 rw[hq] at h0 hk
 simp only at h0 hk ⊢
 subst h0
 obtain⟨o1,e1,_⟩:=bE hq
 obtain⟨k,n,sub⟩:=T
 simp only at hk ⊢
 have h':Wf none (.cons [] k n sub .nil):=o1
 cases h' with
 | word _ _=>
  rw[←e1];rcases hk with rfl|rfl
  · rfl
  · rfl
 | rcd _ _ _ hk2=>omega
 | par=>omega
 | arr=>omega
 | nam=>omega
 | app=>omega
def rI:List UInt8:=[101,113,117,97,108]
def Em:List UInt8:=[111,118,101,114,102,108,111,119]
def Mz:List UInt8:=[122,101,114,111,100,105,118,105,100,101]
def yY:List UInt8:=[98,111,117,110,100,115]
def nI (c:aR) (t:List UInt8):List aG:=
 match (aq t).2.k with
 | 1=>[⟨[97,100,100],sg cU [t,t] [Em]⟩,⟨[115,117,98],sg cU [t,t] [Em]⟩,⟨[109,117,108],sg cU [t,t] [Em]⟩,⟨[100,105,118],sg cU [t,t] [Mz]⟩,⟨[109,111,100],sg cU [t,t] [Mz]⟩,⟨[108,116],sg aX [t,t] []⟩,⟨[108,101],sg aX [t,t] []⟩,⟨rI,sg aX [t,t] []⟩]
 | 2=>[⟨[97,110,100],sg aX [t,t] []⟩,⟨[111,114],sg aX [t,t] []⟩,⟨rI,sg aX [t,t] []⟩,⟨[110,111,116],sg aX [t] []⟩]
 | 3=>[⟨rI,sg aX [t,t] []⟩]
 | 4=>[⟨[110,101,119],sg t [] []⟩,⟨[115,105,122,101],sg cU [t] []⟩,⟨[97,100,100,104],sg [] [t,(bQ t).1] [Em]⟩,⟨[114,101,109,104],sg (bQ t).1 [t] [yY]⟩,⟨[102,101,116,99,104],sg (bQ t).1 [t,cU] [yY]⟩,⟨[115,116,111,114,101],sg [] [t,cU,(bQ t).1] [yY]⟩,⟨rI,sg aX [t,t] []⟩]
 | 5=>((cK t).1.flatMap λp=>[⟨[103,101,116,95]++p.1,sg p.2 [t] []⟩,⟨[115,101,116,95]++p.1,sg [] [t,p.2] []⟩])++[⟨[109,97,107,101],sg t ((cK t).1.map (·.2)) []⟩,⟨rI,sg aX [t,t] []⟩]
 | 6=>((cK t).1.flatMap λp=>[⟨[109,97,107,101,95]++p.1,sg t [p.2] []⟩,⟨[105,115,95]++p.1,sg aX [t] []⟩])++[⟨rI,sg aX [t,t] []⟩]
 | 7=>((ez c.bK (dI t).1).map (·.ops)).getD []
 | 8=>c.ag
 | _=>[]
theorem Lc {α:Type} (z:α) (L:List α) (ix:List Nat) (h:ix.Perm (List.range L.length)):(ix.map λi=>L.getD i z).Perm L:=by
 have e:(List.range L.length).map (λi=>L.getD i z)=L:=by
  apply List.ext_getElem
  · simp
  · intro i h1 h2
    simp[List.getD_eq_getElem?_getD,h2]
 have:=h.map λi=>L.getD i z
 rwa [e] at this
theorem ze {α:Type} (z:α) {L L':List α} (ix:List Nat) (h:ix.Perm (List.range L.length)) (he:L'=ix.map λi=>L.getD i z):L'.Perm L:=he▸Lc z L ix h
theorem wV {α β:Type} (f g:α→β):∀l:List α,(l.flatMap λp=>[f p,g p]).Perm (l.flatMap λp=>[g p,f p])
 | []=>.refl _
 | p::l=>by
  rw[List.flatMap_cons,List.flatMap_cons];exact List.Perm.append (.swap _ _ _) (wV f g l)
theorem x8 (c:aR) {t:List UInt8} (h0:(aq t).1=0):(nI c t).Perm (cG c t).1:=by
 have hw:=Lx h0
 have hk:=gm h0
 unfold nI cG
 simp only
 generalize (aq t).2.k=k at *
 have hz:aG:=⟨[],.zero⟩
 match k,hk with
 | 1,_=>
  have ht:t=cU:=hw (.inl rfl);subst ht;exact ze hz [3,4,5,6,7,2,1,0] (by simp only[List.length_append,List.length_map,List.length_cons,List.length_nil];decide) rfl
 | 2,_=>
  have ht:t=aX:=hw (.inr rfl);subst ht;exact ze hz [1,2,0,3] (by simp only[List.length_cons,List.length_nil];decide) rfl
 | 3,_=>exact .refl _
 | 4,_=>
  exact ze hz [3,5,1,4,2,6,0] (by simp only[List.length_cons,List.length_nil];decide) rfl
 | 5,_=>
  simp only;rw[show ∀(l:List aG) (a b:aG),l++[a,b]=(l++[a])++[b] from λl a b=>by simp];exact List.perm_append_singleton _ _
 | 6,_=>exact(List.perm_append_singleton _ _).trans ((wV _ _ _).cons _)
 | 7,_=>exact .refl _
 | 8,_=>exact .refl _
theorem iB (l:List aG) (x:aG):cN (l++[x])=cZ x (cN l):=by unfold cN;rw[List.foldl_append];rfl
theorem AG (x:aG) (l:List aG):(cZ x l).length=l.length+1:=by rw[(lg x l).length_eq];rfl
theorem rP (l:List aG):(cN l).length=l.length:=(jg l).length_eq
def mG (x:aG):List aG→Nat
 | []=>0
 | y::l=>if Op.bytesLess y.name x.name=true then mG x l+1 else 0
theorem AW (x:aG):∀l:List aG,mG x l≤l.length
 | []=>nl _
 | y::l=>by
  unfold mG;split
  · have:=AW x l;rw[List.length_cons];omega
  · exact Nat.zero_le _
theorem Ef (x:aG):∀l:List aG,cZ x l=l.take (mG x l)++x::l.drop (mG x l)
 | []=>rfl
 | y::l=>by
  unfold cZ mG;split
  · rw[Ef x l];rfl
  · rfl
theorem uz {x y:aG}:∀{l:List aG} {i:Nat},l[i]? =some y→i≤mG x l→(Op.bytesLess y.name x.name=true→i+1≤mG x l)∧(Op.bytesLess y.name x.name=false→mG x l=i)
 | [],i,h,_=>by simp at h
 | z::l,0,h,_=>by
  simp only[List.getElem?_cons_zero,Option.some.injEq] at h;subst h;unfold mG;exact⟨λh=>by rw[if_pos h];omega,λh=>by rw[if_neg (by simp[h])]⟩
 | z::l,i+1,h,hi=>by
  rw[List.getElem?_cons_succ] at h;unfold mG at hi ⊢;split at hi
  · rename_i hz
    rw[if_pos hz];obtain⟨h1,h2⟩:=uz (x:=x) h (by omega);exact⟨λh=>by have:=h1 h;omega,λh=>by rw[h2 h]⟩
  · omega
end Go.Proofs.YtakgjcfkdemipaaGreatDoor
namespace Go.Proofs.YtakgjcfkdemipaaGreatDoor
open Go.RowKit
set_option maxRecDepth 4000 in
theorem zk (s:List UInt8) (hm:s.length≤maxLen) (w:World):Calls Tryz.prog 86 #[str s] w λe w'=>e=.returned (.tuple #[str (if(aq s).1=0 then s else []),.int .i64 (if(aq s).1=0 then 0 else 2:Nat)])∧Below w.heap.size w w':=by
 have hC:=eN s hm w
 by_cases hc:(aq s).1=0
 · rw[if_pos hc,if_pos hc]
   rw[hc] at hC;clear hc;go_enter Tryz.func86,Tryz.ntmps86;go_wp2_with (go_at_call 84;refine hC.mono ?_;clear hC;rintro e w1 ⟨rfl,ay⟩);go_ret2;exact⟨rfl,ay⟩
 · rw[if_neg hc,if_neg hc]
   generalize (aq s).1=C at hC hc;obtain⟨g1,g2⟩:=bC hc;clear hc;go_enter Tryz.func86,Tryz.ntmps86;go_wp2_with (go_at_call 84;refine hC.mono ?_;clear hC;rintro e w1 ⟨rfl,ay⟩);go_ret2;exact⟨rfl,ay⟩
theorem oQ {t:Tr} (h:t.ok):(if(aq t.txt).1=0 then t.txt else [])=(ij t).1∧(if(aq t.txt).1=0 then 0 else 2:Nat)=(ij t).2:=by
 unfold ij
 rw[nR h]
 split<;>simp
theorem wI {t:Tr} (h:t.ok) (hm:t.txt.length≤maxLen) (w:World):Calls Tryz.prog 86 #[str t.txt] w λe w'=>e=.returned (.tuple #[str (ij t).1,.int .i64 (ij t).2])∧Below w.heap.size w w':=by
 have hC:=zk t.txt hm w
 rw[(oQ h).1,(oQ h).2] at hC
 exact hC
theorem JP {a s:List UInt8} {k:Nat} (hk:k<s.length) (hc:s[k]≠63):subst a (s.drop k)=s[k]::subst a (s.drop (k+1)):=by
 rw[List.drop_eq_getElem_cons hk,gl _ _ _ hc]
theorem Gk {a s:List UInt8} {k:Nat} (hk:k<s.length) (hc:s[k]=63):subst a (s.drop k)=a++subst a (s.drop (k+2)):=by
 rw[List.drop_eq_getElem_cons hk,hc]
 by_cases h:k+1<s.length
 · rw[List.drop_eq_getElem_cons h,yj]
 · rw[List.drop_of_length_le (by omega),List.drop_of_length_le (by omega)]
   simp[subst]
theorem oH {s:List UInt8} {k:Nat} (hk:k<s.length):List.drop k (List.take (k+1) s)=[s[k]]:=by
 rw[List.drop_take,show k+1 - k=1 from by omega,List.drop_eq_getElem_cons hk]
 rfl
set_option maxRecDepth 4000 in
theorem DE (s u:List UInt8) (t a:Tr) (hs:aq s=(0,t)) (hu:aq u=(0,a)) (w:World):
 Calls Tryz.prog 35 #[str s,str u] w λe w'=>e=.returned (.tuple #[str (ij (t.put a)).1,.int .i64 (ij (t.put a)).2])∧Below w.heap.size w w':=by
 obtain⟨h1,h2,h3,_⟩:=bE hs
 obtain⟨k1,k2,k3,_⟩:=bE hu
 have hC:=λW=>eN s (by unfold maxLen;omega) W
 have hD:=λW=>eN u (by unfold maxLen;omega) W
 rw[hs] at hC
 rw[hu] at hD
 have hX:subst u s=(t.put a).txt:=by rw[←h2,←k2,h1.subst]
 have hL:=λW hm=>wI (k1.put h1) hm W
 generalize (ij (t.put a)).1=R at hL ⊢
 generalize (ij (t.put a)).2=E at hL ⊢
 generalize (t.put a).txt=X at hX hL
 have HX:=Lib.hid hX
 have HL:=Lib.hid hL
 clear hX hL hs hu h1 h2 k1 k2
 go_enter Tryz.func35,Tryz.ntmps35
 go_wp2_with (first
  | (go_at_call 84;refine(hC _).mono ?_;clear hC;rintro e w1 ⟨rfl,ay⟩)
  | (go_at_call 84;refine(hD _).mono ?_;clear hD;rintro e w2 ⟨rfl,aA⟩))
 have hb:=ay.trans (af aA ay.size)
 clear ay aA
 go_loop [7,8] (λx i=>∃(k:Nat) (o:List UInt8),k≤s.length+1∧o.length≤100 * k∧Hid (subst u s=o++subst u (s.drop k))∧x=str o∧i=.int .i64 k) (λ_ i=>s.length+1 - (intOf i).toNat)
 case atStart=>exact⟨0,[],by omega,by simp,rfl,rfl,rfl⟩
 case round =>
  obtain⟨k,o,hk,ho,HO,rfl,rfl⟩:=hrel
  by_cases hlt:k<s.length
  · have b1:¬9223372036854775807<o.length+u.length:=by omega
    by_cases hc:s[k]=63
    · have HS:=Lib.hid (show subst u s=(o++u)++subst u (s.drop (k+2)) by rw[HO.out,Gk hlt hc];simp)
      have g:(((s[k]).toNat:Int)==63)=true:=by rw[hc];rfl
      clear hc;go_wp2_with fail
      go_round
      case rel=>exact⟨k+2,o++u,by omega,by simp only[List.length_append];omega,HS.out,rfl,by go_num⟩
      case measure=>simp[intOf];omega
    · have HS:=Lib.hid (show subst u s=(o++List.drop k (List.take (k+1) s))++subst u (s.drop (k+1)) by rw[HO.out,JP hlt hc,oH hlt];simp)
      have g:(((s[k]).toNat:Int)==63)=false:=by rw[beq_eq_false_iff_ne];exact oS (d:=63) hc
      have b2:¬9223372036854775807<o.length+1:=by omega
      have hl1:(List.drop k (List.take (k+1) s)).length=1:=by rw[oH hlt];rfl
      have Xw:=Lib.hid hl1;clear hc hl1;go_wp2_with fail
      go_round
      case rel=>exact⟨k+1,o++List.drop k (List.take (k+1) s),by omega,by rw[List.length_append,Xw.out];omega,HS.out,rfl,by go_num⟩
      case measure=>simp[intOf];omega
  · have HS:Hid (X=o):=by
     show X=o
     rw[←HX.out,HO.out,List.drop_of_length_le (by omega)];simp[subst]
    have hm:o.length≤maxLen:=by unfold maxLen;omega
    obtain rfl:X=o:=HS.out;go_wp2_with (go_at_call 86;refine(HL.out _ hm).mono ?_;rintro e w3 ⟨rfl,aK⟩);go_ret2;exact⟨rfl,hb.trans (af aK hb.size)⟩
set_option maxRecDepth 4000 in
theorem Ge (s u:List UInt8) (ms:s.length≤maxLen) (mu:u.length≤maxLen) (c:Nat) (hc:(jC s u).2.2=c) (h0:c≠0) (w:World):
 Calls Tryz.prog 35 #[str s,str u] w λe w'=>e=.returned (.tuple #[str [],.int .i64 c])∧Below w.heap.size w w':=by
 have hC:=λW=>eN s ms W
 have hD:=λW=>eN u mu W
 unfold jC at hc
 obtain⟨g1,g2⟩:=bC h0
 by_cases h1:(aq s).1=0
 · rw[if_pos h1] at hc
   rw[h1] at hC;simp only at hc;rw[hc] at hD;clear hc h1 h0;go_enter Tryz.func35,Tryz.ntmps35;go_wp2_with (first
    | (go_at_call 84;refine(hC _).mono ?_;clear hC;rintro e w1 ⟨rfl,ay⟩)
    | (go_at_call 84;refine(hD _).mono ?_;clear hD;rintro e w2 ⟨rfl,aA⟩))
   go_ret2;exact⟨rfl,ay.trans (af aA ay.size)⟩
 · rw[if_neg h1] at hc
   simp only at hc;rw[hc] at hC;clear hc h1 h0;go_enter Tryz.func35,Tryz.ntmps35;go_wp2_with (go_at_call 84;refine(hC _).mono ?_;clear hC;rintro e w1 ⟨rfl,ay⟩);go_ret2;exact⟨rfl,ay⟩
theorem Gd (s u:List UInt8) (ms:s.length≤maxLen) (mu:u.length≤maxLen) (w:World):
 Calls Tryz.prog 35 #[str s,str u] w λe w'=>e=.returned (.tuple #[str (aQ s u).1,.int .i64 (aQ s u).2])∧Below w.heap.size w w':=by
 by_cases hc:(jC s u).2.2=0
 · rcases hq:jC s u with⟨t,a,c⟩
   rw[hq] at hc;simp only at hc;subst hc;obtain⟨h3,h4⟩:=zu hq;rw[BS h3 h4];exact DE s u t a h3 h4 w
 · rw[show aQ s u=([],(jC s u).2.2) by unfold aQ;rw[if_neg hc]]
   exact Ge s u ms mu _ rfl hc w
end Go.Proofs.YtakgjcfkdemipaaGreatDoor
