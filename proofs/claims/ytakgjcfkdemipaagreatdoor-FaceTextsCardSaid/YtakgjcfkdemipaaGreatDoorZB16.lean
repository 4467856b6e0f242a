/-
  Lemmas for the statement: arguments that are faces, needs, operations: what their reading says of memory. No condition.
-/
import Derived.Deep.SlicePairs
import Derived.Test.YtakgjcfkdemipaaGreatDoorZB0
namespace Go.Proofs.YtakgjcfkdemipaaGreatDoor
open Go.ChangeShapes Go.WideShapes Go.RowKit Go.Deep
abbrev Any:Nat→Prop:=λ_=>True
section
variable {H:Type} {enc:TypeId×Value→H} {W:World}
theorem gj:Tryz.prog.cellsOf 9=1:=by kernel_rfl
theorem qy:Tryz.prog.cellsOf 4=1:=by kernel_rfl
theorem Dr:Tryz.prog.cellsOf 5=1:=by kernel_rfl
theorem zo:Tryz.prog.cellsOf 34=1:=by kernel_rfl
theorem sX:Tryz.prog.cellsOf 36=4:=by kernel_rfl
theorem Dq:Tryz.prog.cellsOf 50=5:=by kernel_rfl
theorem zn:Tryz.prog.cellsOf 79=5:=by kernel_rfl
theorem zm:Tryz.prog.cellsOf 58=5:=by kernel_rfl
theorem BH:Tryz.prog.cellsOf 31=1:=by kernel_rfl
theorem wA:Tryz.prog.cellsOf 23=1:=by kernel_rfl
theorem Bv {fuel:Nat} {v:Value} {x:DataW H×List MemPlace} (h:DataW.trod enc Tryz.prog W 0 (λ_=>true) true fuel 34 [v]=some x):∃ss,SS Any W v ss:=by
 rcases open_slice Tryz.underlying34 h with⟨e,_⟩|⟨a,len,cap,m,n,D,Pl,e,hb,hl,hm,hmm,_,hx⟩
 · simp only[List.cons.injEq,and_true] at e
   subst e;exact⟨[],SS.nil _ _ _ _⟩
 · simp only[List.cons.injEq,and_true] at e
   subst e
   by_cases h0:len=0
   · subst h0
     exact⟨[],SS.nil _ _ _ _⟩
   · have Sf:m=cap:=by rw[hmm];simp
     have each:∀i,i<len→∃s:List UInt8,W.cell? (a.add i)=some (str s)∧s.length≤maxLen:=by
      intro i hi;obtain⟨cs',h1,h2⟩:=hx i (by omega);rw[gj,Nat.mul_one] at h1;obtain⟨_,hlen,hcell⟩:=World.cells?_some h1;obtain⟨s,rfl,_,hs⟩:=DataW.trod_string Tryz.underlying9 h2;refine⟨s.data.toList,?_,by rw[Array.length_toList];exact hs⟩;have:=hcell 0 (by omega);rw[add_add] at this
      simpa using this
     obtain⟨f,hf⟩:=choose_lt each;obtain⟨blk,off,spot⟩:=a;have hsp:spot=none:=by
      have:=(hf 0 (by omega)).1
      simpa[Addr.add] using World.cell?_spot this
     subst hsp;have hcell:∀i,i<len→W.cell? ⟨blk,off+i,none⟩=some (str (f i)):=λi hi=>by
      have:=(hf i hi).1
      rwa [Go.WideShapes.add_plain] at this
     refine⟨(List.range len).map f,some ⟨blk,off,none⟩,cap,by simp,by simpa using hl,by simp;omega,?_,.inr ⟨blk,off,rfl,trivial,?_,λj hj=>?_⟩⟩
     · intro s hs
       obtain⟨i,hi,rfl⟩:=List.mem_map.1 hs;exact(hf i (List.mem_range.1 hi)).2
     · have:=World.block_lt_of_cell? _ _ (hcell 0 (by omega))
       simpa using this
     · have hj':j<len:=by simpa using hj
       rw[hcell j hj'];simp
set_option maxRecDepth 8000 in
theorem yG {fuel:Nat} {c1 c2 c3 c4:Value} {x:DataW H×List MemPlace} (h:DataW.trod enc Tryz.prog W 0 (λ_=>true) true fuel 36 [c1,c2,c3,c4]=some x):
 ∃s:bP,c1=.bool s.iter∧c3=str s.res∧s.res.length≤maxLen∧SS Any W c2 s.args∧SS Any W c4 s.sigs:=by
 obtain⟨xs,k,_,_,_,hxl,hf⟩:=DataW.trod_struct Tryz.underlying36 h
 match xs,hxl with
 | [y0,y1,y2,y3],_=>
  have g0:=hf 0 _ rfl;have g1:=hf 1 _ rfl;have g2:=hf 2 _ rfl;have g3:=hf 3 _ rfl;simp[qy,zo,gj] at g0 g1 g2 g3;obtain⟨b,e0,_⟩:=DataW.trod_bool Tryz.underlying4 g0;obtain⟨ar,h1⟩:=Bv g1;obtain⟨r,e2,_,hr⟩:=DataW.trod_string Tryz.underlying9 g2;obtain⟨ss,h3⟩:=Bv g3;simp only[List.cons.injEq,and_true] at e0 e2;exact⟨⟨b,ar,r.data.toList,ss⟩,e0,e2,by rw[Array.length_toList];exact hr,h1,h3⟩
set_option maxRecDepth 8000 in
theorem Gk {fuel:Nat} {c0 c1 c2 c3 c4:Value} {x:DataW H×List MemPlace} (h:DataW.trod enc Tryz.prog W 0 (λ_=>true) true fuel 50 [c0,c1,c2,c3,c4]=some x):
 ∃o:aL,c0=str o.name∧c1=.bool o.sig.iter∧c3=str o.sig.res∧qm o∧SS Any W c2 o.sig.args∧SS Any W c4 o.sig.sigs:=by
 obtain⟨xs,k,_,_,_,hxl,hf⟩:=DataW.trod_struct Tryz.underlying50 h
 match xs,hxl with
 | [y0,y1],_=>
  have g0:=hf 0 _ rfl;have g1:=hf 1 _ rfl;simp[gj,sX] at g0 g1;obtain⟨n,e0,_,hn⟩:=DataW.trod_string Tryz.underlying9 g0;obtain⟨s,s1,s2,s3,s4,s5⟩:=yG g1;simp only[List.cons.injEq,and_true] at e0;exact⟨⟨n.data.toList,s⟩,e0,s1,s2,⟨by rw[Array.length_toList];exact hn,s3⟩,s4,s5⟩
set_option maxRecDepth 8000 in
theorem Cq {fuel:Nat} {c0 c1 c2 c3 c4:Value} {x:DataW H×List MemPlace} (h:DataW.trod enc Tryz.prog W 0 (λ_=>true) true fuel 79 [c0,c1,c2,c3,c4]=some x):
 ∃o:aL,c0=str o.name∧c1=.bool o.sig.iter∧c3=str o.sig.res∧qm o∧SS Any W c2 o.sig.args∧SS Any W c4 o.sig.sigs:=by
 obtain⟨xs,k,_,_,_,hxl,hf⟩:=DataW.trod_struct Tryz.underlying79 h
 match xs,hxl with
 | [y0,y1],_=>
  have g0:=hf 0 _ rfl;have g1:=hf 1 _ rfl;simp[gj,sX] at g0 g1;obtain⟨n,e0,_,hn⟩:=DataW.trod_string Tryz.underlying9 g0;obtain⟨s,s1,s2,s3,s4,s5⟩:=yG g1;simp only[List.cons.injEq,and_true] at e0;exact⟨⟨n.data.toList,s⟩,e0,s1,s2,⟨by rw[Array.length_toList];exact hn,s3⟩,s4,s5⟩
instance:Inhabited aL:=⟨⟨[],.zero⟩⟩
instance:Inhabited aA:=⟨⟨[],0,false,[],[]⟩⟩
theorem oG {α:Type} [Inhabited α] {t e:TypeId} {fuel:Nat} {v:Value} {x:DataW H×List MemPlace} (ht:Tryz.prog.underlying t=some (.slice e)) (Iw:Tryz.prog.cellsOf e=5) (R:Value→Value→Value→Value→Value→α→Prop)
 (hE:∀n c0 c1 c2 c3 c4 y,DataW.trod enc Tryz.prog W 0 (λ_=>true) true n e [c0,c1,c2,c3,c4]=some y→∃o,R c0 c1 c2 c3 c4 o)
 (h:DataW.trod enc Tryz.prog W 0 (λ_=>true) true fuel t [v]=some x):
 ∃(l:List α) (p:Option Addr) (c:Nat),v=.slice p l.length c∧l.length≤c∧l.length≤maxLen∧(l=[]∨∃b o,p=some ⟨b,o,none⟩∧b<W.heap.size∧∀j (h:j<l.length),∃c0 c1 c2 c3 c4,R c0 c1 c2 c3 c4 l[j]∧
  W.cell? ⟨b,o+j * 5,none⟩=some c0∧W.cell? ⟨b,o+j * 5+1,none⟩=some c1∧W.cell? ⟨b,o+j * 5+2,none⟩=some c2∧W.cell? ⟨b,o+j * 5+3,none⟩=some c3∧W.cell? ⟨b,o+j * 5+4,none⟩=some c4):=by
 rcases open_slice ht h with⟨e,_⟩|⟨a,len,cap,m,n,D,Pl,e,hb,hl,hm,hmm,_,hx⟩
 · simp only[List.cons.injEq,and_true] at e
   subst e;exact⟨[],none,0,rfl,Nat.zero_le _,Nat.zero_le _,.inl rfl⟩
 · simp only[List.cons.injEq,and_true] at e
   subst e
   by_cases h0:len=0
   · subst h0
     exact⟨[],_,cap,rfl,Nat.zero_le _,Nat.zero_le _,.inl rfl⟩
   · have Sf:m=cap:=by rw[hmm];simp
     have each:∀i,i<len→∃o:α,∃c0 c1 c2 c3 c4,R c0 c1 c2 c3 c4 o∧W.cell? (a.add (i * 5))=some c0∧W.cell? (a.add (i * 5+1))=some c1∧W.cell? (a.add (i * 5+2))=some c2∧W.cell? (a.add (i * 5+3))=some c3∧W.cell? (a.add (i * 5+4))=some c4:=by
      intro i hi;obtain⟨cs',h1,h2⟩:=hx i (by omega);rw[Iw] at h1;obtain⟨_,hlen,hcell⟩:=World.cells?_some h1
      match cs',hlen with
      | [c0,c1,c2,c3,c4],_=>
       obtain⟨o,ho⟩:=hE _ _ _ _ _ _ _ h2;have e0:=hcell 0 (by omega);have e1:=hcell 1 (by omega);have e2:=hcell 2 (by omega);have e3:=hcell 3 (by omega);have e4:=hcell 4 (by omega);rw[add_add] at e0 e1 e2 e3 e4;exact⟨o,c0,c1,c2,c3,c4,ho,by simpa using e0,by simpa using e1,by simpa using e2,by simpa using e3,by simpa using e4⟩
     obtain⟨f,hf⟩:=choose_lt each;obtain⟨blk,off,spot⟩:=a;have hsp:spot=none:=by
      obtain⟨_,_,_,_,_,_,h1,_⟩:=hf 0 (by omega)
      simpa[Addr.add] using World.cell?_spot h1
     subst hsp;refine⟨(List.range len).map f,some ⟨blk,off,none⟩,cap,by simp,by simpa using hl,by simp;omega,.inr ⟨blk,off,rfl,?_,λj hj=>?_⟩⟩
     · obtain⟨_,_,_,_,_,_,h1,_⟩:=hf 0 (by omega)
       have:=World.block_lt_of_cell? _ _ h1
       simpa[Addr.add] using this
     · have hj':j<len:=by simpa using hj
       obtain⟨c0,c1,c2,c3,c4,k0,k1,k2,k3,k4,k5⟩:=hf j hj';rw[Go.WideShapes.add_plain] at k1 k2 k3 k4 k5;refine⟨c0,c1,c2,c3,c4,by simpa using k0,k1,?_,?_,?_,?_⟩
       · rwa [Nat.add_assoc]
       · rwa [Nat.add_assoc]
       · rwa [Nat.add_assoc]
       · rwa [Nat.add_assoc]
theorem ya {v:Value} {l:List aL} {p:Option Addr} {c:Nat} (e:v=.slice p l.length c) (h1:l.length≤c) (h2:l.length≤maxLen) (h3:l=[]∨∃b o,p=some ⟨b,o,none⟩∧b<W.heap.size∧∀j (h:j<l.length),∃c0 c1 c2 c3 c4,
 (c0=str l[j].name∧c1=.bool l[j].sig.iter∧c3=str l[j].sig.res∧qm l[j]∧SS Any W c2 l[j].sig.args∧SS Any W c4 l[j].sig.sigs)∧
 W.cell? ⟨b,o+j * 5,none⟩=some c0∧W.cell? ⟨b,o+j * 5+1,none⟩=some c1∧W.cell? ⟨b,o+j * 5+2,none⟩=some c2∧W.cell? ⟨b,o+j * 5+3,none⟩=some c3∧W.cell? ⟨b,o+j * 5+4,none⟩=some c4):aY Any W v l:=by
 refine⟨p,c,e,h1,h2,?_,?_⟩
 · intro x hx
   rcases h3 with rfl|⟨b,o,_,_,hc⟩
   · cases hx
   · obtain⟨j,hj,rfl⟩:=List.getElem_of_mem hx
     obtain⟨_,_,_,_,_,⟨_,_,_,k,_,_⟩,_⟩:=hc j hj;exact k
 · rcases h3 with h3|⟨b,o,e1,h4,hc⟩
   · exact .inl h3
   · refine .inr ⟨b,o,e1,trivial,h4,λj hj=>?_⟩
     obtain⟨c0,c1,c2,c3,c4,⟨rfl,rfl,rfl,_,k2,k3⟩,d0,d1,d2,d3,d4⟩:=hc j hj;exact⟨c2,c4,k2,k3,d0,d1,d2,d3,d4⟩
theorem Et {fuel:Nat} {v:Value} {x:DataW H×List MemPlace} (h:DataW.trod enc Tryz.prog W 0 (λ_=>true) true fuel 31 [v]=some x):∃l,aY Any W v l:=by
 obtain⟨l,p,c,e,h1,h2,h3⟩:=oG Tryz.underlying31 Dq (λc0 c1 c2 c3 c4 (o:aL)=>c0=str o.name∧c1=.bool o.sig.iter∧c3=str o.sig.res∧qm o∧SS Any W c2 o.sig.args∧SS Any W c4 o.sig.sigs) (λ_ _ _ _ _ _ _ hh=>Gk hh) h
 exact⟨l,ya e h1 h2 h3⟩
theorem z6 {fuel:Nat} {v:Value} {x:DataW H×List MemPlace} (h:DataW.trod enc Tryz.prog W 0 (λ_=>true) true fuel 23 [v]=some x):∃l,aY Any W v l:=by
 obtain⟨l,p,c,e,h1,h2,h3⟩:=oG Tryz.underlying23 zn (λc0 c1 c2 c3 c4 (o:aL)=>c0=str o.name∧c1=.bool o.sig.iter∧c3=str o.sig.res∧qm o∧SS Any W c2 o.sig.args∧SS Any W c4 o.sig.sigs) (λ_ _ _ _ _ _ _ hh=>Cq hh) h
 exact⟨l,ya e h1 h2 h3⟩
set_option maxRecDepth 8000 in
theorem BL {fuel:Nat} {c0 c1 c2 c3 c4:Value} {x:DataW H×List MemPlace} (h:DataW.trod enc Tryz.prog W 0 (λ_=>true) true fuel 58 [c0,c1,c2,c3,c4]=some x):
 ∃f:aA,c0=str f.name∧c1=.int .u8 f.kind∧c2=.bool f.par∧f.name.length≤maxLen∧aY Any W c3 f.ag∧aY Any W c4 f.ops:=by
 obtain⟨xs,k,_,_,_,hxl,hf⟩:=DataW.trod_struct Tryz.underlying58 h
 match xs,hxl with
 | [y0,y1,y2,y3,y4],_=>
  have g0:=hf 0 _ rfl;have g1:=hf 1 _ rfl;have g2:=hf 2 _ rfl;have g3:=hf 3 _ rfl;have g4:=hf 4 _ rfl;simp[gj,Dr,qy,wA,BH] at g0 g1 g2 g3 g4;obtain⟨n,e0,_,hn⟩:=DataW.trod_string Tryz.underlying9 g0;obtain⟨kd,e1,_,hk⟩:=DataW.trod_int Tryz.underlying5 g1;obtain⟨b,e2,_⟩:=DataW.trod_bool Tryz.underlying4 g2;obtain⟨ns,h3⟩:=z6 g3;obtain⟨os,h4⟩:=Et g4;simp only[List.cons.injEq,and_true] at e0 e1 e2;have hk0:0≤kd:=by
   simp[Lit.wf] at hk;have h:=hk.1
   rwa [show IntKind.u8.min=0 from rfl] at h
  exact⟨⟨n.data.toList,kd.toNat,b,ns,os⟩,e0,by rw[e1];show Value.int .u8 kd=.int .u8 ((kd.toNat:Nat):Int);rw[Int.toNat_of_nonneg hk0],e2,by rw[Array.length_toList];exact hn,h3,h4⟩
theorem Ij {fuel:Nat} {v:Value} {x:DataW H×List MemPlace} (h:DataW.trod enc Tryz.prog W 0 (λ_=>true) true fuel 22 [v]=some x):∃l,bG Any W v l:=by
 obtain⟨l,p,c,e,h1,h2,h3⟩:=oG Tryz.underlying22 zm (λc0 c1 c2 c3 c4 (f:aA)=>c0=str f.name∧c1=.int .u8 f.kind∧c2=.bool f.par∧f.name.length≤maxLen∧aY Any W c3 f.ag∧aY Any W c4 f.ops) (λ_ _ _ _ _ _ _ hh=>BL hh) h
 refine⟨l,p,c,e,h1,h2,?_,?_⟩
 · intro x hx
   rcases h3 with rfl|⟨b,o,_,_,hc⟩
   · cases hx
   · obtain⟨j,hj,rfl⟩:=List.getElem_of_mem hx
     obtain⟨_,_,_,_,_,⟨_,_,_,k,_,_⟩,_⟩:=hc j hj;exact k
 · rcases h3 with h3|⟨b,o,e1,h4,hc⟩
   · exact .inl h3
   · refine .inr ⟨b,o,e1,trivial,h4,λj hj=>?_⟩
     obtain⟨c0,c1,c2,c3,c4,⟨rfl,rfl,rfl,_,k2,k3⟩,d0,d1,d2,d3,d4⟩:=hc j hj;exact⟨c3,c4,k2,k3,d0,d1,d2,d3,d4⟩
end
end Go.Proofs.YtakgjcfkdemipaaGreatDoor
