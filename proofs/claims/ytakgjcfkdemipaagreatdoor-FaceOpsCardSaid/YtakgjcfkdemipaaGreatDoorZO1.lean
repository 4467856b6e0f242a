/-
  Lemmas for the statement: put, where all are types (plain): its one error. Operations put and sorted; found by name. Contracts of the reference argusref04: OpIn, OpOf, OpsOf. Conditions: bounds of lengths; the variable strings.asciiSpace.
-/
import Derived.Test.YtakgjcfkdemipaaGreatDoorZG30
import Derived.Test.YtakgjcfkdemipaaGreatDoorZG37
import Derived.Test.YtakgjcfkdemipaaGreatDoorZGn
import Derived.Test.YtakgjcfkdemipaaGreatDoorZO0
set_option maxHeartbeats 25600000
namespace Go.Proofs.YtakgjcfkdemipaaGreatDoor
open Go.RowKit
theorem va4 {s u:List UInt8} (hs:(aq s).1=0) (hu:(aq u).1=0):(aQ s u).2=0∨(aQ s u).2=2:=by
 rcases h1:aq s with⟨c,T⟩
 rcases h2:aq u with⟨d,A⟩
 rw[h1] at hs
 rw[h2] at hu
 simp only at hs hu
 subst hs hu
 rw[BS h1 h2]
 unfold ij
 split
 · exact .inr rfl
 · exact .inl rfl
theorem va6 {a:List UInt8} (ha:(aq a).1=0):∀l:List (List UInt8),(∀t∈l,(aq t).1=0)→(jD a l).2=0∨(jD a l).2=2
 | [],_=>.inl rfl
 | t::l,h=>by
  have h1:=va4 (h t (List.mem_cons_self ..)) ha;have h2:=va6 ha l λx hx=>h x (List.mem_cons_of_mem _ hx)
  unfold jD;split
  · split
    · exact .inl rfl
    · exact h2
  · exact h1
theorem vau {s:cD} {a:List UInt8} (hs:∀t∈aI s,(aq t).1=0) (ha:a=[]∨(aq a).1=0):(bZ s a).2=0∨bZ s a=(.zero,2):=by
 unfold bZ
 by_cases h0:a=[]
 · rw[if_pos h0];exact .inl rfl
 rw[if_neg h0]
 have hc:(aq a).1=0:=ha.resolve_left h0
 have h1:=va6 hc s.args λt ht=>hs t (by unfold aI;exact List.mem_append_left _ ht)
 by_cases h2:(jD a s.args).2=0
 · rw[if_neg (by simp[h2])]
   by_cases h3:s.res=[]
   · rw[if_pos h3];exact .inl rfl
   · rw[if_neg h3]
     have h4:=va4 (hs s.res (by unfold aI;rw[if_neg h3];simp)) hc
     by_cases h5:(aQ s.res a).2=0
     · rw[if_neg (by simp[h5])];exact .inl rfl
     · rw[if_pos h5,h4.resolve_left h5];exact .inr rfl
 · rw[if_pos h2,h1.resolve_left h2];exact .inr rfl
theorem vat (s:cD):bZ s []=(s,0):=by unfold bZ;rw[if_pos rfl]
theorem va7 (c:aR) {t:List UInt8} (hf:∀f∈c.bK,eU f=true) (h0:(aq t).1=0):∀o∈(cG c t).1,(bZ o.sig (cG c t).2).2=0∨bZ o.sig (cG c t).2=(.zero,2):=by
 intro o ho
 by_cases hn:(cG c t).2=[]
 · rw[hn,vat];exact .inl rfl
 have hk:(aq t).2.k=7:=by
  apply Classical.byContradiction;intro hk;apply hn;unfold cG;split<;>first|rfl|(rename_i h;exact absurd h hk)
 have e:cG c t=(((ez c.bK (dI t).1).map (·.ops)).getD [],(bQ t).1):=by
  unfold cG;simp only[hk]
 rw[e] at ho hn ⊢
 simp only at ho hn ⊢
 obtain⟨-,-,-,-,h1,h2⟩:=qX h0 hk
 rcases hq:ez c.bK (dI t).1 with _|f
 · rw[hq] at ho;simp at ho
 rw[hq] at ho
 simp only[Option.map_some,Option.getD_some] at ho
 have hs:=eC ((ec (hf f (List.mem_of_find?_eq_some hq))).2.2.2.2.2.2.2.1 o ho).2
 refine vau (λu hu=>(hs.2.2.2.2 u hu).1) ?_
 rcases hb:(bQ t).2.1 with _|_
 · exact .inl (h2 hb)
 · exact .inr (h1 hb).1
theorem va1 {t:List UInt8} (h:(aq t).1=0):t≠[]:=by
 rintro rfl
 revert h
 decide+kernel
theorem vaz {t b x:List UInt8} (h:aQ t b=(x,0)):x≠[]:=by
 obtain⟨T,A,h1,h2,h3,h4⟩:=JV h
 exact va1 (by rw[h4])
theorem va5 {a : List UInt8} : ∀ {l : List (List UInt8)}, (jD a l).2 = 0 → ∀ u ∈ (jD a l).1, ∃ v ∈ l, aQ v a = (u, 0)
 | [],_,u,hu=>by cases hu
 | t :: l, h, u, hu => by
  unfold jD at h hu;split at h
  · rename_i h1
    rw[if_pos h1] at hu;split at h
    · rename_i h2
      rw[if_pos h2] at hu;rcases List.mem_cons.1 hu with rfl|hu
      · exact⟨t,by simp,Prod.ext rfl h1⟩
      · obtain⟨v,hv,e⟩:=va5 h2 u hu
        exact⟨v,by simp[hv],e⟩
    · rename_i h2;exact absurd h h2
  · rename_i h1;exact absurd h h1
theorem vb1 {u:List UInt8} {U:Tr} (h:aq u=(0,U)) (hk:U.k=7∨U.k=4) (hn:U.sub.len≠0):bQ u=(U.sub.first.txt,true,0)∧U.sub.first∈U.sub.ins:=by
 refine⟨?_,?_⟩
 · have vc2:lX u [4,7]=(0,U):=by unfold lX;rw[h,if_pos rfl,if_pos (by rcases hk with hk|hk<;>rw[hk]<;>rfl)]
   unfold bQ;rw[vc2,if_pos ⟨rfl,hn⟩]
 · rcases hs:U.sub with _|⟨pn,k,n,sub,rest⟩
   · rw[hs] at hn;exact absurd rfl hn
   · rw[Fo.first,Fo.ins];exact List.mem_cons_self ..
def va0 (s:cD):Prop:=(∀u∈s.args,u≠[])∧∀u∈s.sigs,u≠[]
theorem vaf {s:cD} {a:List UInt8} (h:va0 s):va0 (bZ s a).1:=by
 have hz:va0 .zero:=⟨(λu hu=>by cases hu),(λu hu=>by cases hu)⟩
 unfold bZ
 split
 · exact h
 split
 · exact hz
 rename_i h1
 have hw:∀u∈(jD a s.args).1,u≠[]:=λu hu=>by
  obtain⟨v,_,e⟩:=va5 (Decidable.not_not.1 h1) u hu;exact vaz e
 split
 · exact⟨hw,h.2⟩
 split
 · exact hz
 · exact⟨hw,h.2⟩
theorem vah {s:cD} {o:Bool} (h:ek s o=true):va0 s:=by
 obtain⟨_,_,h1,_,h2⟩:=eC h
 refine⟨λu hu=>va1 (h2 u (by unfold aI;exact List.mem_append_left _ hu)).1,λu hu=>jm ((wP _ h1).1 u hu)⟩
theorem vav (c:aR) {t:List UInt8} (hf:∀f∈c.bK,eU f=true) (hn:bh c.ag=true) (h0:(aq t).1=0):∀x∈(cG c t).1,va0 x.sig:=by
 have hk:=gm h0
 have ht:=va1 h0
 have hi:cU≠[]:=by decide
 have hks:(aq t).2.k=1∨(aq t).2.k=2∨(aq t).2.k=3∨(aq t).2.k=4∨(aq t).2.k=5∨(aq t).2.k=6∨(aq t).2.k=7∨(aq t).2.k=8:=by omega
 intro x hx
 rcases hks with h|h|h|h|h|h|h|h
 · unfold cG at hx
   rw[h] at hx;simp only[List.mem_append,List.mem_cons,List.not_mem_nil,or_false,List.mem_map] at hx;rcases hx with((rfl|rfl|rfl)|⟨n,_,rfl⟩)|⟨n,_,rfl⟩<;>simp[va0,sg,ht]
 · unfold cG at hx
   rw[h] at hx;simp only[List.mem_cons,List.not_mem_nil,or_false] at hx;rcases hx with rfl|rfl|rfl|rfl<;>simp[va0,sg,ht]
 · unfold cG at hx
   rw[h] at hx;simp only[List.mem_cons,List.not_mem_nil,or_false] at hx;subst hx;simp[va0,sg,ht]
 · have ha:(bQ t).1≠[]:=by
    have:=(qP h0).2.1;rcases hq:aq t with⟨z,T⟩;rw[hq] at h0 h;simp only at h0 h;subst h0;obtain⟨o,_⟩:=bE hq;have o':Wf none (.cons [] T.k T.n T.sub .nil):=o;have key:T.sub.len≠0∧T.sub.first.ok:=by
     rw[h] at o';generalize T.n=n at o';generalize T.sub=sub at o' ⊢;cases o' with
     | word k h=>omega
     | arr x h=>
      obtain⟨u,rfl⟩:=h.one;exact⟨by simp[Fo.one,Fo.len],h⟩
     | rcd k w fo hk=>omega
    rw[(vb1 hq (.inr h) key.1).1];intro e;have h1:=key.2.reads';rw[show T.sub.first.txt=[] from e,show aY []=none by kernel_rfl] at h1;cases h1
   unfold cG at hx;rw[h] at hx;simp only[List.mem_cons,List.not_mem_nil,or_false] at hx;rcases hx with rfl|rfl|rfl|rfl|rfl|rfl|rfl<;>simp[va0,sg,ht,ha,hi]
 · have hp:∀p∈(cK t).1,p.2≠[]:=λp hp=>va1 (jy.1 p hp).2
   unfold cG at hx;rw[h] at hx;simp only[List.mem_append,List.mem_cons,List.not_mem_nil,or_false,List.mem_flatMap] at hx;rcases hx with(rfl|⟨p,Zw,rfl|rfl⟩)|rfl
   · simp[va0,sg,ht]
   · simp[va0,sg,ht]
   · simp[va0,sg,ht,hp p Zw]
   · refine⟨λu hu=>?_,(λu hu=>by cases hu)⟩
     obtain⟨p,Zw,rfl⟩:=List.mem_map.1 hu;exact hp p Zw
 · have hp:∀p∈(cK t).1,p.2≠[]:=λp hp=>va1 (jy.1 p hp).2
   unfold cG at hx;rw[h] at hx;simp only[List.mem_cons,List.not_mem_nil,or_false,List.mem_flatMap] at hx;rcases hx with rfl|⟨p,Zw,rfl|rfl⟩
   · simp[va0,sg,ht]
   · simp[va0,sg,ht]
   · simp[va0,sg,hp p Zw]
 · unfold cG at hx
   rw[h] at hx;simp only at hx;rcases hq:ez c.bK (dI t).1 with _|f
   · rw[hq] at hx;simp at hx
   rw[hq] at hx;simp only[Option.map_some,Option.getD_some] at hx;exact vah ((ec (hf f (List.mem_of_find?_eq_some hq))).2.2.2.2.2.2.2.1 x hx).2
 · unfold cG at hx
   rw[h] at hx;simp only at hx;unfold bh at hn;simp only[Bool.and_eq_true,List.all_eq_true] at hn;exact vah (hn.1.1 x hx)
def va2 (R:List aG) (a:List UInt8):List aG×Nat:=if(R.all λo=>decide ((bZ o.sig a).2=0))=true then(R.map λo=>⟨o.name,(bZ o.sig a).1⟩,0) else([],2)
theorem va9 {a:List UInt8}:∀l:List aG,(∀o∈l,(bZ o.sig a).2=0∨bZ o.sig a=(.zero,2))→fS a l=va2 l a
 | [],_=>rfl
 | o::l,h=>by
  have ih:=va9 l λx hx=>h x (List.mem_cons_of_mem _ hx)
  unfold fS;rw[ih];unfold va2;rw[List.all_cons];rcases h o (List.mem_cons_self ..) with h1|h1
  · rw[if_pos h1,decide_eq_true h1,Bool.true_and]
    split
    · rw[if_pos rfl];rfl
    · rw[if_neg (by simp)]
  · rw[if_neg (by rw[h1];simp),decide_eq_false (by rw[h1];simp),Bool.false_and,if_neg (by simp),h1]
theorem va8 {R l:List aG} (a:List UInt8) (ho:gW l) (hr:zH R) (hp:R.Perm l):va2 R a=if(va2 l a).2≠0 then([],(va2 l a).2) else(cN (va2 l a).1,0):=by
 have hall:(R.all λo=>decide ((bZ o.sig a).2=0))=l.all λo=>decide ((bZ o.sig a).2=0):=by
  rw[Bool.eq_iff_iff,List.all_eq_true,List.all_eq_true];exact⟨λh x hx=>h x (hp.mem_iff.2 hx),λh x hx=>h x (hp.mem_iff.1 hx)⟩
 unfold va2
 rw[hall]
 split
 · rw[if_neg (by simp)]
   congr 1
   have hn:((l.map λo:aG=>(⟨o.name,(bZ o.sig a).1⟩:aG)).map (·.name))=l.map (·.name):=by rw[List.map_map];rfl
   refine zP (Gj (by unfold gW;rw[hn];exact ho)) ?_ ((hp.map _).trans (jg _).symm);exact List.pairwise_map.2 hr
 · rw[if_pos (by simp)]
theorem vak (c:aR) {t:List UInt8} (hf:∀f∈c.bK,eU f=true) (hn:bh c.ag=true) (h0:(aq t).1=0):Jb c t=va2 (cN (nI c t)) (cG c t).2:=by
 have ho:=ve c t hf hn
 have hR:=x8 c h0
 rw[va8 (cG c t).2 ho (Gj (ho.perm hR)) ((jg _).trans hR),←va9 _ (va7 c hf h0)]
 rfl
theorem vai {R l:List aG} (ho:gW l) (hp:R.Perm l) (n:List UInt8):R.find? (λo=>decide (o.name=n))=l.find? (λo=>decide (o.name=n)):=by
 rcases hq:l.find? (λo=>decide (o.name=n)) with _|o
 · have Sy:=List.find?_eq_none.1 hq
   rw[hq];exact List.find?_eq_none.2 λx hx=>Sy x (hp.mem_iff.1 hx)
 · have hm:=hp.mem_iff.2 (List.mem_of_find?_eq_some hq)
   have he:o.name=n:=by simpa using List.find?_some hq
   have:=FF (ho.perm hp) hm;rw[hq]
   rwa [he] at this
def vae (R:List aG) (a n:List UInt8):cD×Nat:=
 match R.find? λo=>decide (o.name=n) with
 | none=>(.zero,40)
 | some o=>if(bZ o.sig a).2=0 then((bZ o.sig a).1,0) else(.zero,2)
theorem vaq (c:aR) {t:List UInt8} (n:List UInt8) (hf:∀f∈c.bK,eU f=true) (hn:bh c.ag=true) (h0:(aq t).1=0):oE c t n=vae (cN (nI c t)) (cG c t).2 n:=by
 have ho:=ve c t hf hn
 have hR:=x8 c h0
 have h2:=va7 c hf h0
 unfold oE vae
 rw[vai ho ((jg _).trans hR)]
 rcases hq:(cG c t).1.find? (λo=>decide (o.name=n)) with _|o
 · rw[hq]
 · rw[hq]
   simp only;rcases h2 o (List.mem_of_find?_eq_some hq) with h|h
   · rw[if_pos h];exact Prod.ext rfl h
   · rw[h];rfl
end Go.Proofs.YtakgjcfkdemipaaGreatDoor
namespace Go.Proofs.YtakgjcfkdemipaaGreatDoor
open Go Go.RowKit
def vay (c:aR) (t n:List UInt8):cD×Nat:=if dx c t≠0 then(.zero,dx c t) else oE c t n
theorem vas (l:List aB) (ag:List aG) (t n:List UInt8):lC l ag t n=if bP l ag≠0 then(.zero,bP l ag) else vay ⟨l,ag,dX ag t⟩ t n:=by
 unfold lC vay gU
 by_cases h:bP l ag=0
 · simp only[h,ne_eq,not_true_eq_false,if_false]
 · rw[if_pos h,if_pos h,if_pos h]
theorem vb2 {c:aR} (n:List UInt8) {t:List UInt8} (fW:qm c):va0 (vay c t n).1:=by
 have hz:va0 .zero:=⟨(λu hu=>by cases hu),(λu hu=>by cases hu)⟩
 unfold vay oE
 split
 · exact hz
 · rename_i h
   split
   · exact hz
   · rename_i o ho
     exact vaf (vav c fW.1 fW.2 (ry (Decidable.not_not.1 h)) o (List.mem_of_find?_eq_some ho))
theorem vaw {R:List aG} {n:List UInt8} {i:Nat} {x:aG} (hx:R[i]? =some x) (hn:x.name≠n):(R.drop i).find? (λo=>decide (o.name=n))=(R.drop (i+1)).find? (λo=>decide (o.name=n)):=by
 rw[bp hx,List.find?_cons_of_neg (by simpa using hn)]
theorem vao {R:List aG} {n:List UInt8} {i:Nat} {x:aG} (hx:R[i]? =some x) (hn:x.name=n):(R.drop i).find? (λo=>decide (o.name=n))=some x:=by
 rw[bp hx,List.find?_cons_of_pos (by simpa using hn)]
theorem SS.va3 {w:World} {v:Value} {L:List (List UInt8)} {B:Nat} {t:TypeId} (h:SS Any w v L) (hB:w.heap[B]? =some (.cells #[.bool false,.slice none 0 0,.string ⟨#[]⟩,.slice none 0 0] t (0,0))) (hne:∀s∈L,s≠[]):SS (λb=>b≠B) w v L:=by
 obtain⟨p,c,h1,h2,h3,h4,h5⟩:=h
 refine⟨p,c,h1,h2,h3,h4,?_⟩
 rcases L with _|⟨s,L⟩
 · exact .inl rfl
 rcases h5 with h5|⟨b,o,e,_,h6,h7⟩
 · cases h5
 · refine .inr ⟨b,o,e,λhb=>?_,h6,h7⟩
   subst hb;have h8:=h7 0 (by simp);have hs:=hne s (List.mem_cons_self ..);have hb:=(aU hB).1;rcases o with _|_|_|_|o
   · rw[Nat.add_zero,hb.1] at h8;cases h8
   · rw[Nat.add_zero,hb.2.1] at h8;cases h8
   · rw[Nat.add_zero,hb.2.2.1] at h8
     injection h8 with h8;exact hs (by simpa[str] using h8.symm)
   · rw[Nat.add_zero,hb.2.2.2] at h8;cases h8
   · rw[show w.cell? ⟨b,o+1+1+1+1+0,none⟩=none by simp[World.cell?,hB]] at h8
     cases h8
theorem vag {c:aR} {t:List UInt8} (fW:qm c) (hg:dx c t=0):(aq t).1=0∧c.ag.length≤900∧((aq t).2.k=7→∃f,ez c.bK (dI t).1=some f∧f.ops.length≤900):=by
 refine⟨ry hg,Nat.le_trans (dr fW.2).1 (by decide),λh7=>?_⟩
 obtain⟨f,hf⟩:=CA (n:=6) hg h7
 exact⟨f,hf,Nat.le_trans (ec (fW.1 f (List.mem_of_find?_eq_some hf))).2.2.2.2.2.2.1 (by decide)⟩
set_option maxRecDepth 8000 in
theorem vam {D D':Nat→Prop} (l:List aB) (ag:List aG) (lv nv:Value) (t n:List UInt8) (w:World) (fW:qm ⟨l,ag,dX ag t⟩) (hl:aZ D w lv l) (hn:aJ D' w nv ag) (htl:t.length≤maxLen):
 Calls Tryz.prog 73 #[lv,nv,str t,str n] w λe w'=>∃u,e=.returned (.tuple #[u,.int .i64 (vay ⟨l,ag,dX ag t⟩ t n).2])∧aT Any w' u (vay ⟨l,ag,dX ag t⟩ t n).1∧Below w.heap.size w w':=by
 have Ky:=(Below.refl _ w).alloc (nl _) (.cells #[.bool false,.slice none 0 0,.string ⟨#[]⟩,.slice none 0 0] 36)
 have Ws:=heap_alloc_new w (.cells #[.bool false,.slice none 0 0,.string ⟨#[]⟩,.slice none 0 0] 36)
 have HP:=DA ag nv t _ (hn.below Ky (nl _)) htl
 have HG:=λW (hW:Below w.heap.size w W)=>rK ⟨l,ag,dX ag t⟩ fW lv nv t W (hl.below hW (nl _)) (hn.below hW (nl _)) htl
 have VF:=λh0 h1 h7 W (hW:Below w.heap.size w W)=>F6 ⟨l,ag,dX ag t⟩ lv nv t W (hl.below hW (nl _)) (hn.below hW (nl _)) h0 h1 h7
 have hro:=λhg=>vag (c:=⟨l,ag,dX ag t⟩) (t:=t) fW hg
 have vb0:=λh0=>F1 (c:=⟨l,ag,dX ag t⟩) (t:=t) fW h0
 have hir:=λh0=>vaq ⟨l,ag,dX ag t⟩ n fW.1 fW.2 (t:=t) h0
 have Zw:=λh0=>(jg _).trans (x8 ⟨l,ag,dX ag t⟩ (t:=t) h0)
 have vb4:=λh0=>va7 ⟨l,ag,dX ag t⟩ (t:=t) fW.1 h0
 have hnz:=λh0=>vav ⟨l,ag,dX ag t⟩ (t:=t) fW.1 fW.2 h0
 have dZ:vay ⟨l,ag,dX ag t⟩ t n=if dx ⟨l,ag,dX ag t⟩ t≠0 then(.zero,dx ⟨l,ag,dX ag t⟩ t) else oE ⟨l,ag,dX ag t⟩ t n:=rfl
 simp only at HG VF hro
 generalize vay ⟨l,ag,dX ag t⟩ t n=RS at *
 by_cases h0:dx ⟨l,ag,dX ag t⟩ t=0
 case neg=>
  obtain⟨g1,g2⟩:=bC h0;rw[if_pos h0] at dZ;have HX:=Lib.hid dZ;generalize dx ⟨l,ag,dX ag t⟩ t=GK at *;generalize dX ag t=P at *;obtain⟨p,c,rfl,_⟩:=hl.shape;obtain⟨q,cq,rfl,_⟩:=hn.shape;clear dZ h0 hl hn fW VF hro vb0 hir Zw vb4 hnz;go_enter Tryz.func73,Tryz.ntmps73;go_wp2_with (first
   | (go_at_call 68;refine(HG _ bJ).mono ?_;clear HG;rintro e w2 ⟨rfl,aA⟩;have bW:=bJ.trans (af aA bJ.size);have b2:=aU (ah hg1 aA))
   | (go_at_call 69;refine HP.mono ?_;clear HP;rintro e w1 ⟨rfl,ay⟩;have bJ:=Ky.trans (af ay (by simp));have hg1:=ah Ws ay))
  refine bodyPost_ret (v:=.tuple #[.agg #[.bool false,.slice none 0 0,str [],.slice none 0 0],.int .i64 GK]) (by simp[results,Tryz.results73,go_sem,b2.1]) rfl ?_;rw[HX.out];exact⟨_,rfl,aT.zero _ _,Below.fc bW (b:=w.heap.size) (nl _) _ _ _ _⟩
 case pos =>
  obtain⟨k0,k1,k7⟩:=hro h0;rw[if_neg (by simp[h0])] at dZ;rw[h0] at HG
  replace VF:=VF k0 k1 k7
  obtain⟨ZA,vb3⟩:=vb0 k0
  replace hir:=hir k0
  replace Zw:=Zw k0
  replace vb4:=vb4 k0
  replace hnz:=hnz k0
  rw[hir] at dZ;have hrl:∀x∈cN (nI ⟨l,ag,dX ag t⟩ t),x.sig.args.length≤100000∧((bZ x.sig (cG ⟨l,ag,dX ag t⟩ t).2).2=0∨bZ x.sig (cG ⟨l,ag,dX ag t⟩ t).2=(.zero,2))∧va0 x.sig:=λx hx=>⟨(vb3 x (Zw.mem_iff.1 hx)).1,vb4 x (Zw.mem_iff.1 hx),hnz x (Zw.mem_iff.1 hx)⟩
  generalize cN (nI ⟨l,ag,dX ag t⟩ t)=R at *;generalize (cG ⟨l,ag,dX ag t⟩ t).2=A at *;have vb5:=Lib.hid hrl;have HX:=Lib.hid dZ;generalize dX ag t=P at *;obtain⟨p,c,rfl,_⟩:=hl.shape;obtain⟨q,cq,rfl,_⟩:=hn.shape;clear dZ h0 hl hn fW hro vb0 hir Zw vb4 hnz hrl vb3 k0 k1 k7;go_enter Tryz.func73,Tryz.ntmps73;go_wp2_with (first
   | (go_at_call 70;refine(VF _ bW).mono ?_;clear VF;rintro e w3 ⟨vr,rfl,hR,aK⟩;obtain⟨pR,cR,rfl,Zh⟩:=hR.shape;have dg:=bW.trans (af aK bW.size);have hg3:=ah hg2 aK)
   | (go_at_call 68;refine(HG _ bJ).mono ?_;clear HG;rintro e w2 ⟨rfl,aA⟩;have bW:=bJ.trans (af aA bJ.size);have hg2:=ah hg1 aA)
   | (go_at_call 69;refine HP.mono ?_;clear HP;rintro e w1 ⟨rfl,ay⟩;have bJ:=Ky.trans (af ay (by simp));have hg1:=ah Ws ay))
  unfold maxLen at Zh;clear hg1 hg2 Ws bJ bW ay aA aK Ky;go_loopw [12] (λa wx=>∃i:Nat,i≤R.length∧a=.int .i64 i∧Below w3.heap.size w3 wx∧Hid (R.find? (λo=>decide (o.name=n))=(R.drop i).find? (λo=>decide (o.name=n)))) (λa _=>R.length - (intOf a).toNat)
  case atStart=>exact⟨0,Nat.zero_le _,by go_num,Below.refl _ _,rfl⟩
  case round=>
   obtain⟨i,hi,rfl,hb,hE⟩:=hrel;have Aj:=dg.trans (af hb dg.size);have hgr:=ah hg3 hb
   by_cases hlt:i<R.length
   case neg=>
    have HY:=Lib.hid (show RS=(.zero,40) by rw[HX.out,vae,hE.out,List.drop_eq_nil_of_le (by omega)];rfl);have b4:=aU hgr;clear hE;go_wp2_with fail;refine bodyPost_ret (v:=.tuple #[.agg #[.bool false,.slice none 0 0,str [],.slice none 0 0],.int .i64 40]) (by simp[results,Tryz.results73,go_sem,b4.1]) rfl ?_;rw[HY.out];exact⟨_,rfl,aT.zero _ _,Below.fc Aj (b:=w.heap.size) (nl _) _ _ _ _⟩
   case pos=>
    obtain⟨x,hkx⟩:∃x,R[i]? =some x:=⟨_,List.getElem?_eq_getElem hlt⟩
    obtain⟨b1,o1,pa,qa,rfl,⟨Az,kC⟩,Uh,Uj,d0,d1,d2,d3,d4,d5⟩:=(hR.below hb (nl _)).at hkx;obtain⟨hxl,hx2,vbg⟩:=vb5.out x (List.mem_of_getElem? hkx)
    by_cases hnm:x.name=n
    case neg=>
     have HY:=Lib.hid (hE.out.trans (vaw hkx hnm));have g1:(x.name==n)=false:=by simpa using hnm
     clear hE hkx hnm;go_wp2_with fail;exact⟨⟨i+1,hlt,by go_num,hb,HY⟩,by simp only[intOf];omega⟩
    case pos=>
     have hY:=hE.out.trans (vao hkx hnm);have hRS:RS=if(bZ x.sig A).2=0 then((bZ x.sig A).1,0) else(.zero,2):=by rw[HX.out,vae,hY]
     have g1:(x.name==n)=true:=by simpa using hnm
     have S1:=DD (.agg #[str x.name,.bool x.sig.iter,pa,str x.sig.res,qa,str A]) x A wr ⟨_,_,rfl,⟨Az,kC⟩,Uh,Uj⟩ ZA hxl;obtain⟨p5,c5,rfl,_⟩:=Uh.shape;obtain⟨p6,c6,rfl,_⟩:=Uj.shape;have vbd:=vaf (a:=A) vbg;clear hE hkx hY Uh Uj HX hx2 vbg hnm;generalize bZ x.sig A=PK at *
     by_cases hz:PK.2=0
     case neg=>
      rw[if_neg hz] at hRS;rw[decide_eq_false hz] at S1;have HY:=Lib.hid hRS;clear hRS hz;go_wp2_with (go_at_call 71;refine S1.mono ?_;clear S1;rintro e w4 ⟨u,rfl,⟨av,sv,rfl,lu,ru,qu⟩,hb4⟩;obtain⟨vct,c7,rfl,_⟩:=ru.shape;obtain⟨vcu,c8,rfl,_⟩:=qu.shape;have dH:=(Aj.trans (af hb4 Aj.size)).alloc (Nat.le_trans Aj.size hb4.size) (.cells #[.bool PK.1.iter,.slice vct PK.1.args.length c7,str PK.1.res,.slice vcu PK.1.sigs.length c8] 36);have b4:=aU (aH (.cells #[.bool PK.1.iter,.slice vct PK.1.args.length c7,str PK.1.res,.slice vcu PK.1.sigs.length c8] 36) (ah hgr hb4)));refine bodyPost_ret (v:=.tuple #[.agg #[.bool false,.slice none 0 0,str [],.slice none 0 0],.int .i64 2]) (by simp[results,Tryz.results73,go_sem,b4.1]) rfl ?_;rw[HY.out];exact⟨_,rfl,aT.zero _ _,Below.fc dH (b:=w.heap.size) (nl _) _ _ _ _⟩
     case pos=>
      rw[if_pos hz] at hRS;rw[decide_eq_true hz] at S1;have HY:=Lib.hid hRS;clear hRS hz;go_wp2_with (go_at_call 71;refine S1.mono ?_;clear S1;rintro e w4 ⟨u,rfl,⟨av,sv,rfl,lu,ru,qu⟩,hb4⟩;obtain⟨vct,c7,rfl,_⟩:=ru.shape;obtain⟨vcu,c8,rfl,_⟩:=qu.shape;have dH:=(Aj.trans (af hb4 Aj.size)).alloc (Nat.le_trans Aj.size hb4.size) (.cells #[.bool PK.1.iter,.slice vct PK.1.args.length c7,str PK.1.res,.slice vcu PK.1.sigs.length c8] 36);have qh:=(Below.refl _ w4).alloc (nl _) (.cells #[.bool PK.1.iter,.slice vct PK.1.args.length c7,str PK.1.res,.slice vcu PK.1.sigs.length c8] 36);have hg4:=aH (.cells #[.bool PK.1.iter,.slice vct PK.1.args.length c7,str PK.1.res,.slice vcu PK.1.sigs.length c8] 36) (ah hgr hb4);have b4:=aU hg4;have b5:=aU (heap_alloc_new w4 (.cells #[.bool PK.1.iter,.slice vct PK.1.args.length c7,str PK.1.res,.slice vcu PK.1.sigs.length c8] 36)));refine bodyPost_ret (v:=.tuple #[.agg #[.bool PK.1.iter,.slice vct PK.1.args.length c7,str PK.1.res,.slice vcu PK.1.sigs.length c8],.int .i64 0]) (by simp[results,Tryz.results73,go_sem,b4.1]) rfl ?_;rw[HY.out];have vc1:=bH hg4;refine⟨_,rfl,⟨_,_,rfl,lu,?_,?_⟩,Below.fc dH (b:=w.heap.size) (nl _) _ _ _ _⟩
      · exact(SS.fc ((ru.va3 (ah hgr hb4) vbd.1).below qh (nl _)) (b:=w.heap.size) (λb hb=>hb) _ _ _ _).mono λ_ _=>trivial
      · exact(SS.fc ((qu.va3 (ah hgr hb4) vbd.2).below qh (nl _)) (b:=w.heap.size) (λb hb=>hb) _ _ _ _).mono λ_ _=>trivial
theorem van {D D':Nat→Prop} (l:List aB) (ag:List aG) (lv nv:Value) (t n:List UInt8) (w:World) (hl:aZ D w lv l) (hn:aJ D' w nv ag) (htl:t.length≤maxLen):
 Calls Tryz.prog 24 #[lv,nv,str t,str n] w λe w'=>∃u,e=.returned (.tuple #[u,.int .i64 (lC l ag t n).2])∧aT Any w' u (lC l ag t n).1∧Below w.heap.size w w':=by
 have Ky:=(Below.refl _ w).alloc (nl _) (.cells #[.bool false,.slice none 0 0,.string ⟨#[]⟩,.slice none 0 0] 36)
 have Ws:=heap_alloc_new w (.cells #[.bool false,.slice none 0 0,.string ⟨#[]⟩,.slice none 0 0] 36)
 have HA:=uZ l (Bl l) lv ag nv _ (hl.below Ky (nl _)) (hn.below Ky (nl _))
 have dZ:=vas l ag t n
 generalize lC l ag t n=RS at *
 by_cases h:bP l ag=0
 · rw[if_neg (by simp[h])] at dZ
   have HX:=Lib.hid dZ;have HG:=λW (hW:Below w.heap.size w W)=>vam l ag lv nv t n W (wQ h) (hl.below hW (nl _)) (hn.below hW (nl _)) htl
   rw[h] at HA;have vbb:=vb2 n (t:=t) (wQ (par:=dX ag t) h);generalize vay ⟨l,ag,dX ag t⟩ t n=OI at *;obtain⟨p,c,rfl,_⟩:=hl.shape;obtain⟨q,cq,rfl,_⟩:=hn.shape;clear dZ h hl hn;go_enter Tryz.func24,Tryz.ntmps24;go_wp2_with (first
    | (go_at_call 73;refine(HG _ bJ).mono ?_;clear HG;rintro e w2 ⟨u,rfl,⟨av,sv,rfl,lu,ru,qu⟩,aA⟩;obtain⟨vct,c7,rfl,_⟩:=ru.shape;obtain⟨vcu,c8,rfl,_⟩:=qu.shape;have bW:=bJ.trans (af aA bJ.size);have hg2:=ah hg1 aA;have b2:=aU hg2)
    | (go_at_call 60;refine HA.mono ?_;clear HA;rintro e w1 ⟨rfl,ay⟩;have bJ:=Ky.trans (af ay (by simp));have hg1:=ah Ws ay))
   refine bodyPost_ret (v:=.tuple #[.agg #[.bool OI.1.iter,.slice vct OI.1.args.length c7,str OI.1.res,.slice vcu OI.1.sigs.length c8],.int .i64 OI.2]) (by simp[results,Tryz.results24,go_sem,b2.1]) rfl ?_;rw[HX.out];exact⟨_,rfl,⟨_,_,rfl,lu,(SS.fc (ru.va3 hg2 vbb.1) (b:=w.heap.size) (λb hb=>hb) _ _ _ _).mono λ_ _=>trivial,(SS.fc (qu.va3 hg2 vbb.2) (b:=w.heap.size) (λb hb=>hb) _ _ _ _).mono λ_ _=>trivial⟩,Below.fc bW (b:=w.heap.size) (nl _) _ _ _ _⟩
 · rw[if_pos h] at dZ
   have HX:=Lib.hid dZ;obtain⟨g1,g2⟩:=bC h;generalize bP l ag=AS at *;obtain⟨p,c,rfl,_⟩:=hl.shape;obtain⟨q,cq,rfl,_⟩:=hn.shape;clear dZ h hl hn;go_enter Tryz.func24,Tryz.ntmps24;go_wp2_with (go_at_call 60;refine HA.mono ?_;clear HA;rintro e w1 ⟨rfl,ay⟩;have bJ:=Ky.trans (af ay (by simp));have b1:=aU (ah Ws ay));refine bodyPost_ret (v:=.tuple #[.agg #[.bool false,.slice none 0 0,str [],.slice none 0 0],.int .i64 AS]) (by simp[results,Tryz.results24,go_sem,b1.1]) rfl ?_;rw[HX.out];exact⟨_,rfl,aT.zero _ _,Below.fc bJ (b:=w.heap.size) (nl _) _ _ _ _⟩
end Go.Proofs.YtakgjcfkdemipaaGreatDoor
namespace Go.Proofs.YtakgjcfkdemipaaGreatDoor
open Go Go.RowKit
theorem vab {R:List aG} {A:List UInt8} (h:∀o∈R,(bZ o.sig A).2=0):va2 R A=(R.map λo=>⟨o.name,(bZ o.sig A).1⟩,0):=by
 unfold va2
 rw[if_pos (List.all_eq_true.2 λo ho=>decide_eq_true (h o ho))]
theorem vac {R:List aG} {A:List UInt8} {x:aG} (hx:x∈R) (h:(bZ x.sig A).2≠0):va2 R A=([],2):=by
 unfold va2
 rw[if_neg]
 intro ha
 exact h (of_decide_eq_true (List.all_eq_true.1 ha x hx))
set_option maxRecDepth 8000 in
theorem vad {D D':Nat→Prop} (l:List aB) (ag:List aG) (lv nv:Value) (t:List UInt8) (w:World) (hl:aZ D w lv l) (hn:aJ D' w nv ag) (htl:t.length≤maxLen):
 Calls Tryz.prog 22 #[lv,nv,str t] w λe w'=>∃u,e=.returned (.tuple #[u,.int .i64 (nG l ag t).2])∧aJ Any w' u (nG l ag t).1∧Below w.heap.size w w':=by
 have HA:=uZ l (Bl l) lv ag nv w hl hn
 have HP:=λW (hW:Below w.heap.size w W)=>DA ag nv t W (hn.below hW (nl _)) htl
 have HG:=λ(fW:qm ⟨l,ag,dX ag t⟩) W (hW:Below w.heap.size w W)=>rK ⟨l,ag,dX ag t⟩ fW lv nv t W (hl.below hW (nl _)) (hn.below hW (nl _)) htl
 have VF:=λh0 h1 h7 W (hW:Below w.heap.size w W)=>F6 ⟨l,ag,dX ag t⟩ lv nv t W (hl.below hW (nl _)) (hn.below hW (nl _)) h0 h1 h7
 have dZ:nG l ag t=if gU l ag t≠0 then([],gU l ag t) else Jb ⟨l,ag,dX ag t⟩ t:=rfl
 have ZC:gU l ag t=if bP l ag≠0 then bP l ag else dx ⟨l,ag,dX ag t⟩ t:=rfl
 have hro:=λfW hg=>vag (c:=⟨l,ag,dX ag t⟩) (t:=t) fW hg
 have vb0:=λfW h0=>F1 (c:=⟨l,ag,dX ag t⟩) (t:=t) fW h0
 have hir:=λ(fW:qm ⟨l,ag,dX ag t⟩) h0=>vak ⟨l,ag,dX ag t⟩ fW.1 fW.2 (t:=t) h0
 have Zw:=λh0=>(jg _).trans (x8 ⟨l,ag,dX ag t⟩ (t:=t) h0)
 have O2:=λ(fW:qm ⟨l,ag,dX ag t⟩) h0=>FX ⟨l,ag,dX ag t⟩ t fW.1 fW.2 (qP h0).2.2.2.1
 simp only at HG VF hro
 generalize nG l ag t=RS at *
 by_cases ha:bP l ag=0
 case neg=>
  rw[if_pos ha] at ZC;rw[ZC,if_pos ha] at dZ;have HX:=Lib.hid dZ;obtain⟨g1,g2⟩:=bC ha;have g3:((bP l ag:Int)==0)=false:=by rw[beq_eq_false_iff_ne];omega
  generalize bP l ag=AS at *;obtain⟨p,c,rfl,_⟩:=hl.shape;obtain⟨q,cq,rfl,_⟩:=hn.shape;clear dZ ZC ha hl hn HP HG VF hro vb0 hir Zw O2;go_enter Tryz.func22,Tryz.ntmps22;go_wp2_with (go_at_call 60;refine HA.mono ?_;clear HA;rintro e w1 ⟨rfl,ay⟩);go_ret2;rw[HX.out];exact⟨_,rfl,aJ.nil _ _ _ _,ay⟩
 case pos=>
 have fW:=wQ (par:=dX ag t) ha
 rw[if_neg (by simp[ha])] at ZC
 rw[ZC] at dZ
 rw[ha] at HA
 replace HG:=HG fW
 by_cases h0:dx ⟨l,ag,dX ag t⟩ t=0
 case neg=>
  rw[if_pos h0] at dZ;have HX:=Lib.hid dZ;obtain⟨g1,g2⟩:=bC h0;generalize dx ⟨l,ag,dX ag t⟩ t=GK at *;generalize dX ag t=P at *;obtain⟨p,c,rfl,_⟩:=hl.shape;obtain⟨q,cq,rfl,_⟩:=hn.shape;clear dZ ZC ha fW h0 hl hn VF hro vb0 hir Zw O2;go_enter Tryz.func22,Tryz.ntmps22;go_wp2_with (first
   | (go_at_call 68;refine(HG _ bW).mono ?_;clear HG;rintro e w3 ⟨rfl,aK⟩;have dg:=bW.trans (af aK bW.size))
   | (go_at_call 69;refine(HP _ ay).mono ?_;clear HP;rintro e w2 ⟨rfl,aA⟩;have bW:=ay.trans (af aA ay.size))
   | (go_at_call 60;refine HA.mono ?_;clear HA;rintro e w1 ⟨rfl,ay⟩))
  go_ret2;rw[HX.out];exact⟨_,rfl,aJ.nil _ _ _ _,dg⟩
 case pos =>
  obtain⟨k0,k1,k7⟩:=hro fW h0;rw[if_neg (by simp[h0]),hir fW k0] at dZ;rw[h0] at HG
  replace VF:=VF k0 k1 k7
  obtain⟨ZA,vb3⟩:=vb0 fW k0
  replace Zw:=Zw k0
  have GD:=(Zw.length_eq▸O2 fW k0:(cN (nI ⟨l,ag,dX ag t⟩ t)).length≤1000);have hrl:∀x∈cN (nI ⟨l,ag,dX ag t⟩ t),x.sig.args.length≤100000:=λx hx=>(vb3 x (Zw.mem_iff.1 hx)).1
  generalize cN (nI ⟨l,ag,dX ag t⟩ t)=R at *;generalize (cG ⟨l,ag,dX ag t⟩ t).2=A at *;have vb5:=Lib.hid hrl;have HX:=Lib.hid dZ;generalize dX ag t=P at *;obtain⟨p,c,rfl,_⟩:=hl.shape;obtain⟨q,cq,rfl,_⟩:=hn.shape;clear dZ ZC ha h0 hl hn fW hro vb0 hir Zw O2 hrl vb3 k0 k1 k7;go_enter Tryz.func22,Tryz.ntmps22;go_wp2_with (first
   | (go_at_call 70;refine(VF _ dg).mono ?_;clear VF;rintro e w4 ⟨vr,rfl,hR,hb4⟩;obtain⟨pR,cR,rfl,Zh⟩:=hR.shape;have dH:=dg.trans (af hb4 dg.size))
   | (go_at_call 68;refine(HG _ bW).mono ?_;clear HG;rintro e w3 ⟨rfl,aK⟩;have dg:=bW.trans (af aK bW.size))
   | (go_at_call 69;refine(HP _ ay).mono ?_;clear HP;rintro e w2 ⟨rfl,aA⟩;have bW:=ay.trans (af aA ay.size))
   | (go_at_call 60;refine HA.mono ?_;clear HA;rintro e w1 ⟨rfl,ay⟩))
  unfold maxLen at Zh;clear ay aA aK hb4 bW dg;go_loopw [10,11] (λv a wx=>∃i:Nat,i≤R.length∧a=.int .i64 i∧Below w4.heap.size w4 wx∧Hid (∀o∈R.take i,(bZ o.sig A).2=0)∧dU w4.heap.size wx v ((R.take i).map λo=>⟨o.name,(bZ o.sig A).1⟩)) (λ_ a _=>R.length - (intOf a).toNat)
  case atStart=>exact⟨0,Nat.zero_le _,by go_num,Below.refl _ _,(λo ho=>by simp at ho),dU.nil _ _⟩
  case round =>
   obtain⟨i,hi,rfl,hb,hp,hown⟩:=hrel;have Aj:=dH.trans (af hb dH.size)
   by_cases hlt:i<R.length
   case neg=>
    obtain rfl:i=R.length:=by omega
    have HY:=Lib.hid (show RS=(R.map λo=>⟨o.name,(bZ o.sig A).1⟩,0) by rw[HX.out,vab (by have:=hp.out;rwa [List.take_length] at this)]);rw[List.take_length] at hown;obtain⟨pv,cv,rfl⟩:=hown.shape;generalize (R.map λo:aG=>(⟨o.name,(bZ o.sig A).1⟩:aG))=LL at *;clear hp;go_wp2_with fail;go_ret2;rw[HY.out];exact⟨_,rfl,hown.uN.mono λ_ _=>trivial,Aj⟩
   case pos=>
    obtain⟨pv,cv,rfl⟩:=hown.shape;obtain⟨x,hkx⟩:∃x,R[i]? =some x:=⟨_,List.getElem?_eq_getElem hlt⟩
    obtain⟨b1,o1,pa,qa,rfl,⟨Az,kC⟩,Uh,Uj,d0,d1,d2,d3,d4,d5⟩:=hR.at hkx;have hxl:=vb5.out x (List.mem_of_getElem? hkx);have S1:=BA (.agg #[str x.name,.bool x.sig.iter,pa,str x.sig.res,qa,str A]) x A wr ⟨_,_,rfl,⟨Az,kC⟩,Uh.fresh.below hb (nl _),Uj.fresh.below hb (nl _)⟩ ZA hxl;obtain⟨p5,c5,rfl,_⟩:=Uh.shape;obtain⟨p6,c6,rfl,_⟩:=Uj.shape
    replace d0:=Below.keep hb d0
    replace d1:=Below.keep hb d1
    replace d2:=Below.keep hb d2
    replace d3:=Below.keep hb d3
    replace d4:=Below.keep hb d4
    replace d5:=Below.keep hb d5
    by_cases hz:(bZ x.sig A).2=0
    case neg=>
     have HY:=Lib.hid (show RS=([],2) by rw[HX.out,vac (List.mem_of_getElem? hkx) hz]);rw[decide_eq_false hz] at S1;clear hp hown hkx Uh Uj HX hR hz;generalize bZ x.sig A=PK at *;go_wp2_with (go_at_call 71;refine S1.mono ?_;clear S1;rintro e w5 ⟨u,rfl,⟨av,sv,rfl,lu,ru,qu⟩,cW⟩;obtain⟨vct,c7,rfl,_⟩:=ru.shape;obtain⟨vcu,c8,rfl,_⟩:=qu.shape;have iq:=(Aj.trans (af cW Aj.size)).alloc (Nat.le_trans Aj.size cW.size) (.cells #[.bool PK.1.iter,.slice vct PK.1.args.length c7,str PK.1.res,.slice vcu PK.1.sigs.length c8] 36));go_ret2;rw[HY.out];exact⟨_,rfl,aJ.nil _ _ _ _,iq⟩
    case pos=>
     have pG:=Lib.hid (show((R.take i).map λo:aG=>(⟨o.name,(bZ o.sig A).1⟩:aG))++[⟨x.name,(bZ x.sig A).1⟩]=(R.take (i+1)).map λo:aG=>(⟨o.name,(bZ o.sig A).1⟩:aG) by rw[List.take_add_one,hkx];simp);have hp2:Hid (∀o∈R.take (i+1),(bZ o.sig A).2=0):=by
      intro o ho;rw[List.take_add_one,hkx] at ho;rcases List.mem_append.1 ho with h|h
      · exact hp.out o h
      · simp at h;rw[h];exact hz
     have vc9:((R.take i).map λo:aG=>(⟨o.name,(bZ o.sig A).1⟩:aG)).length+1≤1000:=by rw[List.length_map,List.length_take];omega
     rw[decide_eq_true hz] at S1;generalize vbz:((R.take i).map λo:aG=>(⟨o.name,(bZ o.sig A).1⟩:aG))=L at *;generalize vc0:bZ x.sig A=PK at *;clear hp hkx Uh Uj HX hR hz vbz vc0;go_upto_region 14 with(go_at_call 71;refine S1.mono ?_;clear S1;rintro e w5 ⟨u,rfl,⟨av,sv,rfl,lu,ru,qu⟩,cW⟩;obtain⟨vct,c7,rfl,_⟩:=ru.shape;obtain⟨vcu,c8,rfl,_⟩:=qu.shape);have zC:=(Below.refl _ w5).alloc (nl _) (.cells #[.bool PK.1.iter,.slice vct PK.1.args.length c7,str PK.1.res,.slice vcu PK.1.sigs.length c8] 36);have Io:=heap_alloc_new w5 (.cells #[.bool PK.1.iter,.slice vct PK.1.args.length c7,str PK.1.res,.slice vcu PK.1.sigs.length c8] 36);have vax:=cW.trans (af zC cW.size);have dJ:=hown.below vax (nl _);have Kc:=Below.keep vax d0;have hD:∀b,(wr.heap.size≤b∨(Any b∧b<w4.heap.size)∧b<wr.heap.size)→(Value.slice pv L.length cv).ownBlock≠some b:=λb aA e=>by
      have:=hown.lt e;rcases aA with aA|aA
      · omega
      · have:=aA.1.2;omega
     have vbf:=ru.below zC (nl _);have vbe:=qu.below zC (nl _);have vb6:=hb.trans (af vax hb.size);clear cW vax zC d0 d1 d2 d3 d4 d5 ru qu hown;generalize vc7:w5.heap.size=vcd at *;generalize w5.alloc (.cells #[.bool PK.1.iter,.slice vct PK.1.args.length c7,str PK.1.res,.slice vcu PK.1.sigs.length c8] 36)=W at *;obtain⟨vci,Sg⟩:∃vci:Nat→Prop,vci=λb=>wr.heap.size≤b∨(Any b∧b<w4.heap.size)∧b<wr.heap.size:=⟨_,rfl⟩
     rw[←Sg] at vbf vbe;have vby:∀b,vci b→(Value.slice pv L.length cv).ownBlock≠some b:=by rw[Sg];exact hD
     clear Sg hD;refine mK (S:=λw'=>w'.cell? ⟨b1,o1+i * 6,none⟩=some (str x.name)∧w'.heap[vcd]? =some (.cells #[.bool PK.1.iter,.slice vct PK.1.args.length c7,str PK.1.res,.slice vcu PK.1.sigs.length c8] 36 (0,0))∧dU w4.heap.size w' (.slice pv L.length cv) L∧SS vci w' (.slice vct PK.1.args.length c7) PK.1.args∧SS vci w' (.slice vcu PK.1.sigs.length c8) PK.1.sigs∧Below W.heap.size W w') (A:=λj v w'=>match j with
      | 0=>v=.slice pv L.length cv
      | 1=>v=.slice (some ⟨b1,o1,none⟩) R.length cR
      | 2=>v=.int .i64 i
      | 3=>v=.pointer (some ⟨b1,o1+i * 6,none⟩)
      | 4=>v=.pointer (some ⟨b1,o1+i * 6,none⟩)
      | 5=>v=.pointer (some ⟨b1,o1+i * 6,none⟩)
      | 6=>v=str x.name
      | 7=>v=.agg #[.bool PK.1.iter,.slice vct PK.1.args.length c7,str PK.1.res,.slice vcu PK.1.sigs.length c8]
      | 8=>v=.agg #[str x.name,.bool PK.1.iter,.slice vct PK.1.args.length c7,str PK.1.res,.slice vcu PK.1.sigs.length c8]
      | 9=>oB vci W.heap.size w' v [⟨x.name,PK.1⟩]
      | _=>True) 10 (by kernel_rfl) (by decide) (by kernel_rfl) (by kernel_rfl) (by kernel_rfl) ?_ (λw1 w2 h hb=>⟨Below.keep hb h.1,ah h.2.1 hb,h.2.2.1.below hb (nl _),h.2.2.2.1.below hb (nl _),h.2.2.2.2.1.below hb (nl _),h.2.2.2.2.2.trans (af hb h.2.2.2.2.2.size)⟩) ⟨Below.keep (Below.refl _ W).drew Kc,Io,dJ.below (Below.refl _ W).drew (nl _),vbf.below (Below.refl _ W).drew (nl _),vbe.below (Below.refl _ W).drew (nl _),(Below.refl _ _).drew⟩ (sH ⟨?_,?_,?_,?_,?_,?_,?_,?_,?_,?_,trivial⟩) ?_
     · intro j v w1 w2 h hb
       match j with
       | 0=>exact h
       | 1=>exact h
       | 2=>exact h
       | 3=>exact h
       | 4=>exact h
       | 5=>exact h
       | 6=>exact h
       | 7=>exact h
       | 8=>exact h
       | 9=>exact oB.below (show oB vci W.heap.size w1 v [⟨x.name,PK.1⟩] from h) hb (nl _)
       | _+10=>trivial
     · intro a wx hS hd ho next hn
       have Yd:a.tmps[10]?.getD undef=.slice pv L.length cv:=bA (ho 10 (gO (by kernel_rfl)));clear hd ho;unfold Oper.wp;simp only[execOp];simp[go_sem,Yd];exact hn _ _ rfl (Below.refl _ _)
     · intro a wx hS hd ho next hn
       have e9:a.tmps[9]?.getD undef=.slice (some ⟨b1,o1,none⟩) R.length cR:=bA (ho 9 (gO (by kernel_rfl)));clear hd ho;unfold Oper.wp;simp only[execOp];simp[go_sem,e9];exact hn _ _ rfl (Below.refl _ _)
     · intro a wx hS hd ho next hn
       have vbo:a.tmps[11]?.getD undef=.int .i64 i:=bA (ho 11 (gO (by kernel_rfl)));clear hd ho;unfold Oper.wp;simp only[execOp];simp[go_sem,vbo];exact hn _ _ rfl (Below.refl _ _)
     · intro a wx hS hd ho next hn
       have vbq:a.tmps[50]?.getD undef=.slice (some ⟨b1,o1,none⟩) R.length cR:=bA (hd {on:=1,ground:=.data } (by simp) rfl _ 50 rfl rfl);have vbr:a.tmps[51]?.getD undef=.int .i64 i:=bA (hd {on:=2,ground:=.data } (by simp) rfl _ 51 rfl rfl);clear hd ho;unfold Oper.wp;simp only[execOp];simp[go_sem,vbq,vbr,hlt];exact hn _ _ rfl (Below.refl _ _)
     · intro a wx hS hd ho next hn
       have vbs:a.tmps[52]?.getD undef=.pointer (some ⟨b1,o1+i * 6,none⟩):=bA (hd {on:=3,ground:=.data } (by simp) rfl _ 52 rfl rfl);clear hd ho;unfold Oper.wp;simp only[execOp];simp[go_sem,vbs];exact hn _ _ rfl (Below.refl _ _)
     · intro a wx hS hd ho next hn
       have vbt:a.tmps[53]?.getD undef=.pointer (some ⟨b1,o1+i * 6,none⟩):=bA (hd {on:=4,ground:=.data } (by simp) rfl _ 53 rfl rfl);clear hd ho;unfold Oper.wp;simp only[execOp];simp[go_sem,vbt];exact hn _ _ rfl (Below.refl _ _)
     · intro a wx hS hd ho next hn
       have vbu:a.tmps[54]?.getD undef=.pointer (some ⟨b1,o1+i * 6,none⟩):=bA (hd {on:=5,ground:=.data } (by simp) rfl _ 54 rfl rfl);clear hd ho;unfold Oper.wp;simp only[execOp];simp[go_sem,vbu,hS.1];exact hn _ _ rfl (Below.refl _ _)
     · intro a wx hS hd ho next hn
       have vbp:a.tmps[12]?.getD undef=.pointer (some ⟨vcd,0,none⟩):=bA (ho 12 (gO (by kernel_rfl)));have hc:=(aU hS.2.1).1;clear hd ho;unfold Oper.wp;simp only[execOp];simp[go_sem,vbp,hc];exact hn _ _ rfl (Below.refl _ _)
     · intro a wx hS hd ho next hn
       have vbv:a.tmps[55]?.getD undef=str x.name:=bA (hd {on:=6,ground:=.data } (by simp) rfl _ 55 rfl rfl);have vbw:a.tmps[56]?.getD undef=.agg #[.bool PK.1.iter,.slice vct PK.1.args.length c7,str PK.1.res,.slice vcu PK.1.sigs.length c8]:=bA (hd {on:=7,ground:=.data } (by simp) rfl _ 56 rfl rfl);clear hd ho;unfold Oper.wp;simp only[execOp];simp[go_sem,vbv,vbw];exact hn _ _ rfl (Below.refl _ _)
     · intro a wx hS hd ho next hn
       have vbx:a.tmps[57]?.getD undef=.agg #[str x.name,.bool PK.1.iter,.slice vct PK.1.args.length c7,str PK.1.res,.slice vcu PK.1.sigs.length c8]:=bA (hd {on:=8,ground:=.data } (by simp) rfl _ 57 rfl rfl);clear hd ho;unfold Oper.wp;simp only[execOp];simp[go_sem,vbx];exact hn _ _ (Bw (D:=vci) wx hS.2.2.2.2.2.size rfl (by unfold maxLen;simp) ⟨_,_,_,rfl,⟨Az,lu⟩,hS.2.2.2.1,hS.2.2.2.2.1,rfl⟩) ((Below.refl _ _).alloc (nl _) _)
     · intro a wx hdf hsz hout hS hA
       have eL:a.tmps.getD 49 undef=.slice pv L.length cv:=hA 0 _ 49 (by decide) rfl rfl;have hR:oB vci W.heap.size wx (a.tmps.getD 58 undef) [⟨x.name,PK.1⟩]:=hA 9 _ 58 (by decide) rfl rfl;obtain⟨pR,vbn,eR⟩:=hR.shape;rw[eR] at hR;have ha:=qW hdf hsz hout;rw[ha];simp only[List.take_succ_cons,List.take_zero,dQ,eL,eR,pz,pw];clear ha hA hout hdf hsz
       show wpAny _ _ _ _ (1+1) _ _ _
       refine wpAny_ready (rs:=[10]) (by kernel_rfl) (by simp) (AllReady.cons rfl (λK' hK=>?_) AllReady.nil);rw[if_pos (by kernel_rfl)];refine wL (.tmp 49) (.tmp 58) rfl (v:=.slice pv L.length cv) (y:=.slice pR 1 vbn) (by simp[Act.eval]) (by simp[Act.eval]) hS.2.2.1 hR (by simp) vby (by simp;omega) (Nat.le_trans vb6.size hS.2.2.2.2.2.size) (λv' w5 h5 cW=>hK _ _ ?_);simp only[Act.put,List.setIfInBounds_toArray];refine wpAny_ready (fuel:=0) (rs:=[10+1]) (by kernel_rfl) (by simp) (AllReady.cons rfl (λK' hK=>?_) AllReady.nil);rw[if_pos (by kernel_rfl)];unfold Oper.wp;simp only[execOp];simp[go_sem];refine hK _ _ (wpAny_done (by kernel_rfl) ?_ _);go_wp2_with fail;refine⟨⟨i+1,hlt,by go_num,(vb6.trans (af hS.2.2.2.2.2 vb6.size)).trans cW,hp2,pG.out▸h5⟩,by simp only[intOf];omega⟩
end Go.Proofs.YtakgjcfkdemipaaGreatDoor
namespace Go.Proofs.YtakgjcfkdemipaaGreatDoor
open Go Go.RowKit
theorem vaa {l:List aB} (h:qq l=true):∀f∈l,f.ag.length≤100000:=λf hf=>by
 rw[Ku,Bool.and_eq_true,List.all_eq_true] at h
 have h1:=h.1 f hf
 unfold jT r8 ir at h1
 simp only[Bool.and_eq_true,decide_eq_true_eq] at h1
 omega
set_option maxRecDepth 8000 in
theorem vaj (l:List aB) (ag:List aG) (t n:List UInt8) (lv nv:Value) (w:World) (hT:fN w) (hl:aZ Any w lv l) (hn:aJ Any w nv ag) (htl:t.length≤maxLen) (hnl:n.length≤maxLen):
 Calls Tryz.prog 4 #[lv,nv,str t,str n] w λe w'=>e=.returned (.bool true)∧Below w.heap.size w w':=by
 obtain⟨lp,lc,rfl,_⟩:=hl.shape
 obtain⟨np,nc,rfl,_⟩:=hn.shape
 have hA:=Below.refl w.heap.size w
 have HT:=Lib.hid (λW (hW:Below w.heap.size w W)=>hT.below hW (nl _))
 have HS:=λW hW=>Gg W (HT.out W hW)
 have HF:=λW (hW:Below w.heap.size w W)=>I5 l _ W (hl.below hW (nl _))
 have H1:=λW (hW:Below w.heap.size w W)=>sr ag _ W (hn.below hW (nl _))
 have HH:=λW=>iA [t,n] (.slice (some ⟨W.heap.size,0,none⟩) 2 2) (W.alloc (.cells #[str t,str n] 9)) (BJ (D:=Any) W W.heap.size rfl trivial [t,n] (by simp[maxLen]) (by intro s hs;simp only[List.mem_cons,List.not_mem_nil,or_false] at hs;rcases hs with rfl|rfl<;>assumption) 9)
 rcases q1:qq l with _|_
 · rw[q1] at HF
   clear H1 HH q1 hl hn;go_enter Tryz.func4,Tryz.ntmps4;go_wp2_with (first
    | (go_at_call 18;refine(HS w1 B1).mono ?_;rintro e w99 ⟨rfl,vap⟩)
    | (go_at_call 15;refine(HF w hA).mono ?_;clear HF;rintro e w1 ⟨rfl,ay⟩;have B1:=hA.trans ay))
   go_ret;exact⟨rfl,B1.trans (af vap B1.size)⟩
 rw[q1] at HF
 rcases q2:ir ag with _|_
 · rw[q2] at H1
   clear HH q1 q2 hl hn;go_enter Tryz.func4,Tryz.ntmps4;go_wp2_with (first
    | (go_at_call 18;refine(HS w2 B2).mono ?_;rintro e w99 ⟨rfl,vap⟩)
    | (go_at_call 16;refine(H1 w1 B1).mono ?_;clear H1;rintro e w2 ⟨rfl,aA⟩;have B2:=B1.trans (af aA B1.size))
    | (go_at_call 15;refine(HF w hA).mono ?_;clear HF;rintro e w1 ⟨rfl,ay⟩;have B1:=hA.trans ay))
   go_ret;exact⟨rfl,B2.trans (af vap B2.size)⟩
 rw[q2] at H1
 have hfn:=vaa q1
 have hne:ag.length≤6:=by unfold ir at q2;simp only[Bool.and_eq_true,decide_eq_true_eq] at q2;exact q2.2
 clear q1 q2
 rcases q9:fh [t,n] with _|_
 · rw[q9] at HH
   clear q9 hl hn hfn hne;go_enter Tryz.func4,Tryz.ntmps4;go_wp2_with (first
    | (go_at_call 18;refine(HS w3 B3).mono ?_;rintro e w99 ⟨rfl,vap⟩)
    | (go_at_call 17;refine(HH w2).mono ?_;clear HH;rintro e w3 ⟨rfl,aK⟩;have B3:=(B2.alloc B2.size (.cells #[str t,str n] 9)).trans (af aK (B2.alloc B2.size (.cells #[str t,str n] 9)).size))
    | (go_at_call 16;refine(H1 w1 B1).mono ?_;clear H1;rintro e w2 ⟨rfl,aA⟩;have B2:=B1.trans (af aA B1.size))
    | (go_at_call 15;refine(HF w hA).mono ?_;clear HF;rintro e w1 ⟨rfl,ay⟩;have B1:=hA.trans ay))
   go_ret;exact⟨rfl,B3.trans (af vap B3.size)⟩
 rw[q9] at HH
 clear q9
 have vce:=λW (hW:Below w.heap.size w W)=>FJ l _ ag _ t W (HT.out W hW) (hl.below hW (nl _)) (hn.below hW (nl _)) hfn (by omega) htl
 have vcf:=λW (hW:Below w.heap.size w W)=>vad l ag _ _ t W (hl.below hW (nl _)) (hn.below hW (nl _)) htl
 have vcg:=λW (hW:Below w.heap.size w W)=>Bc l _ ag _ t n W (HT.out W hW) (hl.below hW (nl _)) (hn.below hW (nl _)) hfn (by omega) htl
 have vch:=λW (hW:Below w.heap.size w W)=>van l ag _ _ t n W (hl.below hW (nl _)) (hn.below hW (nl _)) htl
 clear hl hn hfn hne
 generalize nG l ag t=Y at vce vcf
 generalize lC l ag t n=X at vcg vch
 have O2:=Lib.hid ((oy X.1 X.1).2 rfl)
 go_enter Tryz.func4,Tryz.ntmps4
 go_wp2_with (first
  | (go_at_call 26;refine(nK X.1 X.1 _ _ w9 (vbl.below Kb (nl _)) (vbm.below Kb (nl _))).mono ?_;rintro e Cg ⟨he,Ij⟩;rw[O2.out] at he;subst he;have Vw:=B9.trans (af Ij B9.size))
  | (go_at_call 25;refine(Ld Y.1 Y.1 _ _ w8 vbj vbk).mono ?_;rintro e w9 ⟨he,Kb⟩;rw[decide_eq_true (rfl:Y.1=Y.1)] at he;subst he;have B9:=B8.trans (af Kb B8.size);have x6:=aU (ah K6 Kb);have x7:=aU (ah vcn Kb))
  | (go_at_call 18;refine(HS _ B7).mono ?_;rintro e w8 ⟨rfl,xh⟩;have B8:=B7.trans (af xh B7.size);have vbl:=((vcq.below qw (nl _)).below vck (nl _)).below xh (nl _);have vbm:=vcr.below xh (nl _);have vbj:=(((((vco.below cW (nl _)).below jw (nl _)).below vcj (nl _)).below qw (nl _)).below vck (nl _)).below xh (nl _);have vbk:=((((vcp.below jw (nl _)).below vcj (nl _)).below qw (nl _)).below vck (nl _)).below xh (nl _);have K6:=ah (aH (.cells #[.bool X.1.iter,.slice vct X.1.args.length c7,str X.1.res,.slice r7 X.1.sigs.length d7] 36) (ah vcl qw)) xh;have vcn:=ah vcm xh)
  | (go_at_call 24;refine(vch _ B6).mono ?_;clear vch;rintro e w7 ⟨u,rfl,⟨vc4,vcc,rfl,vbi,vba,vb8⟩,qw⟩;obtain⟨vct,c7,rfl,_⟩:=vba.shape;obtain⟨r7,d7,rfl,_⟩:=vb8.shape;have vck:=(Below.refl _ w7).alloc (nl _) (.cells #[.bool X.1.iter,.slice vct X.1.args.length c7,str X.1.res,.slice r7 X.1.sigs.length d7] 36);have vcm:=heap_alloc_new w7 (.cells #[.bool X.1.iter,.slice vct X.1.args.length c7,str X.1.res,.slice r7 X.1.sigs.length d7] 36);have vcr:=aT.below ⟨_,_,rfl,vbi,vba,vb8⟩ vck (nl _);have B7:=(B6.trans (af qw B6.size)).alloc (Nat.le_trans B6.size qw.size) (.cells #[.bool X.1.iter,.slice vct X.1.args.length c7,str X.1.res,.slice r7 X.1.sigs.length d7] 36);clear vbi vba vb8)
  | (go_at_call 23;refine(vcg _ B5).mono ?_;clear vcg;rintro e w6 ⟨u,rfl,⟨vc3,vcb,rfl,vbh,vb9,vb7⟩,jw⟩;obtain⟨p6,c6,rfl,_⟩:=vb9.shape;obtain⟨vcv,d6,rfl,_⟩:=vb7.shape;have vcj:=(Below.refl _ w6).alloc (nl _) (.cells #[.bool X.1.iter,.slice p6 X.1.args.length c6,str X.1.res,.slice vcv X.1.sigs.length d6] 36);have vcl:=heap_alloc_new w6 (.cells #[.bool X.1.iter,.slice p6 X.1.args.length c6,str X.1.res,.slice vcv X.1.sigs.length d6] 36);have vcq:=aT.below ⟨_,_,rfl,vbh,vb9,vb7⟩ vcj (nl _);have B6:=(B5.trans (af jw B5.size)).alloc (Nat.le_trans B5.size jw.size) (.cells #[.bool X.1.iter,.slice p6 X.1.args.length c6,str X.1.res,.slice vcv X.1.sigs.length d6] 36);clear vbh vb9 vb7)
  | (go_at_call 22;refine(vcf _ B4).mono ?_;clear vcf;rintro e w5 ⟨u5,rfl,vcp,cW⟩;obtain⟨q5,s5,rfl,_⟩:=vcp.shape;have B5:=B4.trans (af cW B4.size))
  | (go_at_call 21;refine(vce _ B3).mono ?_;clear vce;rintro e w4 ⟨u4,rfl,vbc,hb4⟩;have vco:=vbc.uN;obtain⟨q4,s4,rfl,_⟩:=vco.shape;clear vbc;have B4:=B3.trans (af hb4 B3.size))
  | (go_at_call 17;refine(HH w2).mono ?_;clear HH;rintro e w3 ⟨rfl,aK⟩;have B3:=(B2.alloc B2.size (.cells #[str t,str n] 9)).trans (af aK (B2.alloc B2.size (.cells #[str t,str n] 9)).size))
  | (go_at_call 16;refine(H1 w1 B1).mono ?_;clear H1;rintro e w2 ⟨rfl,aA⟩;have B2:=B1.trans (af aA B1.size))
  | (go_at_call 15;refine(HF w hA).mono ?_;clear HF;rintro e w1 ⟨rfl,ay⟩;have B1:=hA.trans ay))
 go_ret
 exact⟨by simp,Vw⟩
end Go.Proofs.YtakgjcfkdemipaaGreatDoor
