/-
  Lemmas for the statement: put, where all are types (plain): its one error. Operations put and sorted; found by name. Contracts of the reference argusref04: OpIn, OpOf, OpsOf. Conditions: bounds of lengths; the variable strings.asciiSpace.
-/
import Derived.Test.YtakgjcfkdemipaaGreatDoorZG30
import Derived.Test.YtakgjcfkdemipaaGreatDoorZG36
import Derived.Test.YtakgjcfkdemipaaGreatDoorZGn
set_option maxHeartbeats 25600000
namespace Go.Proofs.YtakgjcfkdemipaaGreatDoor
open Go.RowKit
theorem va2 {s u:List UInt8} (hs:(aq s).1=0) (hu:(aq u).1=0):(aQ s u).2=0∨(aQ s u).2=2:=by
 rcases h1:aq s with⟨c,T⟩
 rcases h2:aq u with⟨d,A⟩
 rw[h1] at hs
 rw[h2] at hu
 simp only at hs hu
 subst hs hu
 rw[BS h1 h2]
 unfold ij
 split
 · exact .inr rfl
 · exact .inl rfl
theorem va4 {a:List UInt8} (ha:(aq a).1=0):∀l:List (List UInt8),(∀t∈l,(aq t).1=0)→(jD a l).2=0∨(jD a l).2=2
 | [],_=>.inl rfl
 | t::l,h=>by
  have h1:=va2 (h t (List.mem_cons_self ..)) ha;have h2:=va4 ha l λx hx=>h x (List.mem_cons_of_mem _ hx)
  unfold jD;split
  · split
    · exact .inl rfl
    · exact h2
  · exact h1
theorem vad {s:cD} {a:List UInt8} (hs:∀t∈aI s,(aq t).1=0) (ha:a=[]∨(aq a).1=0):(bZ s a).2=0∨bZ s a=(.zero,2):=by
 unfold bZ
 by_cases h0:a=[]
 · rw[if_pos h0];exact .inl rfl
 rw[if_neg h0]
 have hc:(aq a).1=0:=ha.resolve_left h0
 have h1:=va4 hc s.args λt ht=>hs t (by unfold aI;exact List.mem_append_left _ ht)
 by_cases h2:(jD a s.args).2=0
 · rw[if_neg (by simp[h2])]
   by_cases h3:s.res=[]
   · rw[if_pos h3];exact .inl rfl
   · rw[if_neg h3]
     have h4:=va2 (hs s.res (by unfold aI;rw[if_neg h3];simp)) hc
     by_cases h5:(aQ s.res a).2=0
     · rw[if_neg (by simp[h5])];exact .inl rfl
     · rw[if_pos h5,h4.resolve_left h5];exact .inr rfl
 · rw[if_pos h2,h1.resolve_left h2];exact .inr rfl
theorem vac (s:cD):bZ s []=(s,0):=by unfold bZ;rw[if_pos rfl]
theorem va0 {t:List UInt8} (h:(aq t).1=0):t≠[]:=by
 rintro rfl
 revert h
 decide+kernel
theorem vai {t b x:List UInt8} (h:aQ t b=(x,0)):x≠[]:=by
 obtain⟨T,A,h1,h2,h3,h4⟩:=JV h
 exact va0 (by rw[h4])
theorem va3 {a : List UInt8} : ∀ {l : List (List UInt8)}, (jD a l).2 = 0 → ∀ u ∈ (jD a l).1, ∃ v ∈ l, aQ v a = (u, 0)
 | [],_,u,hu=>by cases hu
 | t :: l, h, u, hu => by
  unfold jD at h hu;split at h
  · rename_i h1
    rw[if_pos h1] at hu;split at h
    · rename_i h2
      rw[if_pos h2] at hu;rcases List.mem_cons.1 hu with rfl|hu
      · exact⟨t,by simp,Prod.ext rfl h1⟩
      · obtain⟨v,hv,e⟩:=va3 h2 u hu
        exact⟨v,by simp[hv],e⟩
    · rename_i h2;exact absurd h h2
  · rename_i h1;exact absurd h h1
def va1 (s:cD):Prop:=(∀u∈s.args,u≠[])∧∀u∈s.sigs,u≠[]
theorem vae {s:cD} {a:List UInt8} (h:va1 s):va1 (bZ s a).1:=by
 have hz:va1 .zero:=⟨(λu hu=>by cases hu),(λu hu=>by cases hu)⟩
 unfold bZ
 split
 · exact h
 split
 · exact hz
 rename_i h1
 have hw:∀u∈(jD a s.args).1,u≠[]:=λu hu=>by
  obtain⟨v,_,e⟩:=va3 (Decidable.not_not.1 h1) u hu;exact vai e
 split
 · exact⟨hw,h.2⟩
 split
 · exact hz
 · exact⟨hw,h.2⟩
theorem vaf {s:cD} {o:Bool} (h:ek s o=true):va1 s:=by
 obtain⟨_,_,h1,_,h2⟩:=eC h
 refine⟨λu hu=>va0 (h2 u (by unfold aI;exact List.mem_append_left _ hu)).1,λu hu=>jm ((wP _ h1).1 u hu)⟩
end Go.Proofs.YtakgjcfkdemipaaGreatDoor
namespace Go.Proofs.YtakgjcfkdemipaaGreatDoor
open Go Go.RowKit
theorem SS.vab {w:World} {v:Value} {L:List (List UInt8)} {B:Nat} {t:TypeId} (h:SS Any w v L) (hB:w.heap[B]? =some (.cells #[.bool false,.slice none 0 0,.string ⟨#[]⟩,.slice none 0 0] t (0,0))) (hne:∀s∈L,s≠[]):SS (λb=>b≠B) w v L:=by
 obtain⟨p,c,h1,h2,h3,h4,h5⟩:=h
 refine⟨p,c,h1,h2,h3,h4,?_⟩
 rcases L with _|⟨s,L⟩
 · exact .inl rfl
 rcases h5 with h5|⟨b,o,e,_,h6,h7⟩
 · cases h5
 · refine .inr ⟨b,o,e,λhb=>?_,h6,h7⟩
   subst hb;have h8:=h7 0 (by simp);have hs:=hne s (List.mem_cons_self ..);have hb:=(aU hB).1;rcases o with _|_|_|_|o
   · rw[Nat.add_zero,hb.1] at h8;cases h8
   · rw[Nat.add_zero,hb.2.1] at h8;cases h8
   · rw[Nat.add_zero,hb.2.2.1] at h8
     injection h8 with h8;exact hs (by simpa[str] using h8.symm)
   · rw[Nat.add_zero,hb.2.2.2] at h8;cases h8
   · rw[show w.cell? ⟨b,o+1+1+1+1+0,none⟩=none by simp[World.cell?,hB]] at h8
     cases h8
end Go.Proofs.YtakgjcfkdemipaaGreatDoor
namespace Go.Proofs.YtakgjcfkdemipaaGreatDoor
open Go Go.RowKit
section
variable {D:Nat→Prop} {ops:Array Oper} {h:Nat} {V:List VS} {E:List (Nat×VS)} {S:World→Prop} {k:Nat} {o:Oper}
theorem vah {f:FuncId} {x y z t u:Operand} {tys:Array TypeId} {s s1 s2 s3 s4 s5:VS} (ho:o.op=.call {callee:=.value (.func f),args:= #[x,y,z,t,u],argTypes:=tys }) (en:∀args w,(callFunc f args).run Tryz.prog w=.ok (.enter f args) w)
 (hw:dN ops h V o=some true) (hk:V[k]? =some s) (hx:aM ops h V E o x=some s1) (hy:aM ops h V E o y=some s2) (hz:aM ops h V E o z=some s3) (ht:aM ops h V E o t=some s4) (hu:aM ops h V E o u=some s5)
 (hc:∀(v v2 v3 v4 v5:Value) (w:World),S w→s1.holds D w v→s2.holds D w v2→s3.holds D w v3→s4.holds D w v4→s5.holds D w v5→Calls Tryz.prog f #[v,v2,v3,v4,v5] w λe w'=>∃u,e=.returned u∧s.holds D w' u∧Below w.heap.size w w'):bX D Tryz.prog S ops h V E k o:=
 qN [(x,s1),(y,s2),(z,s3),(t,s4),(u,s5)] hw hk (by simp[hx,hy,hz,ht,hu]) λa w Q hS hi next hn=>by
  have h1:=hi (x,s1) (by simp);have h2:=hi (y,s2) (by simp);have h3:=hi (z,s3) (by simp);have h4:=hi (t,s4) (by simp);have h5:=hi (u,s5) (by simp);have hrun:(execOp a.eval o).run Tryz.prog w=.ok (.enter f #[a.eval x,a.eval y,a.eval z,a.eval t,a.eval u]) w:=by
   simp[execOp,ho,resolve,Deferred.ofValue,invoke,Act.eval,en]
  unfold Oper.wp;rw[hrun,Oper.upon_enter];refine(hc _ _ _ _ _ w hS h1 h2 h3 h4 h5).mono ?_;rintro e w' ⟨u,rfl,hu,hb⟩;exact hn u w' hu hb
end
def va6 (l:List aB) (ag:List aG) (n t:List UInt8):cD×Nat:=
 match ez l n with
 | none=>(.zero,5)
 | some f=>JC ⟨l,ag,dX ag t⟩ f t
theorem vag {l:List aB} {ag:List aG} (n t:List UInt8) (hf:∀f∈l,eU f=true):va1 (va6 l ag n t).1:=by
 have hz:va1 .zero:=⟨(λu hu=>by cases hu),(λu hu=>by cases hu)⟩
 unfold va6
 split
 · exact hz
 · rename_i f Y5
   unfold JC;split
   · exact hz
   split
   · exact hz
   split
   · exact hz
   split
   · exact hz
   · rename_i o os ho
     exact vae (vaf ((ec (hf f (List.mem_of_find?_eq_some Y5))).2.2.2.2.2.2.2.1 o (by rw[ho];simp)).2)
set_option maxRecDepth 8000 in
theorem va9 {D D' : Nat → Prop} (l : List aB) (ag : List aG) (lv nv : Value) (n t : List UInt8) (w : World) (fW : qm ⟨l, ag, dX ag t⟩) (hl : aZ D w lv l) (hn : aJ D' w nv ag) (htl : t.length ≤ maxLen) :
 Calls Tryz.prog 77 #[lv,nv,str n,str t] w λe w'=>∃u,e=.returned (.tuple #[u,.int .i64 (va6 l ag n t).2])∧aT Any w' u (va6 l ag n t).1∧Below w.heap.size w w':=by
 have Ky:=(Below.refl _ w).alloc (nl _) (.cells #[.bool false,.slice none 0 0,.string ⟨#[]⟩,.slice none 0 0] 36)
 have Ws:=heap_alloc_new w (.cells #[.bool false,.slice none 0 0,.string ⟨#[]⟩,.slice none 0 0] 36)
 have HA:=Ex l n lv _ (hl.below Ky (nl _))
 have dZ:va6 l ag n t=match ez l n with|none=>(.zero,5)|some f=>JC ⟨l,ag,dX ag t⟩ f t:=rfl
 generalize va6 l ag n t=RS at *
 rcases qC (j6 n) l 0 with⟨h1,h2⟩|⟨k,f,h1,h2,h3⟩
 · rw[kG] at h2
   rw[h2] at dZ;rw[h1] at HA;have HX:=Lib.hid dZ;obtain⟨p,c,rfl,_⟩:=hl.shape;obtain⟨q,cq,rfl,_⟩:=hn.shape;clear dZ h1 h2 hl hn fW;go_enter Tryz.func77,Tryz.ntmps77;go_wp2_with (go_at_call 95;refine HA.mono ?_;clear HA;rintro e w1 ⟨rfl,ay⟩;have bJ:=Ky.trans (af ay (by simp));have hg1:=ah Ws ay;have b1:=aU hg1);refine bodyPost_ret (v:=.tuple #[.agg #[.bool false,.slice none 0 0,str [],.slice none 0 0],.int .i64 5]) (by simp[results,Tryz.results77,go_sem,b1.1]) rfl ?_;rw[HX.out];exact⟨_,rfl,aT.zero _ _,Below.fc bJ (b:=w.heap.size) (nl _) _ _ _ _⟩
 · have HP := fun W (hW : Below w.heap.size w W) => DA ag nv t W (hn.below hW (nl _)) htl
   have HG:=λW (hW:Below w.heap.size w W)=>rK ⟨l,ag,dX ag t⟩ fW lv nv t W (hl.below hW (nl _)) (hn.below hW (nl _)) htl
   simp only at HG;rw[kG] at h2;rw[h2] at dZ;dsimp only at dZ;rw[h1,Nat.zero_add] at HA;have nY:=ec (fW.1 f (List.mem_of_getElem? h3));have Q5:k<l.length:=(List.getElem?_eq_some_iff.1 h3).1;have hki:¬((k:Int)<0):=by omega
   obtain⟨o,os,hop⟩:∃o os,f.ops=o::os:=by
    rcases hq:f.ops with _|⟨o,os⟩
    · have:=nY.2.2.2.2.2.1;rw[hq] at this;simp at this
    · exact⟨o,os,rfl⟩
   have hol:=eC (nY.2.2.2.2.2.2.2.1 o (by rw[hop];simp)).2;have Zt:0<f.ops.length:=by rw[hop];simp
   have HW:=λ(h0:t≠[]) x W (hx:aT (λb=>b<w.heap.size) W x o.sig)=>qd x o.sig t W hx h0 htl (by have:=hol.1;omega)
   have H2:=λ(h:(aq t).1=0)=>vad (s:=o.sig) (a:=t) (λu hu=>(hol.2.2.2.2 u hu).1) (.inr h)
   have sQ:=λW (hW:Below w.heap.size w W) (xv:Value) (hx:aJ D W xv f.ag) (h0:(aq t).1=0)=>yb ⟨l,ag,dX ag t⟩ 6 (nJ _ fW 7) fW lv nv xv f.ag t W (hl.below hW (nl _)) (hn.below hW (nl _)) hx (λo ho=>Nat.le_trans ((dr nY.2.2.2.1).2 o ho).1 (by decide)) h0 (va0 h0) (by have:=oh t;omega)
   have BX:=λ(h0:(aq t).1=0)=>(Ho ⟨l,ag,dX ag t⟩ f.ag t).symm.trans (Hj (c:=⟨l,ag,dX ag t⟩) (n:=7) (want:=f.ag) h0 (ve _ _ fW.1 fW.2))
   have HZ:=λh=>ry (c:=⟨l,ag,dX ag t⟩) (t:=t) h
   unfold JC at dZ;simp only at sQ;rw[hop] at dZ;dsimp only at dZ;obtain⟨p,c,rfl,hlc,hlm,_⟩:=hl.shape;obtain⟨q,cq,rfl,_⟩:=hn.shape;unfold maxLen at hlm;obtain⟨b1,o1,MC,NW,rfl,_,_,Al,CG,e0,e1,e2,e3,e4⟩:=hl.at h3;obtain⟨po,co,rfl,_⟩:=CG.shape;obtain⟨pn,cn,rfl,_⟩:=Al.shape;obtain⟨bo,oo,av,sv,rfl,_,kC,dy,cQ,d0,d1,d2,d3,d4⟩:=CG.at (k:=0) (x:=o) (by rw[hop];rfl);rw[Nat.zero_mul,Nat.add_zero] at d0 d1 d2 d3 d4;obtain⟨pa,ca,rfl,_⟩:=dy.shape;obtain⟨ps,cs,rfl,_⟩:=cQ.shape;have vb7:=nY.2.2.1;generalize OJ:dx ⟨l,ag,dX ag t⟩ t=GK at *;generalize DZ ⟨l,ag,dX ag t⟩ f.ag t=FK at *;generalize sJ ⟨l,ag,dX ag t⟩ 7 f.ag t=FI at *;generalize FI.isNone=vbh at *;generalize FI.getD []=FS at *;generalize dX ag t=P at *;have HN:=Lib.hid (λW (hW:Below w.heap.size w W)=>Al.below hW (nl _));have vaq:=Lib.hid (λW (hW:Below w.heap.size w W)=>(dy.fresh.below hW (nl _)).mono λb hb=>hb.2);have vas:=Lib.hid (λW (hW:Below w.heap.size w W)=>(cQ.fresh.below hW (nl _)).mono λb hb=>hb.2);have EI:=Lib.hid hop;clear hl hn fW h1 h2 h3 nY hop hol Al CG dy cQ OJ
   replace dZ:=Lib.hid dZ
   replace BX:=Lib.hid BX
   replace HZ:=Lib.hid HZ
   replace H2:=Lib.hid H2
   go_enter Tryz.func77,Tryz.ntmps77;go_upto_region 2 with(go_at_call 95;refine HA.mono ?_;clear HA;rintro e w1 ⟨rfl,ay⟩);have bJ:=Ky.trans (af ay (by simp));have hg1:=ah Ws ay;have b4:=aU hg1
   replace e1:=Below.keep bJ e1
   replace e2:=Below.keep bJ e2
   replace e3:=Below.keep bJ e3
   replace e4:=Below.keep bJ e4
   replace d1:=Below.keep bJ d1
   replace d2:=Below.keep bJ d2
   replace d3:=Below.keep bJ d3
   replace d4:=Below.keep bJ d4
   clear ay Ky Ws e0 d0
   replace dZ:=dZ.out
   by_cases hk:f.kind=3
   · rw[if_pos (.inl hk)] at dZ
     have HX:=Lib.hid dZ;have gk:((f.kind:Int)==3)=true:=by rw[hk];rfl
     clear dZ HG HP sQ BX HZ H2 HW hk;go_wp2_with fail;refine bodyPost_ret (v:=.tuple #[.agg #[.bool false,.slice none 0 0,str [],.slice none 0 0],.int .i64 5]) (by simp[results,Tryz.results77,go_sem,b4.1]) rfl ?_;rw[HX.out];exact⟨_,rfl,aT.zero _ _,Below.fc bJ (b:=w.heap.size) (nl _) _ _ _ _⟩
   have gk:((f.kind:Int)==3)=false:=by rw[beq_eq_false_iff_ne];omega
   by_cases CO:t=[]
   · subst CO
     rcases hfpar:f.par with _|_
     · rw[if_neg (by simp[hk,hfpar]),if_neg (by simp[hfpar]),if_neg (by simp[hfpar]),vac] at dZ
       have HX:=Lib.hid dZ;rw[hfpar] at e2;have ZA:=vaq.out _ bJ;have vb3:=vas.out _ bJ;clear dZ HG HP sQ BX HZ H2 HW hk;go_wp2_with fail;refine bodyPost_ret (v:=.tuple #[.agg #[.bool o.sig.iter,.slice pa o.sig.args.length ca,str o.sig.res,.slice ps o.sig.sigs.length cs],.int .i64 0]) (by simp[results,Tryz.results77,go_sem,b4.1]) rfl ?_;rw[HX.out];exact⟨_,rfl,⟨_,_,rfl,kC.2,(SS.fc ZA (b:=w.heap.size) (λb hb=>by omega) _ _ _ _).mono λ_ _=>trivial,(SS.fc vb3 (b:=w.heap.size) (λb hb=>by omega) _ _ _ _).mono λ_ _=>trivial⟩,Below.fc bJ (b:=w.heap.size) (nl _) _ _ _ _⟩
     · rw[if_pos (.inr (by simp[hfpar]))] at dZ
       have HX:=Lib.hid dZ;rw[hfpar] at e2;clear dZ HG HP sQ BX HZ H2 HW hk;go_wp2_with fail;refine bodyPost_ret (v:=.tuple #[.agg #[.bool false,.slice none 0 0,str [],.slice none 0 0],.int .i64 5]) (by simp[results,Tryz.results77,go_sem,b4.1]) rfl ?_;rw[HX.out];exact⟨_,rfl,aT.zero _ _,Below.fc bJ (b:=w.heap.size) (nl _) _ _ _ _⟩
   have gt:t.isEmpty=false:=by cases t with|nil=>exact absurd rfl CO|cons=>rfl
   have vb6:(t==[])=false:=by simpa using CO
   rcases hfpar:f.par with _|_
   · rw[if_pos (.inr (by simp[hfpar,CO]))] at dZ
     have HX:=Lib.hid dZ;rw[hfpar] at e2;clear dZ HG HP sQ BX HZ H2 HW hk;go_wp2_with fail;refine bodyPost_ret (v:=.tuple #[.agg #[.bool false,.slice none 0 0,str [],.slice none 0 0],.int .i64 5]) (by simp[results,Tryz.results77,go_sem,b4.1]) rfl ?_;rw[HX.out];exact⟨_,rfl,aT.zero _ _,Below.fc bJ (b:=w.heap.size) (nl _) _ _ _ _⟩
   rw[if_neg (by simp[hk,hfpar,CO])] at dZ;rw[hfpar] at e2
   by_cases bY:GK=0
   case neg=>
    obtain⟨g1,g2⟩:=bC bY;rw[if_pos ⟨hfpar,bY⟩] at dZ;have HX:=Lib.hid dZ;clear dZ sQ BX HZ H2 HW hk bY;go_wp2_with (first
     | (go_at_call 68;refine(HG _ bW).mono ?_;clear HG;rintro e w3 ⟨rfl,aK⟩;have dg:=bW.trans (af aK bW.size);have b6:=aU (ah hg2 aK))
     | (go_at_call 69;refine(HP _ bJ).mono ?_;clear HP;rintro e w2 ⟨rfl,aA⟩;have bW:=bJ.trans (af aA bJ.size);have hg2:=ah hg1 aA))
    refine bodyPost_ret (v:=.tuple #[.agg #[.bool false,.slice none 0 0,str [],.slice none 0 0],.int .i64 GK]) (by simp[results,Tryz.results77,go_sem,b6.1]) rfl ?_;rw[HX.out];exact⟨_,rfl,aT.zero _ _,Below.fc dg (b:=w.heap.size) (nl _) _ _ _ _⟩
   subst bY;rw[if_neg (by simp)] at dZ;have hc0:=HZ.out rfl
   replace BX:=BX.out hc0
   subst BX
   replace H2:=H2.out hc0
   have sQ:=λW hW xv hx=>sQ W hW xv hx hc0
   replace HW:=HW CO
   clear HZ hc0;go_upto_region 9 with(first
    | (go_at_call 68;refine(HG _ bW).mono ?_;clear HG;rintro e w3 ⟨rfl,aK⟩;have dg:=bW.trans (af aK bW.size);have hg3:=ah hg2 aK)
    | (go_at_call 69;refine(HP _ bJ).mono ?_;rintro e w2 ⟨rfl,aA⟩;have bW:=bJ.trans (af aA bJ.size);have hg2:=ah hg1 aA))
   have vbl:=aA.trans (af aK aA.size)
   replace e3:=Below.keep vbl e3
   replace e4:=Below.keep vbl e4
   replace d1:=Below.keep vbl d1
   replace d2:=Below.keep vbl d2
   replace d3:=Below.keep vbl d3
   replace d4:=Below.keep vbl d4
   clear b4 e1 e2 hg1 hg2 aA aK bW vbl;refine dw (D:=Any) (w:=w3) 16 [(0,vL b1 o1 l.length c),(1,.eq (.slice q ag.length cq)),(3,vT t),(10,vI k)] [vL b1 o1 l.length c,.eq (.slice q ag.length cq),.eq (.slice q ag.length cq),vT t,.eq (.bool P),vL b1 o1 l.length c,vI k,vP b1 (o1+k * 5),vP b1 (o1+k * 5+3),.eq (.slice pn f.ag.length cn),vT t,.eq (.tuple #[str FS,.bool FK]),.eq (.tuple #[str FS,.bool FK]),.eq (str FS),.eq (.bool FK),.eq (str FS),.eq (.bool FK)] (λw'=>aW [(⟨b1,o1+k * 5+3,none⟩,.slice pn f.ag.length cn)] w'∧Below w.heap.size w w') (by kernel_rfl) rfl (λ_ _ h hb=>⟨h.1.below hb,h.2.trans (af hb h.2.size)⟩) ⟨(by(iterate 1 refine cM (by exact Below.keep (Below.refl _ w3).drew (by assumption)) ?_);exact gD),dg.drew⟩ ⟨rfl,rfl,rfl,rfl,trivial⟩ ?_ ?_
   · iterate 17
      refine And.intro ?_ ?_
      · first
        | exact bV (by kernel_rfl) rfl
        | exact mT rfl rfl (by kernel_rfl)
        | exact fK rfl (by kernel_rfl) rfl rfl (λw=>by simp[go_sem])
        | exact fZ rfl (by kernel_rfl) rfl rfl rfl (λw=>by simp[go_sem,Q5])
        | exact fq rfl (by kernel_rfl) rfl rfl (λw hS=>by simp[go_sem,(hS.1.get 0 rfl)])
        | exact eS (s1:=.eq (.slice q ag.length cq)) (s2:=.eq (str t)) rfl (enters_of Tryz.func69 (by kernel_rfl) rfl) (by kernel_rfl) rfl rfl rfl (λv v2 wx hS h1 h2=>by rw[show v=.slice q ag.length cq from h1,show v2=str t from h2];exact(HP wx hS.2).mono (by rintro e w' ⟨rfl,hb⟩;exact⟨_,rfl,rfl,hb⟩))
        | exact vah (s1:=vL b1 o1 l.length c) (s2:=.eq (.slice q ag.length cq)) (s3:=.eq (.bool P)) (s4:=.eq (.slice pn f.ag.length cn)) (s5:=.eq (str t)) rfl (enters_of Tryz.func131 (by kernel_rfl) rfl) (by kernel_rfl) rfl rfl rfl rfl rfl rfl (λv v2 v3 v4 v5 wx hS h1 h2 h3 h4 h5=>by rw[show v=.slice (some ⟨b1,o1,none⟩) l.length c from h1,show v2=.slice q ag.length cq from h2,show v3=.bool P from h3,show v4=.slice pn f.ag.length cn from h4,show v5=str t from h5];exact(sQ wx hS.2 _ (HN.out wx hS.2)).mono (by rintro e w' ⟨rfl,hb⟩;exact⟨_,rfl,rfl,hb⟩))
        | exact RP rfl (by kernel_rfl) rfl rfl
     exact trivial
   · intro aE w5 jv eu _
     simp only[pq,pz,pw];have iq:=dg.trans (af eu dg.size);have Io:=ah hg3 eu;have b5:=aU Io;clear jv sQ HP;rcases FK with _|_
     · rw[if_pos ⟨hfpar,rfl⟩] at dZ
       have HX:=Lib.hid dZ;clear dZ H2 HW hk;go_wp2_with fail;refine bodyPost_ret (v:=.tuple #[.agg #[.bool false,.slice none 0 0,str [],.slice none 0 0],.int .i64 41]) (by simp[results,Tryz.results77,go_sem,b5.1]) rfl ?_;rw[HX.out];exact⟨_,rfl,aT.zero _ _,Below.fc iq (b:=w.heap.size) (nl _) _ _ _ _⟩
     rw[if_neg (by simp)] at dZ;have vaj:=HW _ w5 ⟨_,_,rfl,kC.2,vaq.out w5 iq,vas.out w5 iq⟩
     replace e4:=Below.keep eu e4
     replace d1:=Below.keep eu d1
     replace d2:=Below.keep eu d2
     replace d3:=Below.keep eu d3
     replace d4:=Below.keep eu d4
     clear HW hk e3;generalize bZ o.sig t=PK at *
     by_cases hz:PK.2=0
     case neg=>
      have dZ:=dZ.trans (H2.resolve_left hz);have HX:=Lib.hid dZ;rw[decide_eq_false hz] at vaj;clear dZ H2 hz;go_wp2_with (go_at_call 135;refine vaj.mono ?_;clear vaj;rintro e w6 ⟨u,rfl,⟨a6,q6,rfl,vbo,vbs,s6⟩,jw⟩;obtain⟨vbp,c7,rfl,_⟩:=vbs.shape;obtain⟨vbq,c8,rfl,_⟩:=s6.shape;have Gy:=(iq.trans (af jw iq.size)).alloc (Nat.le_trans iq.size jw.size) (.cells #[.bool PK.1.iter,.slice vbp PK.1.args.length c7,str PK.1.res,.slice vbq PK.1.sigs.length c8] 36);have b6:=aU (aH (.cells #[.bool PK.1.iter,.slice vbp PK.1.args.length c7,str PK.1.res,.slice vbq PK.1.sigs.length c8] 36) (ah Io jw)));refine bodyPost_ret (v:=.tuple #[.agg #[.bool false,.slice none 0 0,str [],.slice none 0 0],.int .i64 2]) (by simp[results,Tryz.results77,go_sem,b6.1]) rfl ?_;rw[HX.out];exact⟨_,rfl,aT.zero _ _,Below.fc Gy (b:=w.heap.size) (nl _) _ _ _ _⟩
     case pos=>
      have dZ:=dZ.trans (Prod.ext rfl hz:PK=(PK.1,0));have HX:=Lib.hid dZ;rw[decide_eq_true hz] at vaj;clear dZ H2 hz;go_wp2_with (go_at_call 135;refine vaj.mono ?_;clear vaj;rintro e w6 ⟨u,rfl,⟨a6,q6,rfl,vbo,vbs,s6⟩,jw⟩;obtain⟨vbp,c7,rfl,_⟩:=vbs.shape;obtain⟨vbq,c8,rfl,_⟩:=s6.shape;have vat:=(Below.refl _ w6).alloc (nl _) (.cells #[.bool PK.1.iter,.slice vbp PK.1.args.length c7,str PK.1.res,.slice vbq PK.1.sigs.length c8] 36);have Gy:=(iq.trans (af jw iq.size)).alloc (Nat.le_trans iq.size jw.size) (.cells #[.bool PK.1.iter,.slice vbp PK.1.args.length c7,str PK.1.res,.slice vbq PK.1.sigs.length c8] 36);have b6:=aU (aH (.cells #[.bool PK.1.iter,.slice vbp PK.1.args.length c7,str PK.1.res,.slice vbq PK.1.sigs.length c8] 36) (ah Io jw));have b7:=aU (heap_alloc_new w6 (.cells #[.bool PK.1.iter,.slice vbp PK.1.args.length c7,str PK.1.res,.slice vbq PK.1.sigs.length c8] 36)));refine bodyPost_ret (v:=.tuple #[.agg #[.bool PK.1.iter,.slice vbp PK.1.args.length c7,str PK.1.res,.slice vbq PK.1.sigs.length c8],.int .i64 0]) (by simp[results,Tryz.results77,go_sem,b6.1]) rfl ?_;rw[HX.out];have vb8:=bH Io;have hne:∀b,(w5.heap.size≤b∨b<w.heap.size∧b<w5.heap.size)→b≠w.heap.size:=λb hb e=>by omega
      exact⟨_,rfl,⟨_,_,rfl,vbo,(SS.fc (vbs.below vat (nl _)) (b:=w.heap.size) hne _ _ _ _).mono λ_ _=>trivial,(SS.fc (s6.below vat (nl _)) (b:=w.heap.size) hne _ _ _ _).mono λ_ _=>trivial⟩,Below.fc Gy (b:=w.heap.size) (nl _) _ _ _ _⟩
theorem va5 {D D':Nat→Prop} (l:List aB) (ag:List aG) (lv nv:Value) (n t:List UInt8) (w:World) (hl:aZ D w lv l) (hn:aJ D' w nv ag) (htl:t.length≤maxLen):
 Calls Tryz.prog 28 #[lv,nv,str n,str t] w λe w'=>∃u,e=.returned (.tuple #[u,.int .i64 (rO l ag n t).2])∧aT Any w' u (rO l ag n t).1∧Below w.heap.size w w':=by
 have Ky:=(Below.refl _ w).alloc (nl _) (.cells #[.bool false,.slice none 0 0,.string ⟨#[]⟩,.slice none 0 0] 36)
 have Ws:=heap_alloc_new w (.cells #[.bool false,.slice none 0 0,.string ⟨#[]⟩,.slice none 0 0] 36)
 have HA:=uZ l (Bl l) lv ag nv _ (hl.below Ky (nl _)) (hn.below Ky (nl _))
 have dZ:rO l ag n t=if bP l ag≠0 then(.zero,bP l ag) else va6 l ag n t:=rfl
 generalize rO l ag n t=RS at *
 by_cases h:bP l ag=0
 · rw[if_neg (by simp[h])] at dZ
   have HX:=Lib.hid dZ;have HG:=λW (hW:Below w.heap.size w W)=>va9 l ag lv nv n t W (wQ h) (hl.below hW (nl _)) (hn.below hW (nl _)) htl
   rw[h] at HA;have vap:=vag (ag:=ag) n t (wQ (ag:=ag) (par:=dX ag t) h).1;generalize va6 l ag n t=OI at *;obtain⟨p,c,rfl,_⟩:=hl.shape;obtain⟨q,cq,rfl,_⟩:=hn.shape;clear dZ h hl hn;go_enter Tryz.func28,Tryz.ntmps28;go_wp2_with (first
    | (go_at_call 77;refine(HG _ bJ).mono ?_;clear HG;rintro e w2 ⟨u,rfl,⟨av,sv,rfl,lu,ru,qu⟩,aA⟩;obtain⟨vbp,c7,rfl,_⟩:=ru.shape;obtain⟨vbq,c8,rfl,_⟩:=qu.shape;have bW:=bJ.trans (af aA bJ.size);have hg2:=ah hg1 aA;have b2:=aU hg2)
    | (go_at_call 60;refine HA.mono ?_;clear HA;rintro e w1 ⟨rfl,ay⟩;have bJ:=Ky.trans (af ay (by simp));have hg1:=ah Ws ay))
   refine bodyPost_ret (v:=.tuple #[.agg #[.bool OI.1.iter,.slice vbp OI.1.args.length c7,str OI.1.res,.slice vbq OI.1.sigs.length c8],.int .i64 OI.2]) (by simp[results,Tryz.results28,go_sem,b2.1]) rfl ?_;rw[HX.out];exact⟨_,rfl,⟨_,_,rfl,lu,(SS.fc (ru.vab hg2 vap.1) (b:=w.heap.size) (λb hb=>hb) _ _ _ _).mono λ_ _=>trivial,(SS.fc (qu.vab hg2 vap.2) (b:=w.heap.size) (λb hb=>hb) _ _ _ _).mono λ_ _=>trivial⟩,Below.fc bW (b:=w.heap.size) (nl _) _ _ _ _⟩
 · rw[if_pos h] at dZ
   have HX:=Lib.hid dZ;obtain⟨g1,g2⟩:=bC h;generalize bP l ag=AS at *;obtain⟨p,c,rfl,_⟩:=hl.shape;obtain⟨q,cq,rfl,_⟩:=hn.shape;clear dZ h hl hn;go_enter Tryz.func28,Tryz.ntmps28;go_wp2_with (go_at_call 60;refine HA.mono ?_;clear HA;rintro e w1 ⟨rfl,ay⟩;have bJ:=Ky.trans (af ay (by simp));have b1:=aU (ah Ws ay));refine bodyPost_ret (v:=.tuple #[.agg #[.bool false,.slice none 0 0,str [],.slice none 0 0],.int .i64 AS]) (by simp[results,Tryz.results28,go_sem,b1.1]) rfl ?_;rw[HX.out];exact⟨_,rfl,aT.zero _ _,Below.fc bJ (b:=w.heap.size) (nl _) _ _ _ _⟩
end Go.Proofs.YtakgjcfkdemipaaGreatDoor
namespace Go.Proofs.YtakgjcfkdemipaaGreatDoor
open Go Go.RowKit
theorem va7 {l:List aB} (h:qq l=true):∀f∈l,f.ag.length≤100000:=λf hf=>by
 rw[Ku,Bool.and_eq_true,List.all_eq_true] at h
 have h1:=h.1 f hf
 unfold jT r8 ir at h1
 simp only[Bool.and_eq_true,decide_eq_true_eq] at h1
 omega
set_option maxRecDepth 8000 in
theorem vaa (l:List aB) (ag want:List aG) (n t:List UInt8) (lv nv xv:Value) (w:World) (hT:fN w) (hl:aZ Any w lv l) (hn:aJ Any w nv ag) (hx:aJ Any w xv want) (hnl:n.length≤maxLen) (htl:t.length≤maxLen):
 Calls Tryz.prog 5 #[lv,nv,xv,str n,str t] w λe w'=>e=.returned (.bool true)∧Below w.heap.size w w':=by
 obtain⟨lp,lc,rfl,_⟩:=hl.shape
 obtain⟨np,nc,rfl,_⟩:=hn.shape
 obtain⟨xp,xc,rfl,_⟩:=hx.shape
 have hA:=Below.refl w.heap.size w
 have HT:=Lib.hid (λW (hW:Below w.heap.size w W)=>hT.below hW (nl _))
 have HS:=λW hW=>Gg W (HT.out W hW)
 have HF:=λW (hW:Below w.heap.size w W)=>I5 l _ W (hl.below hW (nl _))
 have H1:=λW (hW:Below w.heap.size w W)=>sr ag _ W (hn.below hW (nl _))
 have H2:=λW (hW:Below w.heap.size w W)=>sr want _ W (hx.below hW (nl _))
 have HH:=λW=>iA [t,n] (.slice (some ⟨W.heap.size,0,none⟩) 2 2) (W.alloc (.cells #[str t,str n] 9)) (BJ (D:=Any) W W.heap.size rfl trivial [t,n] (by simp[maxLen]) (by intro s hs;simp only[List.mem_cons,List.not_mem_nil,or_false] at hs;rcases hs with rfl|rfl<;>assumption) 9)
 rcases q1:qq l with _|_
 · rw[q1] at HF
   clear H1 H2 HH q1 hl hn hx;go_enter Tryz.func5,Tryz.ntmps5;go_wp2_with (first
    | (go_at_call 18;refine(HS w1 B1).mono ?_;rintro e w99 ⟨rfl,va8⟩)
    | (go_at_call 15;refine(HF w hA).mono ?_;clear HF;rintro e w1 ⟨rfl,ay⟩;have B1:=hA.trans ay))
   go_ret;exact⟨rfl,B1.trans (af va8 B1.size)⟩
 rw[q1] at HF
 rcases q2:ir ag with _|_
 · rw[q2] at H1
   clear H2 HH q1 q2 hl hn hx;go_enter Tryz.func5,Tryz.ntmps5;go_wp2_with (first
    | (go_at_call 18;refine(HS w2 B2).mono ?_;rintro e w99 ⟨rfl,va8⟩)
    | (go_at_call 16;refine(H1 w1 B1).mono ?_;clear H1;rintro e w2 ⟨rfl,aA⟩;have B2:=B1.trans (af aA B1.size))
    | (go_at_call 15;refine(HF w hA).mono ?_;clear HF;rintro e w1 ⟨rfl,ay⟩;have B1:=hA.trans ay))
   go_ret;exact⟨rfl,B2.trans (af va8 B2.size)⟩
 rw[q2] at H1
 rcases q3:ir want with _|_
 · rw[q3] at H2
   clear HH q1 q2 q3 hl hn hx;go_enter Tryz.func5,Tryz.ntmps5;go_wp2_with (first
    | (go_at_call 18;refine(HS w3 B3).mono ?_;rintro e w99 ⟨rfl,va8⟩)
    | (go_at_call 16;refine(H2 w2 B2).mono ?_;clear H2;rintro e w3 ⟨rfl,aK⟩;have B3:=B2.trans (af aK B2.size))
    | (go_at_call 16;refine(H1 w1 B1).mono ?_;clear H1;rintro e w2 ⟨rfl,aA⟩;have B2:=B1.trans (af aA B1.size))
    | (go_at_call 15;refine(HF w hA).mono ?_;clear HF;rintro e w1 ⟨rfl,ay⟩;have B1:=hA.trans ay))
   go_ret;exact⟨rfl,B3.trans (af va8 B3.size)⟩
 rw[q3] at H2
 have hfn:=va7 q1
 have hne:ag.length≤6:=by unfold ir at q2;simp only[Bool.and_eq_true,decide_eq_true_eq] at q2;exact q2.2
 have vau:want.length≤6:=by unfold ir at q3;simp only[Bool.and_eq_true,decide_eq_true_eq] at q3;exact q3.2
 clear q1 q2 q3
 rcases q9:fh [t,n] with _|_
 · rw[q9] at HH
   clear q9 hl hn hx hfn hne vau;go_enter Tryz.func5,Tryz.ntmps5;go_wp2_with (first
    | (go_at_call 18;refine(HS w4 B4).mono ?_;rintro e w99 ⟨rfl,va8⟩)
    | (go_at_call 17;refine(HH w3).mono ?_;clear HH;rintro e w4 ⟨rfl,hb4⟩;have B4:=(B3.alloc B3.size (.cells #[str t,str n] 9)).trans (af hb4 (B3.alloc B3.size (.cells #[str t,str n] 9)).size))
    | (go_at_call 16;refine(H2 w2 B2).mono ?_;clear H2;rintro e w3 ⟨rfl,aK⟩;have B3:=B2.trans (af aK B2.size))
    | (go_at_call 16;refine(H1 w1 B1).mono ?_;clear H1;rintro e w2 ⟨rfl,aA⟩;have B2:=B1.trans (af aA B1.size))
    | (go_at_call 15;refine(HF w hA).mono ?_;clear HF;rintro e w1 ⟨rfl,ay⟩;have B1:=hA.trans ay))
   go_ret;exact⟨rfl,B4.trans (af va8 B4.size)⟩
 rw[q9] at HH
 clear q9
 have vbb:=λW (hW:Below w.heap.size w W)=>Gh l _ ag _ n t W (HT.out W hW) (hl.below hW (nl _)) (hn.below hW (nl _)) hfn (by omega) htl hnl
 have vbc:=λW (hW:Below w.heap.size w W)=>va5 l ag _ _ n t W (hl.below hW (nl _)) (hn.below hW (nl _)) htl
 have vbd:=λW (hW:Below w.heap.size w W)=>EV l _ ag _ want _ t W (HT.out W hW) (hl.below hW (nl _)) (hn.below hW (nl _)) (hx.below hW (nl _)) hfn (by omega) (by omega) htl
 have vbe:=λW (hW:Below w.heap.size w W)=>N3 l ag _ _ _ want t W (hl.below hW (nl _)) (hn.below hW (nl _)) (hx.below hW (nl _)) htl
 clear hl hn hx hfn hne vau
 generalize rO l ag n t=X at vbb vbc
 generalize mE l ag want t=Y at vbd vbe
 have O2:=Lib.hid ((oy X.1 X.1).2 rfl)
 go_enter Tryz.func5,Tryz.ntmps5
 go_wp2_with (first
  | (go_at_call 26;refine(nK X.1 X.1 _ _ w9 vaz vb2).mono ?_;rintro e Cg ⟨he,Ij⟩;rw[O2.out] at he;subst he;have Vw:=B9.trans (af Ij B9.size))
  | (go_at_call 18;refine(HS _ B8).mono ?_;rintro e w9 ⟨rfl,Kb⟩;have B9:=B8.trans (af Kb B8.size);have vaz:=vay.below Kb (nl _);have vb2:=vb1.below Kb (nl _);have x5:=aU (ah vbk Kb);have x6:=aU (ah K6 Kb))
  | (go_at_call 30;refine(vbe _ B7).mono ?_;clear vbe;rintro e w8 ⟨rfl,xh⟩;have B8:=B7.trans (af xh B7.size);have vay:=(vax.below xh (nl _));have vb1:=vb0.below xh (nl _);replace vbk:=ah vbk xh;replace K6:=ah K6 xh)
  | (go_at_call 29;refine(vbd _ B6).mono ?_;clear vbd;rintro e w7 ⟨rfl,qw⟩;have B7:=B6.trans (af qw B6.size);have vax:=((vbm.below jw (nl _)).below vbg (nl _)).below qw (nl _);have vb0:=vbn.below qw (nl _);have vbk:=ah (aH (.cells #[.bool X.1.iter,.slice p6 X.1.args.length c6,str X.1.res,.slice vbs X.1.sigs.length d6] 36) (ah vbi jw)) qw;have K6:=ah vbj qw)
  | (go_at_call 28;refine(vbc _ B5).mono ?_;clear vbc;rintro e w6 ⟨u,rfl,⟨vb5,vba,rfl,vaw,vao,vam⟩,jw⟩;obtain⟨p6,c6,rfl,_⟩:=vao.shape;obtain⟨vbs,d6,rfl,_⟩:=vam.shape;have vbg:=(Below.refl _ w6).alloc (nl _) (.cells #[.bool X.1.iter,.slice p6 X.1.args.length c6,str X.1.res,.slice vbs X.1.sigs.length d6] 36);have vbj:=heap_alloc_new w6 (.cells #[.bool X.1.iter,.slice p6 X.1.args.length c6,str X.1.res,.slice vbs X.1.sigs.length d6] 36);have vbn:=aT.below ⟨_,_,rfl,vaw,vao,vam⟩ vbg (nl _);have B6:=(B5.trans (af jw B5.size)).alloc (Nat.le_trans B5.size jw.size) (.cells #[.bool X.1.iter,.slice p6 X.1.args.length c6,str X.1.res,.slice vbs X.1.sigs.length d6] 36);clear vaw vao vam)
  | (go_at_call 27;refine(vbb _ B4).mono ?_;clear vbb;rintro e w5 ⟨u,rfl,⟨vb4,vb9,rfl,vav,van,vak⟩,cW⟩;obtain⟨p5,c5,rfl,_⟩:=van.shape;obtain⟨vbr,d5,rfl,_⟩:=vak.shape;have vbf:=(Below.refl _ w5).alloc (nl _) (.cells #[.bool X.1.iter,.slice p5 X.1.args.length c5,str X.1.res,.slice vbr X.1.sigs.length d5] 36);have vbi:=heap_alloc_new w5 (.cells #[.bool X.1.iter,.slice p5 X.1.args.length c5,str X.1.res,.slice vbr X.1.sigs.length d5] 36);have vbm:=aT.below ⟨_,_,rfl,vav,van,vak⟩ vbf (nl _);have B5:=(B4.trans (af cW B4.size)).alloc (Nat.le_trans B4.size cW.size) (.cells #[.bool X.1.iter,.slice p5 X.1.args.length c5,str X.1.res,.slice vbr X.1.sigs.length d5] 36);clear vav van vak)
  | (go_at_call 17;refine(HH w3).mono ?_;clear HH;rintro e w4 ⟨rfl,hb4⟩;have B4:=(B3.alloc B3.size (.cells #[str t,str n] 9)).trans (af hb4 (B3.alloc B3.size (.cells #[str t,str n] 9)).size))
  | (go_at_call 16;refine(H2 w2 B2).mono ?_;clear H2;rintro e w3 ⟨rfl,aK⟩;have B3:=B2.trans (af aK B2.size))
  | (go_at_call 16;refine(H1 w1 B1).mono ?_;clear H1;rintro e w2 ⟨rfl,aA⟩;have B2:=B1.trans (af aA B1.size))
  | (go_at_call 15;refine(HF w hA).mono ?_;clear HF;rintro e w1 ⟨rfl,ay⟩;have B1:=hA.trans ay))
 go_ret
 exact⟨by simp,Vw⟩
end Go.Proofs.YtakgjcfkdemipaaGreatDoor
