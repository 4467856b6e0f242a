/-
  Lemmas for the statement: the walk of the statement KindInside: it answers true. Conditions: bounds of lengths; the variable strings.asciiSpace.
-/
import Derived.Test.YtakgjcfkdemipaaGreatDoorZB29
import Derived.Test.YtakgjcfkdemipaaGreatDoorZBn
import Derived.Test.YtakgjcfkdemipaaGreatDoorZX3
set_option maxHeartbeats 6400000
namespace Go.Proofs.YtakgjcfkdemipaaGreatDoor
open Go.RowKit
def va6 (l:List (List UInt8)):List (List UInt8):=(l.filter λt=>decide (mJ t=7)).map λt=>t.take (aj t)
theorem vah (l:List (List UInt8)) (t:List UInt8):va6 (l++[t])=va6 l++(if mJ t=7 then [t.take (aj t)] else []):=by
 unfold va6
 rw[List.filter_append,List.map_append]
 congr 1
 by_cases h:mJ t=7<;>simp[h]
theorem Tr.ok.name {t:Tr} (h:t.ok) (hk:t.k=7):t.txt.take (aj t.txt)=t.n:=by
 obtain⟨k,n,sub⟩:=t
 obtain rfl:k=7:=hk
 have h':Wf none (.cons [] 7 n sub .nil):=h
 rw[Tr.eA,Fo.one,Fo.cN]
 exact(fE (mh h' (by decide)) (qw _)).1
theorem vb9 {T:Tr} (h:T.ok) (s:List UInt8):s∈va6 (jL T.ins)↔s∈pX T.ins:=by
 unfold va6 pX
 simp only[List.mem_map,List.mem_filter,decide_eq_true_eq,tR,l5]
 constructor
 · rintro⟨_,⟨⟨u,hu,rfl⟩,h2⟩,rfl⟩
   have ho:=(h.A9 hu).1;rw[ho.mJ] at h2;exact⟨u,⟨hu,h2⟩,(ho.name h2).symm⟩
 · rintro⟨u,⟨hu,h2⟩,rfl⟩
   have ho:=(h.A9 hu).1;exact⟨u.txt,⟨⟨u,hu,rfl⟩,by rw[ho.mJ];exact h2⟩,ho.name h2⟩
theorem vap {l:List (List UInt8)} {s:List UInt8}:hasB l s=true↔s∈l:=by unfold hasB;rw[List.contains_iff_mem]
theorem vag {acc:List (List UInt8)} {s:List UInt8} {k:Nat} (ha:vam acc) (hn:hasB acc s=false) (hk:k≤acc.length) (hhi:∀j (hj:j<acc.length),k≤j→Op.bytesLess s acc[j]=true)
 (hlo:k=0∨∃h:k - 1<acc.length,Op.bytesLess s acc[k - 1]=false):vam (acc.take k++s::acc.drop k):=by
 refine vav ha hk (λj hj hjk=>?_) hhi
 rcases hlo with rfl|⟨h,hlo⟩
 · omega
 · have hne:¬s∈acc:=λh=>by rw[vap.2 h] at hn;simp at hn
   have h1:Op.bytesLess acc[k - 1] s=true:=by
    have:=gH _ _ hlo;rw[Bool.or_eq_true] at this;rcases this with h2|h2
    · exact h2
    · have h3:acc[k - 1]=s:=by simpa using h2
      exact absurd (h3▸List.getElem_mem h) hne
   by_cases hj1:j=k - 1
   · subst hj1;exact h1
   · exact fT _ _ _ (List.pairwise_iff_getElem.1 ha j (k - 1) hj h (by omega)) h1
structure vb3 (w wr:World) (l:List (List UInt8)) (i:Nat) (o:Value) (acc:List (List UInt8)):Prop where
 len:acc.length≤i
 row:wr.ownsRow w.heap.size 9 1 o acc.length (aB acc)
 vam:vam acc
 mem:∀s,s∈acc↔s∈va6 (l.take i)
 nD:Below w.heap.size w wr
theorem vb3.same {w wr wr':World} {l:List (List UInt8)} {i:Nat} {o:Value} {acc:List (List UInt8)} {t:List UInt8} (h:vb3 w wr l i o acc) (ht:l[i]? =some t) (hn:mJ t≠7∨hasB acc (t.take (aj t))=true) (hb:Below wr.heap.size wr wr'):vb3 w wr' l (i+1) o acc:=by
 refine⟨by have:=h.len;omega,ay h.row hb zr,h.vam,λs=>?_,h.nD.trans (af hb h.nD.size)⟩
 rw[nC _ _ _ ht,vah,h.mem]
 by_cases hk:mJ t=7
 · have hm:=vap.1 (hn.resolve_left (by simpa using hk))
   rw[h.mem] at hm;rw[if_pos hk];simp only[List.mem_append,List.mem_singleton];exact⟨.inl,λh=>h.elim id λh=>h▸hm⟩
 · rw[if_neg hk];simp
theorem vb3.more {w wr wr':World} {l:List (List UInt8)} {i k:Nat} {o o':Value} {acc:List (List UInt8)} {t:List UInt8} (h:vb3 w wr l i o acc) (ht:l[i]? =some t) (uX:mJ t=7) (hk:k≤acc.length) (ha:Proofs.YtakgjcfkdemipaaGreatDoor.vam (acc.take k++t.take (aj t)::acc.drop k))
 (hr:wr'.ownsRow w.heap.size 9 1 o' (acc.length+1) (aB (acc.take k++t.take (aj t)::acc.drop k))) (hb:Below w.heap.size w wr'):vb3 w wr' l (i+1) o' (acc.take k++t.take (aj t)::acc.drop k):=by
 have hl:(acc.take k++t.take (aj t)::acc.drop k).length=acc.length+1:=by simp;omega
 refine⟨by have:=h.len;omega,by rw[hl];exact hr,ha,λs=>?_,hb⟩
 rw[vae,nC _ _ _ ht,vah,if_pos uX,h.mem]
 simp only[List.mem_append,List.mem_singleton]
 constructor
 · rintro(h|h)
   · exact .inr h
   · exact .inl h
 · rintro(h|h)
   · exact .inr h
   · exact .inl h
theorem vbj {w:World} {base:Nat} {e:TypeId} {p:Option Addr} {n c:Nat} {xs:List (List UInt8)} (h:w.ownsRow base e 1 (.slice p n c) xs.length (aB xs)):(p=none∧n=0∧c=0∧xs=[])∨∃g,p=some ⟨g,0,none⟩∧g<w.heap.size∧n≤c:=by
 rcases h.2 with⟨h1,h0⟩|⟨g,cap,cur,h1,_,h3,h4,_⟩
 · injection h1 with h1 h2 h3
   exact .inl ⟨h1,h2,h3,List.length_eq_zero_iff.1 h0⟩
 · injection h1 with h1 h2 h5
   exact .inr ⟨g,h1,aK h (by rw[h1];rfl),by omega⟩
theorem vcl (acc:List (List UInt8)) (nm:List UInt8) (k:Nat):((aB acc).take k++[str nm])++(aB acc).drop k=aB (acc.take k++nm::acc.drop k):=by
 simp[aB]
theorem va7 {vfh w6 w7 w8:World} {o o2:Obj} {v1 v2:Value} (pT:(vfh.alloc o).grownBy w6 (some vfh.heap.size)) (vaj:v1.ownBlock=some vfh.heap.size∨v1.ownBlock=some (vfh.alloc o).heap.size)
 (KL:(w6.alloc o2).grownBy w7 v1.ownBlock) (vb6:v2.ownBlock=v1.ownBlock∨v2.ownBlock=some (w6.alloc o2).heap.size) (vea:w7.grownBy w8 v2.ownBlock):Below vfh.heap.size vfh w8:=by
 have b6:Below vfh.heap.size vfh w6:=((Below.refl vfh.heap.size vfh).alloc zr o).grown pT (by simp) (λb e=>by injection e with e;omega)
 have l1:∀b,v1.ownBlock=some b→vfh.heap.size≤b:=λb e=>by
  rcases vaj with h|h
  · rw[h] at e;injection e with e;omega
  · rw[h] at e;injection e with e;simp at e;omega
 have b7:Below vfh.heap.size vfh w7:=(b6.alloc b6.size o2).grown KL (by have:=b6.size;simp;omega) l1
 exact b7.grown vea b7.size λb e=>by
  rcases vb6 with h|h
  · exact l1 b (h▸e)
  · rw[h] at e;injection e with e;have:=b6.size;simp at e;omega
theorem vax {vfh w6 w7:World} {o o2:Obj} {v1:Value} {base:Nat} {e:TypeId} {g n c:Nat} {xs:List Value} (hown:vfh.ownsRow base e 1 (.slice (some ⟨g,0,none⟩) n c) n xs) (hg:g<vfh.heap.size) (pT:(vfh.alloc o).grownBy w6 (some vfh.heap.size)) (vaj:v1.ownBlock=some vfh.heap.size∨v1.ownBlock=some (vfh.alloc o).heap.size)
 (KL:(w6.alloc o2).grownBy w7 v1.ownBlock):w7.ownsRow base e 1 (.slice (some ⟨g,0,none⟩) n c) n xs:=by
 refine cB hown λb hb=>?_
 injection hb with hb
 subst hb
 have h6:w6.heap[g]? =vfh.heap[g]? :=(pT.block g (by simp;omega) (λe=>by injection e with e;omega)).trans (Below.heap_alloc _ _ g hg)
 have G7:g<w6.heap.size:=by have:=pT.size;simp at this;omega
 refine(KL.block g (by simp;omega) λe=>?_).trans ((Below.heap_alloc _ _ g G7).trans h6)
 rcases vaj with h|h
 · rw[h] at e;injection e with e;omega
 · rw[h] at e;injection e with e;simp at e;omega
theorem va9 {w:World} {base:Nat} {e:TypeId} {g n c:Nat} {xs:List Value} (h:w.ownsRow base e 1 (.slice (some ⟨g,0,none⟩) n c) n xs) (k:Nat):∀j u,(xs.take k)[j]? =some u→w.cell? ((⟨g,0,none⟩:Addr).add j)=some u:=λj u hj=>by
 refine h.cells (g:=g) rfl j u ?_
 rw[List.getElem?_take] at hj
 split at hj
 · exact hj
 · simp at hj
theorem vao {w:World} {base:Nat} {e:TypeId} {g n c:Nat} {xs:List Value} (h:w.ownsRow base e 1 (.slice (some ⟨g,0,none⟩) n c) n xs) (k:Nat):∀j u,(xs.drop k)[j]? =some u→w.cell? ((⟨g,k,none⟩:Addr).add j)=some u:=λj u hj=>by
 rw[List.getElem?_drop] at hj
 have:=h.cells (g:=g) rfl (k+j) u hj
 have e:(⟨g,k,none⟩:Addr).add j=(⟨g,0,none⟩:Addr).add (k+j):=by
  unfold Addr.add
  by_cases hj:j=0
  · subst hj
    by_cases hk:k=0<;>simp[hk]
  · simp[hj]
 rw[e];exact this
theorem va3 (acc:List (List UInt8)) (k:Nat):(∀u∈(aB acc).take k,u.oneCell'=true)∧(∀u∈(aB acc).drop k,u.oneCell'=true):=by
 have h:∀u∈aB acc,u.oneCell'=true:=λu hu=>by
  obtain⟨x,_,rfl⟩:=List.mem_map.1 hu
  rfl
 exact⟨λu hu=>h u (List.mem_of_mem_take hu),λu hu=>h u (List.mem_of_mem_drop hu)⟩
set_option maxRecDepth 8000 in
theorem vb2 (s : List UInt8) (T : Tr) (hs : aq s = (0, T)) (w : World) :
 Calls Tryz.prog 103 #[str s] w λe w'=>∃v,e=.returned (.tuple #[v,.int .i64 0])∧Strs w' v (gB (pX T.ins))∧Below w.heap.size w w':=by
 obtain⟨o1,e1,l1,_⟩:=bC hs
 have hI:=vF s T hs w
 have hlen:=xz T.ins
 have hle2:=o1.lV
 rw[e1] at hle2
 have hl:(jL T.ins).length≤100:=by omega
 have hshort:∀t∈jL T.ins,t.length≤100:=by
  intro t ht;rw[tR,l5] at ht;obtain⟨u,hu,rfl⟩:=List.mem_map.1 ht;have:=(o1.A9 hu).2.1;rw[e1] at this;omega
 have hend:∀acc,vam acc→(∀s,s∈acc↔s∈va6 (jL T.ins))→acc=gB (pX T.ins):=λacc ha hm=>vat ha λs=>(hm s).trans (vb9 o1 s)
 generalize gB (pX T.ins)=tot at hend ⊢
 generalize jL T.ins=l at hI hl hshort hend
 have H9:=zh hend
 have ve4:=zh hshort
 obtain⟨i0,gw,hz0,hz1,hz2⟩:=info_parts uZ
 clear hs o1 e1 hlen hle2 hend hshort
 go_enter Tryz.func103,Tryz.ntmps103
 go_wp2_with (go_at_call 127;refine hI.mono ?_;clear hI;rintro e w1 ⟨v,rfl,hv,au⟩;obtain⟨pv,cv,rfl⟩:=hv.sh)
 go_loopw [6,7] (λo y wr=>∃(i:Nat) (acc:List (List UInt8)),i≤l.length∧y=.int .i64 i∧vb3 w wr l i o acc∧Below w1.heap.size w1 wr) (λ_ y _=>l.length - (intOf y).toNat)
 case atStart=>exact⟨0,[],Nat.zero_le _,by go_num,⟨by simp,by simpa[aB] using World.ownsRow_nil _ _ _ _,List.Pairwise.nil,by simp[va6],au⟩,zb _⟩
 case round =>
  clear au;obtain⟨i,acc,hi,rfl,hR,hb⟩:=hrel;have ha:=hR.len;have hown:=hR.row;obtain⟨po,co,rfl⟩:=bu hown
  by_cases hlt:i<l.length
  case neg=>
   have HS:Hid (acc=tot):=H9.out acc hR.vam λs=>by
    have:=hR.mem s;rw[List.take_of_length_le (by omega)] at this;exact this
   obtain rfl:acc=tot:=HS.out;have Me:=hR.nD;go_wp2_with fail;go_ret2;exact⟨_,rfl,Sl.bH (by simpa[aB] using hown),Me⟩
  case pos =>
   obtain⟨t,hkt⟩:∃t,l[i]? =some t:=⟨_,List.getElem?_eq_getElem hlt⟩
   have htl:=ve4.out t (List.mem_of_getElem? hkt);have sG:=hv.below hb zr;obtain⟨b1,o1,rfl,c1⟩:=sG.at hkt;have hcl:=bX t;have vcn:=zh hkt;have va8:=zh hR;have hst:Strs wr _ acc:=Sl.bH (by simpa[aB] using hown);clear hkt hR sG;go_upto_region 8 with fail;go_quiet ((go_at_call 162;refine Calls.quiet_of_same ((aX _ _ (by unfold maxLen;omega)).mono λe w' h=>⟨h.1,h.2.symm⟩)));have vab:=vdd (Below.refl wr.heap.size wr) nq;have c1:=Below.keep vab c1;have hst:=hst.below vab zr;have hown:=ay hown vab zr;generalize wr.drewN nq=vfh at vab c1 hst hown ⊢;have PJ:t.length≤maxLen:=by unfold maxLen;omega
   have hK:=λW=>Jb t PJ W
   rcases hq:hasB acc (t.take (aj t)) with _|_
   case true=>
    have HQ:=zh hq;have HS:=zh (va8.out.same vcn.out (.inr hq) vab);have vd9:=zh (hb.trans (af vab hb.size));have hk:((mJ t:Int) != 7)=true∨((mJ t:Int) != 7)=false:=by cases ((mJ t:Int) != 7)<;>simp
    clear hq;generalize mJ t=vf0 at hK hk;rcases hk with hk|hk
    all_goals
     go_wp2_with (first
      | (go_at_call 163;(with_reducible refine(dD hst HQ.out).mono ?_);rintro e w4 ⟨rfl,rfl⟩)
      | (go_at_call 164;refine(hK _).mono ?_;rintro e w5 ⟨rfl,rfl⟩))
     exact⟨⟨i+1,acc,hlt,by go_num,HS.out,vd9.out⟩,by simp only[intOf];omega⟩
   case false =>
    have HQ:=zh hq
    by_cases uX:mJ t=7
    case neg=>
     have HS:=zh (va8.out.same vcn.out (.inl uX) vab);have vd9:=zh (hb.trans (af vab hb.size));have hk:((mJ t:Int) != 7)=true:=by rw[bne_iff_ne];omega
     clear hq uX;generalize mJ t=vf0 at hK hk;go_wp2_with (first
      | (go_at_call 163;(with_reducible refine(dD hst HQ.out).mono ?_);rintro e w4 ⟨rfl,rfl⟩)
      | (go_at_call 164;refine(hK _).mono ?_;rintro e w5 ⟨rfl,rfl⟩))
     exact⟨⟨i+1,acc,hlt,by go_num,HS.out,vd9.out⟩,by simp only[intOf];omega⟩
    case pos =>
     have vd0:=zh uX;rw[uX] at hK;clear hq uX;go_wp2_with (first
      | (go_at_call 163;(with_reducible refine(dD hst HQ.out).mono ?_);rintro e w4 ⟨rfl,rfl⟩)
      | (go_at_call 164;refine(hK _).mono ?_;rintro e w5 ⟨rfl,rfl⟩))
     have ve0:∀k,k≤acc.length→((aB acc).take k).length=k * 1∧((aB acc).drop k).length=(acc.length - k) * 1:=λk hk=>by simp[aB];omega
     have vd1:=zh ve0;clear ve0;rcases vbj hown with⟨rfl,_,rfl,rfl⟩|⟨g,rfl,cM,hcap⟩
     case inl=>
      have HP:=zh (vag va8.out.vam HQ.out (Nat.zero_le _) (λj hj _=>absurd hj (by simp)) (.inl rfl));have KQ:(vfh.alloc (.cells #[] 9)).ownsRow w.heap.size 9 1 (.slice (some ⟨vfh.heap.size,0,none⟩) 0 0) 0 []:=World.ownsRow_lit vfh #[] 0 (by have:=va8.out.nD.size;have:=vab.size;omega) (by decide) rfl;refine wp_loop_rounds 1 ?_;rw[rounds_succ];go_wp2_with (first
       | (at_builtin;refine wpList_append_own_none rfl _ _ 34 rfl w.heap.size 9 i0 1 Tryz.underlying34 gw _ _ _ rfl KQ rfl ?_)
       | (at_builtin;refine wpList_append_own_at _ rfl _ _ 34 rfl w.heap.size 9 i0 (.string ⟨#[]⟩) 1 16 Tryz.underlying34 gw hz0 hz1 hz2 rfl (by decide) _ _ _ rfl (KQ.alloc _) ⟨vfh.heap.size+1,0,none⟩ 1 1 [str (List.take (aj t) t)] rfl rfl (by have:=cell_one_new (vfh.alloc (.cells #[] 9)) (str (List.take (aj t) t)) 9;rw[World.size_alloc] at this;exact this) (λx hx=>by simp at hx;subst hx;rfl) (by decide) (by omega) (by have:=va8.out.nD.size;have:=vab.size;simp only[World.size_alloc];omega) ?_;intro v2 w7 KX vaf _ _)
       | (at_builtin;refine wpList_append_own_none rfl _ _ 34 rfl w.heap.size 9 i0 1 Tryz.underlying34 gw _ _ _ rfl KX rfl ?_))
      have wZ:Below vfh.heap.size vfh w7:=(((Below.refl vfh.heap.size vfh).alloc zr (.cells #[] 9)).alloc (by simp) (.cells #[str (List.take (aj t) t)] 9)).grown vaf (by simp;omega) (λb e=>by have e2:some vfh.heap.size=some b:=e;injection e2 with e2;omega);have mE:=vab.trans (af wZ vab.size);exact⟨⟨i+1,_,hlt,by go_num,va8.out.more vcn.out vd0.out (Nat.zero_le _) HP.out KX (va8.out.nD.trans (af mE va8.out.nD.size)),hb.trans (af mE hb.size)⟩,by simp only[intOf];omega⟩
     case inr=>
     go_loop [10] (λy=>∃k:Nat,k≤acc.length∧y=.int .i64 k∧Hid (∀j (hj:j<acc.length),k≤j→Op.bytesLess (List.take (aj t) t) acc[j]=true)) (λy=>(intOf y).toNat)
     case atStart=>exact⟨acc.length,nl _,rfl,λj hj h=>by omega⟩
     case round =>
      obtain⟨k,hk,rfl,vda⟩:=hrel;cases k with
      | zero=>
       have HP:=zh (vag va8.out.vam HQ.out (Nat.zero_le _) vda.out (.inl rfl));have vcy:=hown.alloc (.cells #[] 9);go_wp2_with (first
        | (at_builtin;refine wpList_append_own_at _ rfl _ _ 34 rfl w.heap.size 9 i0 (.string ⟨#[]⟩) 1 16 Tryz.underlying34 gw hz0 hz1 hz2 rfl (by decide) (.slice (some ⟨vfh.heap.size,0,none⟩) 0 0) 0 [] rfl (World.ownsRow_lit vfh #[] 0 (by have:=va8.out.nD.size;have:=vab.size;omega) (by decide) rfl) ⟨g,0,none⟩ 0 co ((aB acc).take 0) rfl (vd1.out _ hk).1 (va9 vcy _) (va3 acc _).1 (by unfold maxLen;omega) (by omega) (by have:=va8.out.nD.size;have:=vab.size;simp;omega) ?_;intro v1 w6 va5 vad _ vaj;rw[Nat.zero_add,List.nil_append] at va5;obtain⟨p6,c6,rfl⟩:=bu va5)
        | (at_builtin;refine wpList_append_own_at _ rfl _ _ 34 rfl w.heap.size 9 i0 (.string ⟨#[]⟩) 1 16 Tryz.underlying34 gw hz0 hz1 hz2 rfl (by decide) _ _ _ rfl (va5.alloc _) ⟨w6.heap.size,0,none⟩ 1 1 [str (List.take (aj t) t)] rfl rfl (cell_one_new _ _ _) (λx hx=>by simp at hx;subst hx;rfl) (by unfold maxLen;omega) (by omega) (by have:=va8.out.nD.size;have:=vab.size;have e6:=vad.size;simp only[World.size_alloc] at e6 ⊢;omega) ?_;intro v2 w7 KX vaf _ vb6;obtain⟨vfc,c7,rfl⟩:=bu KX;have nN:=vax hown cM vad vaj vaf)
        | (at_builtin;refine wpList_append_own_at _ rfl _ _ 34 rfl w.heap.size 9 i0 (.string ⟨#[]⟩) 1 16 Tryz.underlying34 gw hz0 hz1 hz2 rfl (by decide) _ _ _ rfl KX ⟨g,0,none⟩ acc.length co ((aB acc).drop 0) rfl (by simp[aB]) (vao nN _) (va3 acc _).2 (by unfold maxLen;omega) (by omega) (by have:=va8.out.nD.size;have:=vab.size;have e6:=vad.size;have e7:=vaf.size;simp only[World.size_alloc] at e6 e7;omega) ?_;intro v3 w8 vb1 vbv _ _))
       have wZ:=va7 vad vaj vaf vb6 vbv;have mE:=vab.trans (af wZ vab.size);refine⟨⟨i+1,_,hlt,by go_num,va8.out.more vcn.out vd0.out hk HP.out ?_ (va8.out.nD.trans (af mE va8.out.nD.size)),hb.trans (af mE hb.size)⟩,by simp only[intOf];omega⟩;rw[←vcl];rw[show acc.length+1=0+1+acc.length from by omega];exact vb1
      | succ j=>
       have hj:j<acc.length:=by omega
       obtain⟨b2,o2,vdj,c2⟩:=hst.at (List.getElem?_eq_getElem hj);injection vdj with vdj;injection vdj with aC zz;subst aC zz;rw[Nat.zero_add] at c2;have hne:(acc[j]==List.take (aj t) t)=false:=by
        rw[beq_eq_false_iff_ne];intro e;have:=vap.2 (e▸List.getElem_mem hj);rw[HQ.out] at this;simp at this
       have vdq:=zh hne;clear hne;rcases hls:Op.bytesLess acc[j] (List.take (aj t) t) with _|_
       · have ve1:Op.bytesLess (List.take (aj t) t) acc[j]=true:=by
          have:=gH _ _ hls;rw[Bool.or_eq_true] at this;rcases this with h|h
          · exact h
          · have e:List.take (aj t) t=acc[j]:=by simpa using h
            have:=vdq.out;rw[e] at this;simp at this
         have HS:Hid (∀i (hi:i<acc.length),j≤i→Op.bytesLess (List.take (aj t) t) acc[i]=true):=λi hi hji=>by
          by_cases h:i=j
          · subst h;exact ve1
          · exact vda.out i hi (by omega)
         have hne:=vdq.out;clear ve1;go_wp2_with fail
         go_round
         case rel=>exact⟨j,by omega,by go_num,HS⟩
         case measure=>simp[intOf]
       · have HP:=zh (vag va8.out.vam HQ.out hk vda.out (.inr ⟨hj,iR _ _ hls⟩))
         by_cases hco:co=j+1
         · subst hco
           have hnl:acc.length=j+1:=by omega
           have ve3:Hid ((aB acc).drop (j+1)=[]):=by show _=_;simp[aB];omega
           have HL:=zh hnl;clear hnl;have vcy:=hown.alloc (.cells #[] 9);go_wp2_with (first
            | (at_builtin;refine wpList_append_own_at _ rfl _ _ 34 rfl w.heap.size 9 i0 (.string ⟨#[]⟩) 1 16 Tryz.underlying34 gw hz0 hz1 hz2 rfl (by decide) (.slice (some ⟨vfh.heap.size,0,none⟩) 0 0) 0 [] rfl (World.ownsRow_lit vfh #[] 0 (by have:=va8.out.nD.size;have:=vab.size;omega) (by decide) rfl) ⟨g,0,none⟩ (j+1) (j+1) ((aB acc).take (j+1)) rfl (vd1.out _ hk).1 (va9 vcy _) (va3 acc _).1 (by unfold maxLen;omega) (by omega) (by have:=va8.out.nD.size;have:=vab.size;simp;omega) ?_;intro v1 w6 va5 vad _ vaj;rw[Nat.zero_add,List.nil_append] at va5;obtain⟨p6,c6,rfl⟩:=bu va5)
            | (at_builtin;refine wpList_append_own_at _ rfl _ _ 34 rfl w.heap.size 9 i0 (.string ⟨#[]⟩) 1 16 Tryz.underlying34 gw hz0 hz1 hz2 rfl (by decide) _ _ _ rfl (va5.alloc _) ⟨w6.heap.size,0,none⟩ 1 1 [str (List.take (aj t) t)] rfl rfl (cell_one_new _ _ _) (λx hx=>by simp at hx;subst hx;rfl) (by unfold maxLen;omega) (by omega) (by have:=va8.out.nD.size;have:=vab.size;have e6:=vad.size;simp only[World.size_alloc] at e6 ⊢;omega) ?_;intro v2 w7 KX vaf _ vb6;obtain⟨vfc,c7,rfl⟩:=bu KX;have nN:=vax hown cM vad vaj vaf)
            | (at_builtin;refine wpList_append_own_at _ rfl _ _ 34 rfl w.heap.size 9 i0 (.string ⟨#[]⟩) 1 16 Tryz.underlying34 gw hz0 hz1 hz2 rfl (by decide) _ _ _ rfl KX ⟨g,0,none⟩ 0 0 [] rfl rfl (λx u hx=>by simp at hx) (λx hx=>by simp at hx) (by unfold maxLen;omega) (by omega) (by have:=va8.out.nD.size;have:=vab.size;have e6:=vad.size;have e7:=vaf.size;simp only[World.size_alloc] at e6 e7;omega) ?_;intro v3 w8 vb1 vbv _ _))
           have wZ:=va7 vad vaj vaf vb6 vbv;have mE:=vab.trans (af wZ vab.size);refine⟨⟨i+1,_,hlt,by go_num,va8.out.more vcn.out vd0.out hk HP.out ?_ (va8.out.nD.trans (af mE va8.out.nD.size)),hb.trans (af mE hb.size)⟩,by simp only[intOf];omega⟩;rw[←vcl,ve3.out];rw[show acc.length+1=j+1+1+0 from by rw[HL.out]];exact vb1
         · have ve9:j+1<co:=by omega
           have vcy:=hown.alloc (.cells #[] 9);go_wp2_with (first
            | (at_builtin;refine wpList_append_own_at _ rfl _ _ 34 rfl w.heap.size 9 i0 (.string ⟨#[]⟩) 1 16 Tryz.underlying34 gw hz0 hz1 hz2 rfl (by decide) (.slice (some ⟨vfh.heap.size,0,none⟩) 0 0) 0 [] rfl (World.ownsRow_lit vfh #[] 0 (by have:=va8.out.nD.size;have:=vab.size;omega) (by decide) rfl) ⟨g,0,none⟩ (j+1) co ((aB acc).take (j+1)) rfl (vd1.out _ hk).1 (va9 vcy _) (va3 acc _).1 (by unfold maxLen;omega) (by omega) (by have:=va8.out.nD.size;have:=vab.size;simp;omega) ?_;intro v1 w6 va5 vad _ vaj;rw[Nat.zero_add,List.nil_append] at va5;obtain⟨p6,c6,rfl⟩:=bu va5)
            | (at_builtin;refine wpList_append_own_at _ rfl _ _ 34 rfl w.heap.size 9 i0 (.string ⟨#[]⟩) 1 16 Tryz.underlying34 gw hz0 hz1 hz2 rfl (by decide) _ _ _ rfl (va5.alloc _) ⟨w6.heap.size,0,none⟩ 1 1 [str (List.take (aj t) t)] rfl rfl (cell_one_new _ _ _) (λx hx=>by simp at hx;subst hx;rfl) (by unfold maxLen;omega) (by omega) (by have:=va8.out.nD.size;have:=vab.size;have e6:=vad.size;simp only[World.size_alloc] at e6 ⊢;omega) ?_;intro v2 w7 KX vaf _ vb6;obtain⟨vfc,c7,rfl⟩:=bu KX;have nN:=vax hown cM vad vaj vaf)
            | (at_builtin;refine wpList_append_own_at _ rfl _ _ 34 rfl w.heap.size 9 i0 (.string ⟨#[]⟩) 1 16 Tryz.underlying34 gw hz0 hz1 hz2 rfl (by decide) _ _ _ rfl KX ⟨g,j+1,none⟩ (acc.length - (j+1)) (co - (j+1)) ((aB acc).drop (j+1)) rfl (vd1.out _ hk).2 (vao nN _) (va3 acc _).2 (by unfold maxLen;omega) (by omega) (by have:=va8.out.nD.size;have:=vab.size;have e6:=vad.size;have e7:=vaf.size;simp only[World.size_alloc] at e6 e7;omega) ?_;intro v3 w8 vb1 vbv _ _))
           have wZ:=va7 vad vaj vaf vb6 vbv;have mE:=vab.trans (af wZ vab.size);refine⟨⟨i+1,_,hlt,by go_num,va8.out.more vcn.out vd0.out hk HP.out ?_ (va8.out.nD.trans (af mE va8.out.nD.size)),hb.trans (af mE hb.size)⟩,by simp only[intOf];omega⟩;rw[←vcl];rw[show acc.length+1=(j+1)+1+(acc.length - (j+1)) from by omega];exact vb1
theorem vba (s:List UInt8) (hm:s.length≤maxLen) (w:World):
 Calls Tryz.prog 103 #[str s] w λe w'=>∃v,e=.returned (.tuple #[v,.int .i64 (bZ s).2])∧Strs w' v (bZ s).1∧Below w.heap.size w w':=by
 rcases hq:aq s with⟨c,T⟩
 by_cases hc:c=0
 · subst hc
   rw[show bZ s=(gB (pX T.ins),0) by unfold bZ;rw[hq];rfl];exact vb2 s T hq w
 · have hI:=Hx s hm w
   rw[show cT s=([],c) by unfold cT;rw[hq,if_neg hc]] at hI;rw[show bZ s=([],c) by unfold bZ;rw[hq,if_neg hc]];obtain⟨g1,g2⟩:=bK hc;clear hq hc;go_enter Tryz.func103,Tryz.ntmps103;go_wp2_with (go_at_call 127;refine hI.mono ?_;clear hI;rintro e w1 ⟨v,rfl,hv,au⟩;obtain⟨pv,cv,rfl⟩:=hv.sh);go_ret2;exact⟨_,rfl,Sl.nil _,au⟩
end Go.Proofs.YtakgjcfkdemipaaGreatDoor
