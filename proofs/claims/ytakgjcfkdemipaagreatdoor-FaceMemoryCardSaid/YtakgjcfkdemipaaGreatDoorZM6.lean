/-
  Lemmas: operations of types (plain): sorted by name; each name once; what a need asks, seen from either side. Conditions: bounds of lengths; the variable strings.asciiSpace.
-/
import Derived.Test.YtakgjcfkdemipaaGreatDoorZB15
import Derived.Test.YtakgjcfkdemipaaGreatDoorZBn
import Derived.Test.YtakgjcfkdemipaaGreatDoorZM1
import Derived.Test.YtakgjcfkdemipaaGreatDoorZM5
set_option maxHeartbeats 3200000
set_option maxRecDepth 8000
namespace Go.Proofs.YtakgjcfkdemipaaGreatDoor
open Go.RowKit
def vcp (raw:List aL) (a:List UInt8) (t:List UInt8) (n:aL):Bool:=
 decide ((eF n.sig t).2=0)&&raw.any λo=>decide ((eF o.sig a).2=0)&&decide (o.name=n.name)&&pK (eF o.sig a).1 (eF n.sig t).1
theorem ve3 {l:List aL} (h:iq l) {o:aL} (ho:o∈l):l.find? (λx=>decide (x.name=o.name))=some o:=by
 induction l with
 | nil=>cases ho
 | cons y l ih=>
  unfold iq at h;rw[List.map_cons,List.nodup_cons] at h;rcases List.mem_cons.1 ho with rfl|ho
  · rw[List.find?_cons_of_pos (by simp)]
  · rw[List.find?_cons_of_neg,ih h.2 ho]
    simp only[decide_eq_true_eq];intro e;exact h.1 (by rw[e];exact List.mem_map_of_mem ho)
theorem vf3 (c : bw) (t : List UInt8) (n : aL) {raw : List aL} (ho : iq (dU c t).1) (hp : raw.Perm (dU c t).1) : vcp raw (dU c t).2 t n = !Bd c t n := by
 have vka:∀p:aL→Bool,raw.any p=(dU c t).1.any p:=λp=>by
  rw[Bool.eq_iff_iff,List.any_eq_true,List.any_eq_true]
  constructor
  · rintro⟨x,hx,h⟩;exact⟨x,hp.mem_iff.1 hx,h⟩
  · rintro⟨x,hx,h⟩;exact⟨x,hp.mem_iff.2 hx,h⟩
 unfold vcp Bd
 rw[vka]
 unfold ng
 by_cases h1:(eF n.sig t).2=0
 · rcases hq:(dU c t).1.find? (λo=>decide (o.name=n.name)) with _|o
   · have:(dU c t).1.any (λo=>decide ((eF o.sig (dU c t).2).2=0)&&decide (o.name=n.name)&&pK (eF o.sig (dU c t).2).1 (eF n.sig t).1)=false:=by
      rw[List.any_eq_false];intro x hx;have:=List.find?_eq_none.1 hq x hx;simp only[decide_eq_true_eq] at this;simp[this]
     rw[this];simp only[hq];simp
   · have hm:=List.mem_of_find?_eq_some hq
     have hnm:o.name=n.name:=by simpa using List.find?_some hq
     have:(dU c t).1.any (λo=>decide ((eF o.sig (dU c t).2).2=0)&&decide (o.name=n.name)&&pK (eF o.sig (dU c t).2).1 (eF n.sig t).1)=(decide ((eF o.sig (dU c t).2).2=0)&&pK (eF o.sig (dU c t).2).1 (eF n.sig t).1):=by
      rw[Bool.eq_iff_iff,List.any_eq_true]
      constructor
      · rintro⟨x,hx,h⟩
        simp only[Bool.and_eq_true,decide_eq_true_eq] at h;have:=ve3 ho hx;rw[h.1.2,hq] at this;injection this with this;subst this;simp[h.1.1,h.2]
      · intro h
        exact⟨o,hm,by simp only[Bool.and_eq_true,decide_eq_true_eq] at h;simp[h.1,h.2,hnm]⟩
     rw[this];simp only[hq];simp[h1]
 · simp[h1]
theorem vg2 {t:List UInt8} (h0:(aq t).1=0) (hk:(aq t).2.k=1∨(aq t).2.k=2):t=if(aq t).2.k=1 then mA else gC:=by
 rcases hq:aq t with⟨c,T⟩
 rw[hq] at h0 hk
 simp only at h0 hk ⊢
 subst h0
 obtain⟨o1,e1,_⟩:=bC hq
 obtain⟨k,n,sub⟩:=T
 simp only at hk ⊢
 have h':Wf none (.cons [] k n sub .nil):=o1
 cases h' with
 | word _ _=>
  rw[←e1];rcases hk with rfl|rfl
  · rfl
  · rfl
 | rcd _ _ _ hk2=>omega
 | par=>omega
 | arr=>omega
 | nam=>omega
 | app=>omega
def vb9:List UInt8:=[101,113,117,97,108]
def vdp:List UInt8:=[111,118,101,114,102,108,111,119]
def vgl:List UInt8:=[122,101,114,111,100,105,118,105,100,101]
def vcc:List UInt8:=[98,111,117,110,100,115]
def vaj (c:bw) (t:List UInt8):List aL:=
 match (aq t).2.k with
 | 1=>[⟨[97,100,100],sg mA [t,t] [vdp]⟩,⟨[115,117,98],sg mA [t,t] [vdp]⟩,⟨[109,117,108],sg mA [t,t] [vdp]⟩,⟨[100,105,118],sg mA [t,t] [vgl]⟩,⟨[109,111,100],sg mA [t,t] [vgl]⟩,⟨[108,116],sg gC [t,t] []⟩,⟨[108,101],sg gC [t,t] []⟩,⟨vb9,sg gC [t,t] []⟩]
 | 2=>[⟨[97,110,100],sg gC [t,t] []⟩,⟨[111,114],sg gC [t,t] []⟩,⟨vb9,sg gC [t,t] []⟩,⟨[110,111,116],sg gC [t] []⟩]
 | 3=>[⟨vb9,sg gC [t,t] []⟩]
 | 4=>[⟨[110,101,119],sg t [] []⟩,⟨[115,105,122,101],sg mA [t] []⟩,⟨[97,100,100,104],sg [] [t,(bQ t).1] [vdp]⟩,⟨[114,101,109,104],sg (bQ t).1 [t] [vcc]⟩,⟨[102,101,116,99,104],sg (bQ t).1 [t,mA] [vcc]⟩,⟨[115,116,111,114,101],sg [] [t,mA,(bQ t).1] [vcc]⟩,⟨vb9,sg gC [t,t] []⟩]
 | 5=>((dJ t).1.flatMap λp=>[⟨[103,101,116,95]++p.1,sg p.2 [t] []⟩,⟨[115,101,116,95]++p.1,sg [] [t,p.2] []⟩])++[⟨[109,97,107,101],sg t ((dJ t).1.map (·.2)) []⟩,⟨vb9,sg gC [t,t] []⟩]
 | 6=>((dJ t).1.flatMap λp=>[⟨[109,97,107,101,95]++p.1,sg t [p.2] []⟩,⟨[105,115,95]++p.1,sg gC [t] []⟩])++[⟨vb9,sg gC [t,t] []⟩]
 | 7=>((ew c.dG (eH t).1).map (·.ops)).getD []
 | 8=>c.ag
 | _=>[]
theorem vfx {α:Type} (z:α) (L:List α) (ix:List Nat) (h:ix.Perm (List.range L.length)):(ix.map λi=>L.getD i z).Perm L:=by
 have e:(List.range L.length).map (λi=>L.getD i z)=L:=by
  apply List.ext_getElem
  · simp
  · intro i h1 h2
    simp[List.getD_eq_getElem?_getD,h2]
 have:=h.map λi=>L.getD i z
 rwa [e] at this
theorem vcf {α:Type} (z:α) {L L':List α} (ix:List Nat) (h:ix.Perm (List.range L.length)) (he:L'=ix.map λi=>L.getD i z):L'.Perm L:=he▸vfx z L ix h
theorem vbz {α β:Type} (f g:α→β):∀l:List α,(l.flatMap λp=>[f p,g p]).Perm (l.flatMap λp=>[g p,f p])
 | []=>.refl _
 | p::l=>by
  rw[List.flatMap_cons,List.flatMap_cons];exact List.Perm.append (.swap _ _ _) (vbz f g l)
theorem vax (c:bw) {t:List UInt8} (h0:(aq t).1=0):(vaj c t).Perm (dU c t).1:=by
 have hw:=vg2 h0
 have hk:=gl h0
 unfold vaj dU
 simp only
 generalize (aq t).2.k=k at *
 have hz:aL:=⟨[],.zero⟩
 match k,hk with
 | 1,_=>
  have ht:t=mA:=hw (.inl rfl);subst ht;exact vcf hz [3,4,5,6,7,2,1,0] (by simp only[List.length_append,List.length_map,List.length_cons,List.length_nil];decide) rfl
 | 2,_=>
  have ht:t=gC:=hw (.inr rfl);subst ht;exact vcf hz [1,2,0,3] (by simp only[List.length_cons,List.length_nil];decide) rfl
 | 3,_=>exact .refl _
 | 4,_=>
  exact vcf hz [3,5,1,4,2,6,0] (by simp only[List.length_cons,List.length_nil];decide) rfl
 | 5,_=>
  simp only;rw[show ∀(l:List aL) (a b:aL),l++[a,b]=(l++[a])++[b] from λl a b=>by simp];exact List.perm_append_singleton _ _
 | 6,_=>exact(List.perm_append_singleton _ _).trans ((vbz _ _ _).cons _)
 | 7,_=>exact .refl _
 | 8,_=>exact .refl _
theorem vaa (l:List aL) (x:aL):lH (l++[x])=qX x (lH l):=by unfold lH;rw[List.foldl_append];rfl
theorem vcm (x:aL) (l:List aL):(qX x l).length=l.length+1:=by rw[(lT x l).length_eq];rfl
theorem vba (l:List aL):(lH l).length=l.length:=(nB l).length_eq
def vao (x:aL):List aL→Nat
 | []=>0
 | y::l=>if Op.bytesLess y.name x.name=true then vao x l+1 else 0
theorem vco (x:aL):∀l:List aL,vao x l≤l.length
 | []=>nl _
 | y::l=>by
  unfold vao;split
  · have:=vco x l;rw[List.length_cons];omega
  · exact Nat.zero_le _
theorem vdn (x:aL):∀l:List aL,qX x l=l.take (vao x l)++x::l.drop (vao x l)
 | []=>rfl
 | y::l=>by
  unfold qX vao;split
  · rw[vdn x l];rfl
  · rfl
theorem vbo {x y:aL}:∀{l:List aL} {i:Nat},l[i]? =some y→i≤vao x l→(Op.bytesLess y.name x.name=true→i+1≤vao x l)∧(Op.bytesLess y.name x.name=false→vao x l=i)
 | [],i,h,_=>by simp at h
 | z::l,0,h,_=>by
  simp only[List.getElem?_cons_zero,Option.some.injEq] at h;subst h;unfold vao;exact⟨λh=>by rw[if_pos h];omega,λh=>by rw[if_neg (by simp[h])]⟩
 | z::l,i+1,h,hi=>by
  rw[List.getElem?_cons_succ] at h;unfold vao at hi ⊢;split at hi
  · rename_i hz
    rw[if_pos hz];obtain⟨h1,h2⟩:=vbo (x:=x) h (by omega);exact⟨λh=>by have:=h1 h;omega,λh=>by rw[h2 h]⟩
  · omega
theorem vcg (s:List UInt8) (hm:s.length≤maxLen) (w:World):Calls Tryz.prog 86 #[str s] w λe w'=>e=.returned (.tuple #[str (if(aq s).1=0 then s else []),.int .i64 (if(aq s).1=0 then 0 else 2:Nat)])∧Below w.heap.size w w':=by
 have hC:=nw s hm w
 by_cases hc:(aq s).1=0
 · rw[if_pos hc,if_pos hc]
   rw[hc] at hC;clear hc;go_enter Tryz.func86,Tryz.ntmps86;go_wp2_with (go_at_call 84;refine hC.mono ?_;clear hC;rintro e w1 ⟨rfl,au⟩);go_ret2;exact⟨rfl,au⟩
 · rw[if_neg hc,if_neg hc]
   generalize (aq s).1=C at hC hc;obtain⟨g1,g2⟩:=bK hc;clear hc;go_enter Tryz.func86,Tryz.ntmps86;go_wp2_with (go_at_call 84;refine hC.mono ?_;clear hC;rintro e w1 ⟨rfl,au⟩);go_ret2;exact⟨rfl,au⟩
theorem vb1 {t:Tr} (h:t.ok):(if(aq t.txt).1=0 then t.txt else [])=(kJ t).1∧(if(aq t.txt).1=0 then 0 else 2:Nat)=(kJ t).2:=by
 unfold kJ
 rw[oq h]
 split<;>simp
theorem vbv {t:Tr} (h:t.ok) (hm:t.txt.length≤maxLen) (w:World):Calls Tryz.prog 86 #[str t.txt] w λe w'=>e=.returned (.tuple #[str (kJ t).1,.int .i64 (kJ t).2])∧Below w.heap.size w w':=by
 have hC:=vcg t.txt hm w
 rw[(vb1 h).1,(vb1 h).2] at hC
 exact hC
theorem vff {a s:List UInt8} {k:Nat} (hk:k<s.length) (hc:s[k]≠63):subst a (s.drop k)=s[k]::subst a (s.drop (k+1)):=by
 rw[List.drop_eq_getElem_cons hk,fC _ _ _ hc]
theorem vem {a s:List UInt8} {k:Nat} (hk:k<s.length) (hc:s[k]=63):subst a (s.drop k)=a++subst a (s.drop (k+2)):=by
 rw[List.drop_eq_getElem_cons hk,hc]
 by_cases h:k+1<s.length
 · rw[List.drop_eq_getElem_cons h,CS]
 · rw[List.drop_of_length_le (by omega),List.drop_of_length_le (by omega)]
   simp[subst]
theorem vb0 {s:List UInt8} {k:Nat} (hk:k<s.length):List.drop k (List.take (k+1) s)=[s[k]]:=by
 rw[List.drop_take,show k+1 - k=1 from by omega,List.drop_eq_getElem_cons hk]
 rfl
theorem vdg (s u:List UInt8) (t a:Tr) (hs:aq s=(0,t)) (hu:aq u=(0,a)) (w:World):
 Calls Tryz.prog 35 #[str s,str u] w λe w'=>e=.returned (.tuple #[str (kJ (t.put a)).1,.int .i64 (kJ (t.put a)).2])∧Below w.heap.size w w':=by
 obtain⟨h1,h2,h3,_⟩:=bC hs
 obtain⟨k1,k2,k3,_⟩:=bC hu
 have hC:=λW=>nw s (by unfold maxLen;omega) W
 have hD:=λW=>nw u (by unfold maxLen;omega) W
 rw[hs] at hC
 rw[hu] at hD
 have hX:subst u s=(t.put a).txt:=by rw[←h2,←k2,h1.subst]
 have hL:=λW hm=>vbv (k1.put h1) hm W
 generalize (kJ (t.put a)).1=R at hL ⊢
 generalize (kJ (t.put a)).2=E at hL ⊢
 generalize (t.put a).txt=X at hX hL
 have HX:=zh hX
 have HL:=zh hL
 clear hX hL hs hu h1 h2 k1 k2
 go_enter Tryz.func35,Tryz.ntmps35
 go_wp2_with (first
  | (go_at_call 84;refine(hC _).mono ?_;clear hC;rintro e w1 ⟨rfl,au⟩)
  | (go_at_call 84;refine(hD _).mono ?_;clear hD;rintro e w2 ⟨rfl,aC⟩))
 have hb:=au.trans (af aC au.size)
 clear au aC
 go_loop [7,8] (λx i=>∃(k:Nat) (o:List UInt8),k≤s.length+1∧o.length≤100 * k∧Hid (subst u s=o++subst u (s.drop k))∧x=str o∧i=.int .i64 k) (λ_ i=>s.length+1 - (intOf i).toNat)
 case atStart=>exact⟨0,[],by omega,by simp,rfl,rfl,rfl⟩
 case round =>
  obtain⟨k,o,hk,ho,HO,rfl,rfl⟩:=hrel
  by_cases hlt:k<s.length
  · have b1:¬9223372036854775807<o.length+u.length:=by omega
    by_cases hc:s[k]=63
    · have HS:=zh (show subst u s=(o++u)++subst u (s.drop (k+2)) by rw[HO.out,vem hlt hc];simp)
      have g:(((s[k]).toNat:Int)==63)=true:=by rw[hc];rfl
      clear hc;go_wp2_with fail
      go_round
      case rel=>exact⟨k+2,o++u,by omega,by simp only[List.length_append];omega,HS.out,rfl,by go_num⟩
      case measure=>simp[intOf];omega
    · have HS:=zh (show subst u s=(o++List.drop k (List.take (k+1) s))++subst u (s.drop (k+1)) by rw[HO.out,vff hlt hc,vb0 hlt];simp)
      have g:(((s[k]).toNat:Int)==63)=false:=by rw[beq_eq_false_iff_ne];exact nY (d:=63) hc
      have b2:¬9223372036854775807<o.length+1:=by omega
      have hl1:(List.drop k (List.take (k+1) s)).length=1:=by rw[vb0 hlt];rfl
      have vlu:=zh hl1;clear hc hl1;go_wp2_with fail
      go_round
      case rel=>exact⟨k+1,o++List.drop k (List.take (k+1) s),by omega,by rw[List.length_append,vlu.out];omega,HS.out,rfl,by go_num⟩
      case measure=>simp[intOf];omega
  · have HS:Hid (X=o):=by
     show X=o
     rw[←HX.out,HO.out,List.drop_of_length_le (by omega)];simp[subst]
    have hm:o.length≤maxLen:=by unfold maxLen;omega
    obtain rfl:X=o:=HS.out;go_wp2_with (go_at_call 86;refine(HL.out _ hm).mono ?_;rintro e w3 ⟨rfl,aH⟩);go_ret2;exact⟨rfl,hb.trans (af aH hb.size)⟩
theorem vel (s u:List UInt8) (ms:s.length≤maxLen) (mu:u.length≤maxLen) (c:Nat) (hc:(jC s u).2.2=c) (h0:c≠0) (w:World):
 Calls Tryz.prog 35 #[str s,str u] w λe w'=>e=.returned (.tuple #[str [],.int .i64 c])∧Below w.heap.size w w':=by
 have hC:=λW=>nw s ms W
 have hD:=λW=>nw u mu W
 unfold jC at hc
 obtain⟨g1,g2⟩:=bK h0
 by_cases h1:(aq s).1=0
 · rw[if_pos h1] at hc
   rw[h1] at hC;simp only at hc;rw[hc] at hD;clear hc h1 h0;go_enter Tryz.func35,Tryz.ntmps35;go_wp2_with (first
    | (go_at_call 84;refine(hC _).mono ?_;clear hC;rintro e w1 ⟨rfl,au⟩)
    | (go_at_call 84;refine(hD _).mono ?_;clear hD;rintro e w2 ⟨rfl,aC⟩))
   go_ret2;exact⟨rfl,au.trans (af aC au.size)⟩
 · rw[if_neg h1] at hc
   simp only at hc;rw[hc] at hC;clear hc h1 h0;go_enter Tryz.func35,Tryz.ntmps35;go_wp2_with (go_at_call 84;refine(hC _).mono ?_;clear hC;rintro e w1 ⟨rfl,au⟩);go_ret2;exact⟨rfl,au⟩
theorem vek (s u:List UInt8) (ms:s.length≤maxLen) (mu:u.length≤maxLen) (w:World):
 Calls Tryz.prog 35 #[str s,str u] w λe w'=>e=.returned (.tuple #[str (aV s u).1,.int .i64 (aV s u).2])∧Below w.heap.size w w':=by
 by_cases hc:(jC s u).2.2=0
 · rcases hq:jC s u with⟨t,a,c⟩
   rw[hq] at hc;simp only at hc;subst hc;obtain⟨h3,h4⟩:=BA hq;rw[Fe h3 h4];exact vdg s u t a h3 h4 w
 · rw[show aV s u=([],(jC s u).2.2) by unfold aV;rw[if_neg hc]]
   exact vel s u ms mu _ rfl hc w
