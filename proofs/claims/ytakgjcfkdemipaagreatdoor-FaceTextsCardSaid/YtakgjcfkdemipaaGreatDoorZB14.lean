/-
  Lemmas for the statement: contract: kind.Names. Conditions: bounds of lengths; the variable strings.asciiSpace.
-/
import Derived.Test.YtakgjcfkdemipaaGreatDoorZBn
import Derived.Test.YtakgjcfkdemipaaGreatDoorZB11
import Derived.Test.YtakgjcfkdemipaaGreatDoorZB13
set_option maxHeartbeats 3200000
namespace Go.Proofs.YtakgjcfkdemipaaGreatDoor
open Go.RowKit Go.Shelf Go.Maps
attribute [local go_sem] Oper.semAt_some
def pX (ts:List Tr):List (List UInt8):=(ts.filter λt=>decide (t.k=7)).map (·.n)
def kI {w₀:World} {n₀:Nat} {Q:Tr→Prop} (pre:List (TV w₀ n₀ Q)):List (List UInt8):=pX (pre.map λx=>x.1.1)
theorem zX {w₀:World} {n₀:Nat} {Q:Tr→Prop} (pre:List (TV w₀ n₀ Q)) (x:TV w₀ n₀ Q):kI (pre++[x])=if x.1.1.k=7 then kI pre++[x.1.1.n] else kI pre:=by
 unfold kI pX
 rw[List.map_append,List.filter_append,List.map_append]
 by_cases h:x.1.1.k=7
 · rw[if_pos h];simp[h]
 · rw[if_neg h];simp[h]
theorem ug {w₀:World} {n₀:Nat} {Q:Tr→Prop} (pre:List (TV w₀ n₀ Q)):(kI pre).length≤pre.length:=by
 unfold kI pX
 rw[List.length_map]
 refine Nat.le_trans (List.length_filter_le _ _) ?_
 rw[List.length_map];exact nl _
def iX (l:List (List UInt8)):List (List UInt8):=l.foldl (λacc s=>if hasB acc s then acc else acc++[s]) []
theorem kn : ∀ (l acc : List (List UInt8)), acc.Nodup → (l.foldl (fun acc s => if hasB acc s then acc else acc ++ [s]) acc).Nodup ∧ ∀ x, x ∈ l.foldl (fun acc s => if hasB acc s then acc else acc ++ [s]) acc ↔ x ∈ acc ∨ x ∈ l
 | [],acc,h=>⟨h,by simp⟩
 | s :: l, acc, h => by
  rw[List.foldl_cons]
  by_cases hs:hasB acc s=true
  · rw [if_pos hs]
    have hs':s∈acc:=by simpa[hasB] using hs
    obtain⟨h1,h2⟩:=kn l acc h;refine⟨h1,λx=>(h2 x).trans ?_⟩
    constructor
    · rintro(h|h)
      · exact .inl h
      · exact .inr (by simp[h])
    · rintro(h|h)
      · exact .inl h
      · rcases List.mem_cons.1 h with rfl|h
        · exact .inl hs'
        · exact .inr h
  · rw[if_neg hs]
    have hs':s∉acc:=λh=>hs (by simpa[hasB] using h)
    obtain⟨h1,h2⟩:=kn l (acc++[s]) (List.nodup_append.2 ⟨h,by simp,λa ha b hb=>by simp at hb;subst hb;exact λe=>hs' (e▸ha)⟩);refine⟨h1,λx=>(h2 x).trans ?_⟩;simp only[List.mem_append,List.mem_cons,List.not_mem_nil,or_false]
    constructor
    · rintro((h|h)|h)
      · exact .inl h
      · exact .inr (.inl h)
      · exact .inr (.inr h)
    · rintro(h|h|h)
      · exact .inl (.inl h)
      · exact .inl (.inr h)
      · exact .inr h
theorem o8 (l:List (List UInt8)):(iX l).Nodup:=(kn l [] List.nodup_nil).1
theorem l5 (l:List (List UInt8)) (x:List UInt8):x∈iX l↔x∈l:=by
 have:=(kn l [] List.nodup_nil).2 x
 simpa[iX] using this
def gB (l:List (List UInt8)):List (List UInt8):=(iX l).mergeSort leB
theorem aS.perm {w:World} {b:Nat} {acc:List (List UInt8)} (h:aS w b acc):(iX acc).Perm (strKeys (setOf (H:=Unit) (.lit (.bool true)) (keysOf acc))):=by
 refine Collected.perm (left:=λ_=>false) ⟨o8 acc,λx=>?_⟩ h (string_keyed Tryz.underlying9) Tryz.underlying9 (λ_=>rfl)
 rw[l5,has_setOf _ _ _ (rj acc),ri]
 simp
theorem oE (l:List (List UInt8)):(iX l).length≤l.length:=by
 have:∀(l acc:List (List UInt8)),(l.foldl (λacc s=>if hasB acc s then acc else acc++[s]) acc).length≤acc.length+l.length:=by
  intro l
  induction l with
  | nil=>intro acc;simp
  | cons t ts ih=>
   intro acc;rw[List.foldl_cons];refine Nat.le_trans (ih _) ?_;split<;>simp<;>omega
 simpa[iX] using this l []
theorem nW (D:DataW Unit):size D=(strKeys D).length:=by cases D<;>simp[size,strKeys]
theorem Jk (m:Nat):AnyZ.SortsIn Tryz.prog Tryz.pM Fence.wide m:=
 ⟨λblk off cap ss W hH hblk hsz=>callsIn_wide.2 (Tryz.slices_Sort_string blk off cap ss W hH hblk hsz),λp cap W=>callsIn_wide.2 (Tryz.slices_Sort_string_none p cap W)⟩
theorem Eh (mb:Option Nat) (W:World):CallsIn Fence.wide 5 Tryz.prog 160 #[.map mb] W λe w'=>e=.returned (.func (.func 218) #[] #[.pointer (some ⟨W.heap.size,0,none⟩)])∧w'=W.alloc (.cells #[.map mb] 112):=
 AnyZ.keys_in Tryz.Hg Fence.wide 5 trivial rfl mb W
theorem AB (b:Nat) (acc:List (List UInt8)) (W:World) (hs:aS W b acc) (hl:acc.length≤1000):
 CallsIn Fence.wide 5 Tryz.prog 159 #[.func (.func 218) #[] #[.pointer (some ⟨W.heap.size,0,none⟩)]] (W.alloc (.cells #[.map (some b)] 112)) λe w'=>
  ∃v,e=.returned v∧w'.ownsRow W.heap.size 9 1 v (gB acc).length (aB (gB acc))∧Below W.heap.size W w':=by
 have hp:=hs.perm
 have hsz:size (setOf (H:=Unit) (.lit (.bool true)) (keysOf acc))≤1000:=by
  rw[nW,←hp.length_eq];exact Nat.le_trans (oE acc) hl
 have DM:=hs.lt
 have hseq:SeqGives Fence.wide 2 Tryz.prog 218 #[.pointer (some ⟨W.heap.size,0,none⟩)] encStr (λss=>ss.Perm (strKeys (setOf (H:=Unit) (.lit (.bool true)) (keysOf acc)))) (size (setOf (H:=Unit) (.lit (.bool true)) (keysOf acc))) (W.alloc (.cells #[.map (some b)] 112)):=
  AnyZ.keys_gives (ρ:=Tryz.tV) {Tryz.Hg with } Fence.wide _ trivial rfl (by omega) W.heap.size b acc.length _ _ (by simp) (by simp) (by
   obtain⟨es,clock,hb,Ft,hs,hD⟩:=hs;exact⟨es,clock,(Below.heap_alloc _ _ b DM).trans hb,Ft,hs,hD⟩)
 have cS:=AnyZ.sorted_in Tryz.Gv Fence.wide 5 trivial trivial trivial trivial rfl (by omega) (Jk _) (enters_of Tryz.func102 (by kernel_rfl) rfl) 218 #[.pointer (some ⟨W.heap.size,0,none⟩)] trivial (enters_of Tryz.func218 (by kernel_rfl) rfl) _ _ (by unfold maxLen;omega) (by omega) _ hseq
 refine CallsIn.mono cS ?_
 rintro e w' ⟨v,ss,rfl,hS,hrow,_,hb⟩
 have he:ss.mergeSort leB=gB acc:=mergeSort_of_perm (hS.trans hp.symm)
 have aC:Below W.heap.size W w':=((zb W).alloc zr _).trans (af hb (by simp))
 refine⟨v,rfl,?_,aC⟩
 have nM:=kr (base':=W.heap.size) hrow (by simp)
 have hlen:ss.length=(gB acc).length:=by rw[←he,List.length_mergeSort]
 rw[hlen] at nM
 rw[←he]
 rw[←he] at nM
 exact nM
def bZ (s:List UInt8):List (List UInt8)×Nat:=if(aq s).1=0 then(gB (pX (aq s).2.ins),0) else([],(aq s).1)
structure uN (w1:World) (B6 M n₁:Nat) (acc:List (List UInt8)) (W:World):Prop where
 mp:Boxed W B6 112 (.map (some M))
 set:aS W M acc
 nD:Below w1.heap.size w1 W
 size:n₁≤W.heap.size
theorem uN.kept {w1:World} {B6 M n₁:Nat} {acc:List (List UInt8)} {W W':World} {row:Option Nat} (h:uN w1 B6 M n₁ acc W) (hM:M<n₁) (hn:w1.heap.size≤n₁) (hg:W.grownBy W' row) (hr:∀r,row=some r→n₁≤r∧∃o:Obj,W.heap[r]? =some o∧o.isCells=false):uN w1 B6 M n₁ acc W':=by
 refine⟨h.mp.kept hg (λe=>?_),h.set.kept hg (λe=>by have:=(hr _ e.symm).1;omega),h.nD.grown hg (by have:=h.size;omega) (λk e=>by have:=(hr k e).1;omega),Nat.le_trans h.size hg.size⟩
 obtain⟨_,o,ho,hc⟩:=hr _ e.symm
 rw[show W.heap[B6]? =_ from h.mp] at ho
 cases ho
 cases hc
theorem En {β:Type} (w1:World) (B6 M n₁:Nat) (hM:M<n₁) (hn:w1.heap.size≤n₁) (f:β→List (List UInt8)):OwnFrom n₁ (λs W=>uN w1 B6 M n₁ (f s) W):=
 λ_ _ _ _ hs hg hr=>hs.kept hM hn hg hr
theorem uN.add {w1:World} {B6 M n₁:Nat} {acc:List (List UInt8)} {W3 W4:World} {k:List UInt8} (h:uN w1 B6 M n₁ acc W3) (hs:aS W4 M (acc++[k])) (hg:W3.grownBy W4 (some M)) (h6:B6≠M) (_hn:w1.heap.size≤n₁) (hM:w1.heap.size≤M) (hM1:M<n₁):
 uN w1 B6 M n₁ (acc++[k]) W4∧iK w1.heap.size n₁ W3 W4∧KeepsFrom n₁ W3 W4:=
 ⟨⟨h.mp.kept hg (fun e => h6 (by cases e; rfl)), hs, h.nD.grown hg (by have := h.size; omega) (fun k e => by cases e; exact hM), Nat.le_trans h.size hg.size⟩,
  (iK.refl _ _ _).grown hg (by have:=h.size;omega) (λr e=>by cases e;exact⟨hM,.inl hM1⟩),KeepsFrom.of_grownBy hg (λj e=>by cases e;exact hM1)⟩
set_option maxRecDepth 4000 in
theorem Cl (s:List UInt8) (ms:s.length≤maxLen) (w:World) (ht:dW w) (hc:(aq s).1=0):Calls Tryz.prog 101 #[str s] w (di w (bZ s)):=by
 have HK:=zh (show bZ s=(gB (pX (aq s).2.ins),0) by unfold bZ;rw[if_pos hc])
 have HC:=cF s ms w ht
 unfold bJ at HC
 rcases hq:aq s with⟨c,t⟩
 rw[hq] at HC HK hc
 simp only at HC HK hc
 subst hc
 obtain⟨ot,et,lt,vt⟩:=bC hq
 have hlt:t.txt.length≤100:=by rw[et];exact lt
 have hil:=ot.lV
 clear hq ot et lt vt
 have hmm:=@run_makeMap Tryz.prog
 refine(callsIn_wide (n:=6)).1 ?_
 refine callsIn_of_wp_marks Tryz.func101 rfl trivial ?_ rfl
 simp only[Tryz.ntmps101,List.size_toArray,List.length_cons,List.length_nil,Nat.reduceAdd,Nat.reduceSub,Array.replicate_succ,Array.replicate_zero,List.push_toArray,List.append_toArray,List.nil_append,List.cons_append]
 gi_wp2_with (first|(refine⟨trivial,?_⟩;gi_at_call 157;refine(callsIn_wide.2 HC).mono ?_;rintro e w1 ⟨v,rfl,hv,au⟩;obtain⟨p,c,rfl,_⟩:=hv.shape)|(refine⟨trivial,?_⟩;gi_at_call 158;refine(mW _ _ _ _ _ _ _).mono ?_;rintro e w' ⟨rfl,rfl⟩))
 have hb0:=(((Below.refl w1.heap.size w1).alloc zr (.cells #[.int .u8 t.k,str t.n,.slice p t.sub.len c] 174)).alloc (by simp) (.map #[] 0)).alloc (by simp;omega) (.cells #[.map (some (w1.heap.size+1))] 112)
 have z1:(w1.alloc (.cells #[.int .u8 t.k,str t.n,.slice p t.sub.len c] 174)).heap.size=w1.heap.size+1:=by simp
 have z3:((w1.alloc (.cells #[.int .u8 t.k,str t.n,.slice p t.sub.len c] 174)).alloc (.map #[] 0)).heap.size=w1.heap.size+1+1:=by simp
 have z4:(((w1.alloc (.cells #[.int .u8 t.k,str t.n,.slice p t.sub.len c] 174)).alloc (.map #[] 0)).alloc (.cells #[.map (some (w1.heap.size+1))] 112)).heap.size=w1.heap.size+1+1+1:=by simp
 have D5:Boxed (((w1.alloc (.cells #[.int .u8 t.k,str t.n,.slice p t.sub.len c] 174)).alloc (.map #[] 0)).alloc (.cells #[.map (some (w1.heap.size+1))] 112)) (w1.heap.size+1+1) 112 (.map (some (w1.heap.size+1))):=z3▸Boxed.new _ _ _
 have KT:aS (((w1.alloc (.cells #[.int .u8 t.k,str t.n,.slice p t.sub.len c] 174)).alloc (.map #[] 0)).alloc (.cells #[.map (some (w1.heap.size+1))] 112)) (w1.heap.size+1) []:=(z1▸aS.made _:aS _ (w1.heap.size+1) []).kept (World.grownBy_alloc _ _ none) (by simp)
 have F7:=cI z4 #[.int .u8 t.k,str t.n,.slice p t.sub.len c] 174
 have z5:((((w1.alloc (.cells #[.int .u8 t.k,str t.n,.slice p t.sub.len c] 174)).alloc (.map #[] 0)).alloc (.cells #[.map (some (w1.heap.size+1))] 112)).alloc (.cells #[.int .u8 t.k,str t.n,.slice p t.sub.len c] 174)).heap.size=w1.heap.size+4:=by simp
 have hI0:uN w1 (w1.heap.size+1+1) (w1.heap.size+1) (w1.heap.size+4) [] ((((w1.alloc (.cells #[.int .u8 t.k,str t.n,.slice p t.sub.len c] 174)).alloc (.map #[] 0)).alloc (.cells #[.map (some (w1.heap.size+1))] 112)).alloc (.cells #[.int .u8 t.k,str t.n,.slice p t.sub.len c] 174)):=
  ⟨D5.alloc _,KT.kept (World.grownBy_alloc _ _ none) (by simp),hb0.alloc (by simp;omega) _,by omega⟩
 clear z1 z3 z4 D5 KT hb0
 generalize (((w1.alloc (.cells #[.int .u8 t.k,str t.n,.slice p t.sub.len c] 174)).alloc (.map #[] 0)).alloc (.cells #[.map (some (w1.heap.size+1))] 112)).alloc (.cells #[.int .u8 t.k,str t.n,.slice p t.sub.len c] 174)=W0 at *
 rw[←z5] at hI0
 have NW:w1.heap.size+4≤W0.heap.size:=by omega
 clear z5
 have lu:w1.heap.size≤W0.heap.size:=by omega
 have hz:=au.size
 refine wpIn_rangeFunc_ownH (α:=TV w1 w1.heap.size (λx=>x.txt.length≤100)) rfl (show 1≤6 by decide) (gf:=213) (lb:= #[.pointer (some ⟨w1.heap.size+1+1+1,0,none⟩)]) rfl trivial (enters_of Tryz.func213 (by kernel_rfl) rfl)
  (j9 (w₀:=w1) (n₀:=w1.heap.size) (n₁:=W0.heap.size) tI t hlt _ 5 hI0.nD lu zr (hv.mono λ_ _ h=>h) F7) (λh k=>h.trans k) (iK.book lu) (zb _) (λ_=>rfl)
  (λpre W=>uN w1 (w1.heap.size+1+1) (w1.heap.size+1) W0.heap.size (kI pre) W) (λ_ _ _=>False)
  (En _ _ _ _ (by omega) lu _) (λ_=>xU.from _)
  hI0
  (λx a' W=>∃Bx,W0.heap.size≤Bx∧W.heap[Bx]? =some (.cells #[.int .u8 x.1.1.k,str x.1.1.n,x.1.2] 174 (0,0))∧
   a'={tmps:= #[str s,undef,.slice none 0 0,.int .i64 0,.pointer (some ⟨w1.heap.size,0,none⟩),.int .i64 0,.pointer (some ⟨w1.heap.size+1+1,0,none⟩),.pointer (some ⟨Bx,0,none⟩),.tuple #[.agg #[.int .u8 t.k,str t.n,.slice p t.sub.len c],.int .i64 0],str s,.tuple #[.agg #[.int .u8 t.k,str t.n,.slice p t.sub.len c],.int .i64 0],.agg #[.int .u8 t.k,str t.n,.slice p t.sub.len c],.int .i64 0,.int .i64 0,.bool false,undef,.map (some (w1.heap.size+1)),.agg #[.int .u8 t.k,str t.n,.slice p t.sub.len c],.func (.func 213) #[] #[.pointer (some ⟨w1.heap.size+1+1+1,0,none⟩)],.agg #[.int .u8 x.1.1.k,str x.1.1.n,x.1.2],undef,undef,undef,undef,undef,undef,undef,undef,undef],defers:=[] })
  (λx a' _ W W' row ⟨Bx,h1,h2,h3⟩ hg hr=>⟨Bx,h1,(lg (β:=Unit) Bx (λ_=> #[.int .u8 x.1.1.k,str x.1.1.n,x.1.2]) _ _) () W W' row h2 hg (λr e=>(hr r e).2),h3⟩) ?assign ?body ?done ?stop
 case assign=>
  rintro l pre ⟨⟨u,vu⟩,hu,FT⟩ W K hI hK;obtain⟨pu,cu,e,_⟩:=dB.shape (fo:=u.sub) (v:=vu) hu;subst e;dsimp only at hK ⊢;have hS:=hI.size;have Na:=hI.kept (W':=W.alloc (.cells #[.int .u8 u.k,str u.n,.slice pu u.sub.len cu] 174)) (by omega) lu (World.grownBy_alloc W _ none) (λr e=>by cases e)
  gi_wp2
  exact hK _ _ ((KeepsOthers.alloc _ _).from _) ((iK.refl _ _ _).alloc (by omega) _) Na ⟨W.heap.size,hS,heap_alloc_new W _,rfl⟩
 case body=>
  rintro l pre ⟨⟨u,vu⟩,hu,FT⟩ a' W hl ⟨r,hr⟩ hI ⟨Bx,zw,hX,rfl⟩ hlen;obtain⟨pu,cu,e,_⟩:=dB.shape (fo:=u.sub) (v:=vu) hu;subst e;dsimp only at hX hu FT ⊢;have hacc:=ug pre;have JZ:=zh (zX pre (⟨(u,.slice pu u.sub.len cu),hu,FT⟩:TV w1 w1.heap.size (λx=>x.txt.length≤100)));have DH:w1.heap.size+1<W0.heap.size:=by omega
  have c0:=(ak hX 0).trans rfl;have c1:=(ak hX 1).trans rfl
  by_cases h7:u.k=7
  · have e7:((u.k:Int)==7)=true:=by rw[h7];rfl
    have y5:=zh (JZ.out.trans (if_pos h7));have hnl:u.n.length≤100:=by
     have h1:u.txt=b8 7 u.n++u.sub.br:=by rw[←h7,Tr.eA];exact Fo.cN _ _ _
     have h2:u.txt.length=u.n.length+u.sub.br.length:=by rw[h1,List.length_append];rfl
     omega
    clear h7;have c7:=hI.mp.cell
    gi_wp2_with (gi_at_mapUpdate;refine jU _ rfl _ _ _ rfl (w1.heap.size+1) (kI pre) rfl hI.set (by unfold maxLen;omega) u.n rfl rfl (by unfold maxLen;omega) ?_;intro w3 D2 Cb;obtain⟨DC,yW,IF⟩:=hI.add D2 Cb (by omega) lu (by omega) DH)
    refine⟨IF,yW,?_⟩;rw[←y5.out] at DC;exact DC
  · have e7:((u.k:Int)==7)=false:=by rw[beq_eq_false_iff_ne];omega
    have y5:=zh (JZ.out.trans (if_neg h7));clear h7
    gi_wp2
    refine⟨KeepsFrom.refl _ _,iK.refl _ _ _,?_⟩;have DC:=hI;rw[←y5.out] at DC;exact DC
 case done=>
  rintro D' xs W hD hxs hI hK;have HA:=zh (show kI xs=pX t.ins by unfold kI;rw[hxs]);have hlen:(kI xs).length≤1000:=by
   have h1:=ug xs;have h2:xs.length=t.ins.length:=by rw[←hxs,List.length_map]
   omega
  clear hxs;have c6:=hI.mp.cell;have cS:=AB (w1.heap.size+1) (kI xs) W hI.set hlen
  gi_wp2_with (first
   | (refine⟨trivial,?_⟩;gi_at_call 160;refine(Eh _ _).mono ?_;rintro e w' ⟨rfl,rfl⟩)
   | (refine⟨trivial,?_⟩;gi_at_call 159;refine cS.mono ?_;rintro e w3 ⟨v,rfl,hrow,aH⟩))
  have Nf:=(aH.block D' (Array.getElem?_eq_some_iff.1 hK).1).trans hK;refine⟨by simp,.inl ⟨_,_,rfl,run_takeDeferred Nf,?_⟩⟩;refine⟨_,results_tmp2 rfl _ _ _,?_⟩;unfold di;rw[HK.out];have nN:=ownsRow_putObj hrow (.deferred none) Nf rfl;rw[HA.out] at nN;have zG:=hI.nD.size;refine⟨v,rfl,kr nN (by omega),?_⟩;exact((au.trans (af hI.nD hz)).trans (af aH (by omega))).trans (belowK_b (w:=w) zr w3 D' _ _ (by omega) Nf rfl rfl)
 case stop=>
  rintro D' cd pre W _ _ h _;exact h.elim
set_option maxRecDepth 4000 in
theorem Ck (s:List UInt8) (ms:s.length≤maxLen) (w:World) (ht:dW w) (hc:(aq s).1≠0):Calls Tryz.prog 101 #[str s] w (di w (bZ s)):=by
 have HK:=zh (show bZ s=([],(aq s).1) by unfold bZ;rw[if_neg hc])
 have HC:=cF s ms w ht
 unfold bJ at HC
 rcases hq:aq s with⟨c,t⟩
 rw[hq] at HC HK hc
 simp only at HC HK hc
 obtain⟨z1,z2⟩:=bK hc
 clear hq hc
 go_enter Tryz.func101,Tryz.ntmps101
 go_wp2_with (go_at_call 157;refine HC.mono ?_;clear HC;rintro e w1 ⟨v,rfl,hv,au⟩;obtain⟨p,c,rfl,_⟩:=hv.shape)
 go_ret2
 unfold di
 rw[HK.out]
 exact⟨_,rfl,World.ownsRow_nil _ _ _ _,au.alloc au.size _⟩
theorem zR (s:List UInt8) (ms:s.length≤maxLen) (w:World) (ht:dW w):Calls Tryz.prog 101 #[str s] w (di w (bZ s)):=by
 by_cases hc:(aq s).1=0
 · exact Cl s ms w ht hc
 · exact Ck s ms w ht hc
end Go.Proofs.YtakgjcfkdemipaaGreatDoor
