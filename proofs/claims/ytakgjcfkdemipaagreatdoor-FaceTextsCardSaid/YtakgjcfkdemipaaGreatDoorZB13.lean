/-
  Lemmas for the statement: contract: kind.Inside. Conditions: bounds of lengths; the variable strings.asciiSpace.
-/
import Derived.Maps.OwnIn
import Derived.Test.YtakgjcfkdemipaaGreatDoorZBn
import Derived.Test.YtakgjcfkdemipaaGreatDoorZB10
set_option maxHeartbeats 3200000
namespace Go.Proofs.YtakgjcfkdemipaaGreatDoor
open Go.RowKit Go.Shelf Go.Maps
attribute [local go_sem] Oper.semAt_some
def jL (ts:List Tr):List (List UInt8):=ts.foldl (λacc t=>if hasB acc t.txt then acc else acc++[t.txt]) []
theorem Cf (ts:List Tr) (t:Tr):jL (ts++[t])=if hasB (jL ts) t.txt then jL ts else jL ts++[t.txt]:=by unfold jL;rw[List.foldl_append];rfl
theorem xz (ts:List Tr):(jL ts).length≤ts.length:=by
 have:∀(ts:List Tr) (acc:List (List UInt8)),(ts.foldl (λacc t=>if hasB acc t.txt then acc else acc++[t.txt]) acc).length≤acc.length+ts.length:=by
  intro ts
  induction ts with
  | nil=>intro acc;simp
  | cons t ts ih=>
   intro acc;rw[List.foldl_cons];refine Nat.le_trans (ih _) ?_;split<;>simp<;>omega
 simpa[jL] using this ts []
def kG {w₀:World} {n₀:Nat} {Q:Tr→Prop} (pre:List (TV w₀ n₀ Q)):List (List UInt8):=jL (pre.map λx=>x.1.1)
theorem zg {w₀:World} {n₀:Nat} {Q:Tr→Prop} (pre:List (TV w₀ n₀ Q)) (x:TV w₀ n₀ Q):kG (pre++[x])=if hasB (kG pre) x.1.1.txt then kG pre else kG pre++[x.1.1.txt]:=by
 unfold kG;rw[List.map_append];exact Cf _ _
theorem BE {w₀:World} {n₀:Nat} {Q:Tr→Prop} (pre:List (TV w₀ n₀ Q)):(kG pre).length≤pre.length:=by
 have:=xz (pre.map λx=>x.1.1)
 rw[List.length_map] at this
 exact this
theorem Wf.lV {tag:Option (List UInt8)} {fo:Fo} (h:Wf tag fo):fo.ins.length≤fo.tx.length:=by
 have hw:∀(k:Nat) (n:List UInt8) (sub:Fo),Wf none (.cons [] k n sub .nil)→1≤(b8 k n).length:=by
  intro k n sub h;cases h with
  | par=>decide
  | word k h=>rcases h with rfl|rfl|rfl<;>decide
  | arr a h=>decide
  | rcd k w fo hk=>rcases hk with⟨rfl,rfl⟩|⟨rfl,rfl⟩<;>decide
  | nam n hn=>exact List.length_pos_iff.2 (gQ hn)
  | app n a hn h=>exact List.length_pos_iff.2 (gQ hn)
 have key:∀(k:Nat) (n:List UInt8) (sub:Fo),Wf none (.cons [] k n sub .nil)→(sub≠ .nil→sub.ins.length≤sub.tx.length)→(Fo.cons [] k n sub .nil).ins.length≤(Fo.cons [] k n sub .nil).tx.length:=by
  intro k n sub h ih;have h1:=hw k n sub h;rw[Fo.cN,Fo.ins,Fo.ins,List.append_nil,List.length_cons,List.length_append]
  by_cases hn:sub=.nil
  · subst hn;simp[Fo.ins,Fo.br];omega
  · have:=ih hn
    rw[Fo.ji hn];simp only[List.length_cons,List.length_append,List.length_nil];omega
 induction h with
 | par=>exact key _ _ _ .par (λh=>absurd rfl h)
 | word k h=>exact key _ _ _ (.word k h) (λh=>absurd rfl h)
 | arr x h ih=>exact key _ _ _ (.arr x h) (λ_=>ih)
 | rcd k w fo hk h hl ih=>exact key _ _ _ (.rcd k w fo hk h hl) (λ_=>ih)
 | nam n hn=>exact key _ _ _ (.nam n hn) (λh=>absurd rfl h)
 | app n x hn h ih=>exact key _ _ _ (.app n x hn h) (λ_=>ih)
 | last b pn k n sub hn hb h ih=>
  rw[Fo.gU];simp only[Fo.ins,List.length_append,List.length_cons] at ih ⊢;omega
 | more b pn k n sub rest hn hb h h2 ih ih2=>
  rw[Fo.gV _ _ _ _ _ h2.ne];simp only[Fo.ins,List.length_append,List.length_cons,List.length_nil] at ih ih2 ⊢;omega
theorem Tr.ok.lV {t:Tr} (h:t.ok):t.ins.length≤t.txt.length:=by
 have:=Wf.lV h
 rw[←Tr.eA] at this
 refine Nat.le_trans (Nat.le_of_eq ?_) this
 simp[Fo.one,Fo.ins,Tr.ins]
def cT (s:List UInt8):List (List UInt8)×Nat:=if(aq s).1=0 then(jL (aq s).2.ins,0) else([],(aq s).1)
def di (w:World) (r:List (List UInt8)×Nat) (e:Ending) (w':World):Prop:=
 ∃v,e=.returned (.tuple #[v,.int .i64 r.2])∧w'.ownsRow w.heap.size 9 1 v r.1.length (aB r.1)∧Below w.heap.size w w'
theorem jU {F:Fence} {nF:Nat} (w:World) {ops:Array Oper} {rest:List Oper} {o:Oper} {a:Act} {Q:Exit→Act→World→Prop}
 (hg:o.guard=none) (m x v:Operand) (hop:o.op=Op.mapUpdate 112 m x v) (b:Nat) (acc:List (List UInt8))
 (hm:a.eval m=.map (some b)) (hown:aS w b acc) (hn:acc.length<maxLen) (k:List UInt8) (hx:a.eval x=str k) (hv:a.eval v=.bool true) (hk:k.length≤maxLen)
 (hK:∀w',aS w' b (acc++[k])→w.grownBy w' (some b)→wpListIn F nF Tryz.prog ops Q rest (a.put o.dst undef) w'):
 wpListIn F nF Tryz.prog ops Q (o::rest) a w:=by
 refine wpListIn_mapUpdate_own w hg m x v _ hop _ _ (string_keyed Tryz.underlying9) Tryz.underlying112 _ b acc.length _ hm hown hn _ _ _ hx hv (WideMaps.keyOf_string_mk (s:=⟨k.toArray⟩) Tryz.underlying9 (by simpa[ByteArray.size] using hk)) (.lit (.bool true)) [] (plainElem_bool Tryz.underlying4 true) ?_
 intro w' h1 h2
 refine hK w' ?_ h2
 unfold aS
 rw[show keysOf (acc++[k])=keysOf acc++[Lit.string k] from by simp[keysOf],setOf_snoc,List.length_append]
 exact h1
theorem yE {W:World} {M base size n:Nat} {e:TypeId} {acc:List (List UInt8)} {v:Value} {xs:List Value} (h:aS W M acc) (hrow:W.ownsRow base e size v n xs):v.ownBlock=none∨v.ownBlock≠some M:=by
 obtain⟨es,ck,hmap,_⟩:=h
 rcases hrow.2 with⟨rfl,_⟩|⟨g,cap,cur,rfl,_,FZ,_⟩
 · exact .inl rfl
 · refine .inr λe=>?_
   simp only[Value.ownBlock,Option.some.injEq] at e;rw[e,hmap] at FZ;cases FZ
theorem kr {w:World} {base base':Nat} {e:TypeId} {size n:Nat} {v:Value} {xs:List Value} (h:w.ownsRow base e size v n xs) (hb:base'≤base):w.ownsRow base' e size v n xs:=by
 refine⟨h.1,?_⟩
 rcases h.2 with h2|⟨g,cap,cur,rfl,h3,h4⟩
 · exact .inl h2
 · exact .inr ⟨g,cap,cur,rfl,Nat.le_trans hb h3,h4⟩
theorem qK {W W':World} (h:Below W.heap.size W W'):W.grownBy W' none:=⟨h.os,h.tape,h.output,h.size,λi hi _=>h.block i hi⟩
structure pO (w1:World) (base B6 B7 M n₁:Nat) (acc:List (List UInt8)) (W:World):Prop where
 row:∃v,Boxed W B6 34 v∧W.ownsRow base 9 1 v acc.length (aB acc)
 mp:Boxed W B7 112 (.map (some M))
 set:aS W M acc
 nD:Below w1.heap.size w1 W
 size:n₁≤W.heap.size
theorem pO.kept {w1:World} {base B6 B7 M n₁:Nat} {acc:List (List UInt8)} {W W':World} {row:Option Nat} (h:pO w1 base B6 B7 M n₁ acc W) (hM:M<n₁) (hn:w1.heap.size≤n₁) (hg:W.grownBy W' row) (hr:∀r,row=some r→n₁≤r∧∃o:Obj,W.heap[r]? =some o∧o.isCells=false):pO w1 base B6 B7 M n₁ acc W':=by
 obtain⟨v,hv,hrow⟩:=h.row
 have hne:∀{b:Nat} {cs:Array Value} {t:TypeId} {z:Nat×Nat},W.heap[b]? =some (.cells cs t z)→some b≠row:=λhb e=>by
  obtain⟨_,o,ho,hc⟩:=hr _ e.symm;rw[hb] at ho;cases ho;cases hc
 refine⟨⟨v,hv.kept hg (hne hv),hrow.kept hg ?_⟩,h.mp.kept hg (hne h.mp),h.set.kept hg (λe=>by have:=(hr _ e.symm).1;omega),h.nD.grown hg (by have:=h.size;omega) (λk e=>by have:=(hr k e).1;omega),Nat.le_trans h.size hg.size⟩
 rcases hrow.2 with⟨rfl,_⟩|⟨g,cap,cur,rfl,_,FZ,_⟩
 · exact .inl rfl
 · exact .inr (hne FZ)
theorem Eb {β:Type} (w1:World) (base B6 B7 M n₁:Nat) (hM:M<n₁) (hn:w1.heap.size≤n₁) (f:β→List (List UInt8)):OwnFrom n₁ (λs W=>pO w1 base B6 B7 M n₁ (f s) W):=
 λ_ _ _ _ hs hg hr=>hs.kept hM hn hg hr
theorem Fo.at_len:∀(fo:Fo) (i:Nat) (pn:List UInt8) (t:Tr),fo.at i=some (pn,t)→t.txt.length≤fo.tx.length:=λfo i pn t h=>by
 have:=iF _ _ _ (fo.qv i pn t h)
 rw[List.length_append] at this
 unfold Fo.tx
 omega
theorem uC (t:Tr):t.sub.tx.length≤t.txt.length:=by
 obtain⟨k,n,sub⟩:=t
 cases sub with
 | nil=>simp[Fo.tx,Fo.txt,cH]
 | cons=>rw[Tr.eA,Fo.one,Fo.cN,Fo.ji (by simp)];simp only[List.length_cons,List.length_append,List.length_nil];omega
theorem tI:AR (λx=>x.txt.length≤100):=λt i pn u h hat=>by
 have h1:=t.sub.at_len i pn u hat
 have h2:=uC t
 have h:t.txt.length≤100:=h
 show u.txt.length≤100
 omega
theorem pO.below {w1:World} {base B6 B7 M n₁:Nat} {acc:List (List UInt8)} {W W':World} (h:pO w1 base B6 B7 M n₁ acc W) (hM:M<n₁) (hn:w1.heap.size≤n₁) (hb:Below W.heap.size W W'):pO w1 base B6 B7 M n₁ acc W':=
 h.kept hM hn (qK hb) (λr e=>by cases e)
theorem pO.add {w1:World} {base B6 B7 M n₁:Nat} {acc:List (List UInt8)} {W3 W4 w5:World} {k:List UInt8} {v v':Value} {tmp:Obj} (h:pO w1 base B6 B7 M n₁ acc W3) (hs:aS W4 M (acc++[k])) (hg:W3.grownBy W4 (some M)) (h6:B6≠M) (h7:B7≠M) (Rs:B7≠B6) (jJ:w1.heap.size≤B6) (sB:B6<n₁) (hM:w1.heap.size≤M) (hM1:M<n₁) (hbase:base≤w1.heap.size)
 (hv:Boxed W3 B6 34 v) (hrow:W3.ownsRow base 9 1 v acc.length (aB acc)) (hvl:∀g,v.ownBlock=some g→w1.heap.size≤g) (hown:w5.ownsRow base 9 1 v' (acc.length+1) (aB acc++[str k])) (hgr:(W4.alloc tmp).grownBy w5 v.ownBlock):
 Boxed w5 B6 34 v∧pO w1 base B6 B7 M n₁ (acc++[k]) (w5.setCell ⟨B6,0,none⟩ v')∧iK w1.heap.size n₁ W3 (w5.setCell ⟨B6,0,none⟩ v')∧KeepsFrom n₁ W3 (w5.setCell ⟨B6,0,none⟩ v'):=by
 obtain⟨es,ck,hmap,_⟩:=h.set
 have hz1:=h.nD.size
 have hz2:=hg.size
 have IW:Boxed W4 B6 34 v:=hv.kept hg (λe=>h6 (by cases e;rfl))
 have PM:v.ownBlock=none∨v.ownBlock≠some M:=by
  rcases hrow.2 with⟨rfl,_⟩|⟨g,cap,cur,rfl,_,FZ,_⟩
  · exact .inl rfl
  · refine .inr λe=>?_
    simp only[Value.ownBlock,Option.some.injEq] at e;rw[e,hmap] at FZ;cases FZ
 have A7:W4.ownsRow base 9 1 v acc.length (aB acc):=hrow.kept hg PM
 obtain⟨a1,a2,a3,a4,a5⟩:=Boxed.appended (n₀:=base) (m:=acc.length+1) IW (by decide) A7 (by omega) (by omega) hown hgr
 have hb4:Below w1.heap.size w1 W4:=h.nD.grown hg (by omega) (λk e=>by cases e;exact hM)
 have KS:Boxed W4 B7 112 (.map (some M)):=h.mp.kept hg (λe=>h7 (by cases e;rfl))
 have hrl:=λg e=>(A7.lt g e)
 have Sj:some B7≠v.ownBlock:=KS.not_row (by decide) A7
 have NY:Boxed w5 B7 112 (.map (some M)):=(KS.alloc tmp).kept hgr Sj
 have jK:aS w5 M (acc++[k]):=(hs.kept (World.grownBy_alloc W4 tmp none) (by simp)).kept hgr (by rcases PM with e|e;rw[e];simp;exact λe'=>e e'.symm)
 have eT:Below w1.heap.size w1 w5:=(hb4.alloc (by omega) tmp).grown hgr (by simp;omega) hvl
 have Mi:=hgr.size
 simp only[World.size_alloc] at Mi
 have NR:iK w1.heap.size n₁ W3 W4:=(iK.refl _ _ _).grown hg (by omega) (λr e=>by cases e;exact⟨hM,.inl hM1⟩)
 have IE:iK w1.heap.size n₁ W3 w5:=((NR.alloc (by omega) tmp).grown hgr (by simp;omega) (λr e=>⟨hvl r e,.inr (by
  rcases A7.2 with⟨rfl,_⟩|⟨g,cap,cur,rfl,_,FZ,_⟩
  · simp[Value.ownBlock] at e
  · simp only[Value.ownBlock,Option.some.injEq] at e
    subst e;exact⟨cur,(0,0),aD _ FZ⟩)⟩))
 refine⟨a1,⟨⟨v',a2,by rw[List.length_append,aB,List.map_append];exact a3⟩,NY.other Rs v',jK.kept (grownBy_setCell' w5 B6 v') (λe=>h6 (by cases e;rfl)),eT.setCell (p:=⟨B6,0,none⟩) jJ v',by have:=h.size;simp[World.setCell];omega⟩,IE.setCell jJ sB v',(KeepsFrom.of_grownBy hg (λj e=>by cases e;exact hM1)).trans (a4.from _)⟩
set_option maxRecDepth 4000 in
theorem zQ (s:List UInt8) (ms:s.length≤maxLen) (w:World) (ht:dW w) (hc:(aq s).1=0):Calls Tryz.prog 118 #[str s] w (di w (cT s)):=by
 have HK:=zh (show cT s=(jL (aq s).2.ins,0) by unfold cT;rw[if_pos hc])
 have HC:=cF s ms w ht
 unfold bJ at HC
 rcases hq:aq s with⟨c,t⟩
 rw[hq] at HC HK hc
 simp only at HC HK hc
 subst hc
 obtain⟨ot,et,lt,vt⟩:=bC hq
 have HO:=zh ot
 have hlt:t.txt.length≤100:=by rw[et];exact lt
 have hil:=ot.lV
 clear hq ot et lt vt
 have hmm:=@run_makeMap Tryz.prog
 refine(callsIn_wide (n:=6)).1 ?_
 refine callsIn_of_wp_marks Tryz.func118 rfl trivial ?_ rfl
 simp only[Tryz.ntmps118,List.size_toArray,List.length_cons,List.length_nil,Nat.reduceAdd,Nat.reduceSub,Array.replicate_succ,Array.replicate_zero,List.push_toArray,List.append_toArray,List.nil_append,List.cons_append]
 gi_wp2_with (first|(refine⟨trivial,?_⟩;gi_at_call 157;refine(callsIn_wide.2 HC).mono ?_;rintro e w1 ⟨v,rfl,hv,au⟩;obtain⟨p,c,rfl,_⟩:=hv.shape)|(refine⟨trivial,?_⟩;gi_at_call 158;refine(mW _ _ _ _ _ _ _).mono ?_;rintro e w' ⟨rfl,rfl⟩))
 have hb0:=((((Below.refl w1.heap.size w1).alloc zr (.cells #[.int .u8 t.k,str t.n,.slice p t.sub.len c] 174)).alloc (by simp) (.cells #[.slice none 0 0] 34)).alloc (by simp;omega) (.map #[] 0)).alloc (by simp;omega) (.cells #[.map (some (w1.heap.size+1+1))] 112)
 have z1:(w1.alloc (.cells #[.int .u8 t.k,str t.n,.slice p t.sub.len c] 174)).heap.size=w1.heap.size+1:=by simp
 have z2:((w1.alloc (.cells #[.int .u8 t.k,str t.n,.slice p t.sub.len c] 174)).alloc (.cells #[.slice none 0 0] 34)).heap.size=w1.heap.size+1+1:=by simp
 have z3:(((w1.alloc (.cells #[.int .u8 t.k,str t.n,.slice p t.sub.len c] 174)).alloc (.cells #[.slice none 0 0] 34)).alloc (.map #[] 0)).heap.size=w1.heap.size+1+1+1:=by simp
 have z4:((((w1.alloc (.cells #[.int .u8 t.k,str t.n,.slice p t.sub.len c] 174)).alloc (.cells #[.slice none 0 0] 34)).alloc (.map #[] 0)).alloc (.cells #[.map (some (w1.heap.size+1+1))] 112)).heap.size=w1.heap.size+1+1+1+1:=by simp
 have C8:Boxed ((((w1.alloc (.cells #[.int .u8 t.k,str t.n,.slice p t.sub.len c] 174)).alloc (.cells #[.slice none 0 0] 34)).alloc (.map #[] 0)).alloc (.cells #[.map (some (w1.heap.size+1+1))] 112)) (w1.heap.size+1) 34 (.slice none 0 0):=((z1▸Boxed.new _ _ _:Boxed _ (w1.heap.size+1) _ _).alloc _).alloc _
 have D5:Boxed ((((w1.alloc (.cells #[.int .u8 t.k,str t.n,.slice p t.sub.len c] 174)).alloc (.cells #[.slice none 0 0] 34)).alloc (.map #[] 0)).alloc (.cells #[.map (some (w1.heap.size+1+1))] 112)) (w1.heap.size+1+1+1) 112 (.map (some (w1.heap.size+1+1))):=z3▸Boxed.new _ _ _
 have KT:aS ((((w1.alloc (.cells #[.int .u8 t.k,str t.n,.slice p t.sub.len c] 174)).alloc (.cells #[.slice none 0 0] 34)).alloc (.map #[] 0)).alloc (.cells #[.map (some (w1.heap.size+1+1))] 112)) (w1.heap.size+1+1) []:=(z2▸aS.made _:aS _ (w1.heap.size+1+1) []).kept (World.grownBy_alloc _ _ none) (by simp)
 have F7:=cI z4 #[.int .u8 t.k,str t.n,.slice p t.sub.len c] 174
 have z5:(((((w1.alloc (.cells #[.int .u8 t.k,str t.n,.slice p t.sub.len c] 174)).alloc (.cells #[.slice none 0 0] 34)).alloc (.map #[] 0)).alloc (.cells #[.map (some (w1.heap.size+1+1))] 112)).alloc (.cells #[.int .u8 t.k,str t.n,.slice p t.sub.len c] 174)).heap.size=w1.heap.size+5:=by simp
 have hI0:pO w1 w1.heap.size (w1.heap.size+1) (w1.heap.size+1+1+1) (w1.heap.size+1+1) (w1.heap.size+5) (jL []) (((((w1.alloc (.cells #[.int .u8 t.k,str t.n,.slice p t.sub.len c] 174)).alloc (.cells #[.slice none 0 0] 34)).alloc (.map #[] 0)).alloc (.cells #[.map (some (w1.heap.size+1+1))] 112)).alloc (.cells #[.int .u8 t.k,str t.n,.slice p t.sub.len c] 174)):=
  ⟨⟨_,C8.alloc _,World.ownsRow_nil _ _ _ _⟩,D5.alloc _,KT.kept (World.grownBy_alloc _ _ none) (by simp),hb0.alloc (by simp;omega) _,by omega⟩
 clear z1 z2 z3 z4 C8 D5 KT hb0
 generalize ((((w1.alloc (.cells #[.int .u8 t.k,str t.n,.slice p t.sub.len c] 174)).alloc (.cells #[.slice none 0 0] 34)).alloc (.map #[] 0)).alloc (.cells #[.map (some (w1.heap.size+1+1))] 112)).alloc (.cells #[.int .u8 t.k,str t.n,.slice p t.sub.len c] 174)=W0 at *
 rw[←z5] at hI0
 have NW:w1.heap.size+5≤W0.heap.size:=by omega
 clear z5
 have lu:w1.heap.size≤W0.heap.size:=by omega
 have hz:=au.size
 refine wpIn_rangeFunc_ownH (α:=TV w1 w1.heap.size (λx=>x.txt.length≤100)) rfl (show 1≤6 by decide) (gf:=213) (lb:= #[.pointer (some ⟨w1.heap.size+1+1+1+1,0,none⟩)]) rfl trivial (enters_of Tryz.func213 (by kernel_rfl) rfl)
  (j9 (w₀:=w1) (n₀:=w1.heap.size) (n₁:=W0.heap.size) tI t hlt _ 5 hI0.nD lu zr (hv.mono λ_ _ h=>h) F7) (λh k=>h.trans k) (iK.book lu) (zb _) (λ_=>rfl)
  (λpre W=>pO w1 w1.heap.size (w1.heap.size+1) (w1.heap.size+1+1+1) (w1.heap.size+1+1) W0.heap.size (kG pre) W) (λ_ _ _=>False)
  (Eb _ _ _ _ _ _ (by omega) lu _) (λ_=>xU.from _)
  hI0
  (λx a' W=>∃Bx,W0.heap.size≤Bx∧W.heap[Bx]? =some (.cells #[.int .u8 x.1.1.k,str x.1.1.n,x.1.2] 174 (0,0))∧
   a'={tmps:= #[str s,undef,.slice none 0 0,.int .i64 0,.pointer (some ⟨w1.heap.size,0,none⟩),.int .i64 0,.pointer (some ⟨w1.heap.size+1,0,none⟩),.pointer (some ⟨w1.heap.size+1+1+1,0,none⟩),.pointer (some ⟨Bx,0,none⟩),undef,.tuple #[.agg #[.int .u8 t.k,str t.n,.slice p t.sub.len c],.int .i64 0],str s,.tuple #[.agg #[.int .u8 t.k,str t.n,.slice p t.sub.len c],.int .i64 0],.agg #[.int .u8 t.k,str t.n,.slice p t.sub.len c],.int .i64 0,.int .i64 0,.bool false,undef,.map (some (w1.heap.size+1+1)),.agg #[.int .u8 t.k,str t.n,.slice p t.sub.len c],.func (.func 213) #[] #[.pointer (some ⟨w1.heap.size+1+1+1+1,0,none⟩)],.agg #[.int .u8 x.1.1.k,str x.1.1.n,x.1.2],undef,undef,undef,undef,undef,undef,undef,undef,undef,undef,undef,undef,undef],defers:=[] })
  (λx a' _ W W' row ⟨Bx,h1,h2,h3⟩ hg hr=>⟨Bx,h1,(lg (β:=Unit) Bx (λ_=> #[.int .u8 x.1.1.k,str x.1.1.n,x.1.2]) _ _) () W W' row h2 hg (λr e=>(hr r e).2),h3⟩) ?assign ?body ?done ?stop
 case assign=>
  rintro l pre ⟨⟨u,vu⟩,hu,FT⟩ W K hI hK;obtain⟨pu,cu,e,_⟩:=dB.shape (fo:=u.sub) (v:=vu) hu;subst e;dsimp only at hK ⊢;have hS:=hI.size;have Na:=hI.kept (W':=W.alloc (.cells #[.int .u8 u.k,str u.n,.slice pu u.sub.len cu] 174)) (by omega) lu (World.grownBy_alloc W _ none) (λr e=>by cases e)
  gi_wp2
  exact hK _ _ ((KeepsOthers.alloc _ _).from _) ((iK.refl _ _ _).alloc (by omega) _) Na ⟨W.heap.size,hS,heap_alloc_new W _,rfl⟩
 case body =>
  rintro l pre ⟨⟨u,vu⟩,hu,FT⟩ a' W hl ⟨r,hr⟩ hI ⟨Bx,zw,hX,rfl⟩ hlen;obtain⟨pu,cu,e,_⟩:=dB.shape (fo:=u.sub) (v:=vu) hu;subst e;dsimp only at hX hu FT ⊢;have hacc:=BE pre;have JZ:=zh (zg pre (⟨(u,.slice pu u.sub.len cu),hu,FT⟩:TV w1 w1.heap.size (λx=>x.txt.length≤100)));have DH:w1.heap.size+1+1<W0.heap.size:=by omega
  have c0:=(ak hX 0).trans rfl;have c1:=(ak hX 1).trans rfl;have c2:=(ak hX 2).trans rfl;have P3:=(hu.below hI.nD zr);have Cd:u.txt.length≤1000000:=by omega
  have hS:=hI.size
  by_cases hh:hasB (kG pre) u.txt=true
  · have y5:=zh (JZ.out.trans (if_pos hh))
    gi_wp2_with (refine⟨trivial,?_⟩;gi_at_call 175;refine(CallsIn.inRound l (callsIn_wide.2 (fq u _ _ _ P3 Cd))).mono ?_;rintro e w2 ⟨rfl,aC⟩;have Fw:=hI.below DH lu aC;have c7:=Fw.mp.cell;have hlk:=Fw.set.look (k:=u.txt) (by unfold maxLen;omega))
    refine⟨⟨aC.size,λk o _ hk _=>(aC.block k (Array.getElem?_eq_some_iff.1 hk).1).trans hk⟩,iK.ey aC (by omega),?_⟩;have DC:=Fw;rw[←y5.out] at DC;exact DC
  · have Uj:hasB (kG pre) u.txt=false:=by simpa using hh
    have y5:=zh (JZ.out.trans (if_neg hh));clear hh;obtain⟨i0,gw,hz0,hz1,hz2⟩:=info_parts uZ
    gi_wp2_with (first
     | (refine⟨trivial,?_⟩;gi_at_call 175;refine(CallsIn.inRound l (callsIn_wide.2 (fq u _ _ _ P3 Cd))).mono ?_;rintro e w2 ⟨rfl,aC⟩;have Fw:=hI.below DH lu aC;have c7:=Fw.mp.cell;have hlk:=Fw.set.look (k:=u.txt) (by unfold maxLen;omega);obtain⟨v6,G9,tL⟩:=Fw.row;have c6:=G9.cell)
     | (gi_at_mapUpdate;refine jU _ rfl _ _ _ rfl (w1.heap.size+1+1) (kG pre) rfl Fw.set (by unfold maxLen;omega) u.txt rfl rfl (by unfold maxLen;omega) ?_;intro w3 D2 Cb;have TP:=(G9.kept Cb (λe=>by simp at e)).cell;have tK:=tL.kept Cb (yE Fw.set tL);have zG:=Cb.size;have SR:=aC.size)
     | (gi_at_builtin;refine wpListIn_append_own _ rfl _ _ 34 rfl w1.heap.size 9 i0 (.string ⟨#[]⟩) 1 16 Tryz.underlying34 gw hz0 hz1 hz2 rfl (by decide) _ _ _ rfl (tK.alloc _) ⟨w3.heap.size,0,none⟩ 1 1 [str u.txt] rfl rfl (cell_one_new _ _ _) (λx hx=>by simp at hx;subst hx;rfl) (by unfold maxLen;omega) (by omega) (by simp;omega) ?_;intro v' w5 hown' hgrow _;obtain⟨g',cap',rfl⟩:=ownsRow_succ hown';obtain⟨tN,DC,yW,IF⟩:=Fw.add D2 Cb (by omega) (by omega) (by omega) (by omega) (by omega) (by omega) DH zr G9 tL (λg e=>(tL.lt g e).1) hown' hgrow;have hc1:=tN.cell;have R3:=tN.frozen))
    refine⟨?_,(iK.ey aC (by omega)).trans yW,?_⟩
    · exact KeepsFrom.trans ⟨aC.size,λk o _ hk _=>(aC.block k (Array.getElem?_eq_some_iff.1 hk).1).trans hk⟩ IF
    · rw[←y5.out] at DC
      exact DC
 case done=>
  rintro D' xs W hD hxs hI hK;have hacc:kG xs=jL t.ins:=by unfold kG;rw[hxs]
  have HA:=zh hacc;clear hacc hxs;obtain⟨v6,G9,tL⟩:=hI.row;have c6:=G9.cell
  gi_wp2
  refine⟨by simp,.inl ⟨_,_,rfl,run_takeDeferred hK,?_⟩⟩;refine⟨_,results_tmp2 rfl _ _ _,?_⟩;unfold di;rw[HK.out];have nN:=ownsRow_putObj tL (.deferred none) hK rfl;rw[HA.out] at nN;refine⟨v6,rfl,kr nN hz,?_⟩;exact(au.trans (af hI.nD hz)).trans (belowK_b (w:=w) zr W D' _ _ (by omega) hK rfl rfl)
 case stop=>
  rintro D' cd pre W _ _ h _;exact h.elim
set_option maxRecDepth 4000 in
theorem zP (s:List UInt8) (ms:s.length≤maxLen) (w:World) (ht:dW w) (hc:(aq s).1≠0):Calls Tryz.prog 118 #[str s] w (di w (cT s)):=by
 have HK:=zh (show cT s=([],(aq s).1) by unfold cT;rw[if_neg hc])
 have HC:=cF s ms w ht
 unfold bJ at HC
 rcases hq:aq s with⟨c,t⟩
 rw[hq] at HC HK hc
 simp only at HC HK hc
 obtain⟨z1,z2⟩:=bK hc
 clear hq hc
 go_enter Tryz.func118,Tryz.ntmps118
 go_wp2_with (go_at_call 157;refine HC.mono ?_;clear HC;rintro e w1 ⟨v,rfl,hv,au⟩;obtain⟨p,c,rfl,_⟩:=hv.shape)
 go_ret2
 unfold di
 rw[HK.out]
 exact⟨_,rfl,World.ownsRow_nil _ _ _ _,au.alloc au.size _⟩
theorem xE (s:List UInt8) (ms:s.length≤maxLen) (w:World) (ht:dW w):Calls Tryz.prog 118 #[str s] w (di w (cT s)):=by
 by_cases hc:(aq s).1=0
 · exact zQ s ms w ht hc
 · exact zP s ms w ht hc
end Go.Proofs.YtakgjcfkdemipaaGreatDoor
