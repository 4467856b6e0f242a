/-
  Lemmas for the statement: contracts of the package store: acts, (*library).replay. Conditions: bounds of lengths; the variable strings.asciiSpace.
-/
import Derived.Test.YtemjidmkolfgnaaGreatDoorSBn
import Derived.Test.YtemjidmkolfgnaaGreatDoorSB37
set_option maxHeartbeats 3200000
namespace Go.Proofs.YtemjidmkolfgnaaGreatDoor
section
open Go Go.RowKit Go.Maps
section
variable {w:World} {ops:Array Oper} {rest:List Oper} {o:Oper} {a:Act} {Q:Exit→Act→World→Prop} {m:Nat} {L:List (List UInt8×Value)}
theorem eU (hg:o.guard=none) (x y v:Operand) {t e:TypeId} (hop:o.op=Op.insert t x y v) (ht:Tryz.prog.underlying t=some (.map 9 e)) (h:aQ w m L) (hn:L.length<maxLen) {k:List UInt8} {f:Value}
 (hm:a.eval x=.map (some m)) (hx:a.eval y=str k) (hv:a.eval v=f) (hk:k.length≤maxLen) (hK:∀w',aQ w' m (eN L k f)→w.mapTurned w' m→wpList Tryz.prog ops Q rest (a.put o.dst undef) w'):wpList Tryz.prog ops Q (o::rest) a w:=by
 refine wpList_plain hg λK' hK'=>?_
 obtain⟨w',hrun,r1,r2⟩:=h.zk hk ht f hn
 unfold Oper.wp
 simp[execOp,hop,hm,hx,hv,hrun,Result.andThen]
 exact hK' _ _ (hK w' r1 r2)
end
theorem Cn {o:Oper} {a:Act} {w:World} {K:Act→World→Prop} {Q:Exit→Act→World→Prop} {f:FuncId} {c x y:Operand} {tys:Array TypeId} (ho:o.op=.call {callee:=.value c,args:= #[x,y],argTypes:=tys }) (en:∀args w,(callFunc f args).run Tryz.prog w=.ok (.enter f args) w)
 {v1 v2:Value} (e0:a.eval c=.func (.func f) #[] #[]) (e1:a.eval x=v1) (e2:a.eval y=v2) {R:Value→World→Prop} (hc:Calls Tryz.prog f #[v1,v2] w λe w'=>∃u,e=.returned u∧R u w') (hn:∀u w',R u w'→K (a.put o.dst u) w'):o.wp Tryz.prog a w K Q:=by
 subst e1 e2
 have hrun:(execOp a.eval o).run Tryz.prog w=.ok (.enter f #[a.eval x,a.eval y]) w:=by
  simp[execOp,ho,e0,resolve,Deferred.ofValue,invoke,en]
 unfold Oper.wp
 rw[hrun,Oper.upon_enter]
 refine hc.mono ?_
 rintro e w' ⟨u,rfl,hu⟩
 exact hn u w' hu
abbrev kP:List UInt8:=[112,117,116]
abbrev iE:List UInt8:=[100,114,111,112]
abbrev eW:List UInt8:=[98,117,105,108,116]
theorem Ff {o:Oper} {a:Act} {w:World} {K:Act→World→Prop} {Q:Exit→Act→World→Prop} {f:FuncId} {tys:Array TypeId} (ho:o.op=.call {callee:=.value (.func f),args:= #[],argTypes:=tys }) (en:∀args w,(callFunc f args).run Tryz.prog w=.ok (.enter f args) w)
 {R:Value→World→Prop} (hc:Calls Tryz.prog f #[] w λe w'=>∃u,e=.returned u∧R u w') (hn:∀u w',R u w'→K (a.put o.dst u) w'):o.wp Tryz.prog a w K Q:=by
 have hrun:(execOp a.eval o).run Tryz.prog w=.ok (.enter f #[]) w:=by
  simp[execOp,ho,resolve,Deferred.ofValue,invoke,Act.eval,en]
 unfold Oper.wp
 rw[hrun,Oper.upon_enter]
 refine hc.mono ?_
 rintro e w' ⟨u,rfl,hu⟩
 exact hn u w' hu
def C8:List (List UInt8×Value):=[(kP,.func (.func 151) #[] #[]),(iE,.func (.func 152) #[] #[]),(eW,.func (.func 153) #[] #[])]
set_option maxRecDepth 8000 in
theorem C9 (w:World):Calls Tryz.prog 116 #[] w λe w'=>∃v,e=.returned v∧v=.map (some w.heap.size)∧aQ w' w.heap.size C8∧Below w.heap.size w w':=by
 have hmm:=@run_makeMap Tryz.prog
 have h0:=aQ.made w
 have hb0:=(zb w).alloc zr (.map #[] 0)
 have sA:∀k∈[kP,iE,eW],k.length≤maxLen:=by
  intro k hk;have:k.length≤5:=by
   rcases List.mem_cons.1 hk with rfl|hk
   · decide
   rcases List.mem_cons.1 hk with rfl|hk
   · decide
   rw[List.mem_singleton.1 hk]
   decide
  unfold maxLen;omega
 have DS:∀l:List (List UInt8×Value),l.length≤3→l.length<maxLen:=λl h=>by unfold maxLen;omega
 go_enter Tryz.func116,Tryz.ntmps116
 go_wp2_with (first
  | (refine eU rfl _ _ _ rfl Tryz.underlying201 h2 (DS _ (by decide)) (k:=eW) (f:=.func (.func 153) #[] #[]) rfl rfl rfl (sA eW (by simp)) ?_;intro W3 h3 g3;have cK:=bO.grown g3.grown bO.size (λb e=>by cases e;exact nl _))
  | (refine eU rfl _ _ _ rfl Tryz.underlying201 h1 (DS _ (by decide)) (k:=iE) (f:=.func (.func 152) #[] #[]) rfl rfl rfl (sA iE (by simp)) ?_;intro W2 h2 g2;have bO:=aP.grown g2.grown aP.size (λb e=>by cases e;exact nl _))
  | (refine eU rfl _ _ _ rfl Tryz.underlying201 h0 (DS _ (by decide)) (k:=kP) (f:=.func (.func 151) #[] #[]) rfl rfl rfl (sA kP (by simp)) ?_;intro W1 h1 g1;have aP:=hb0.grown g1.grown hb0.size (λb e=>by cases e;exact nl _)))
 go_ret
 exact⟨_,rfl,rfl,h3,cK⟩
def Ip:List (List UInt8×Value):=[(kP,.int .i64 4),(iE,.int .i64 1),(eW,.int .i64 2)]
set_option maxRecDepth 8000 in
theorem lX {sb:Nat} {word text:List UInt8} {ps:List (List UInt8)} {f:FuncId} (w:World) (hm:fe w) (hw:(0:UInt8)∉word) (Qf:ps≠[]) (hno:∀x∈ps.dropLast,(0:UInt8)∉x) (ht:aU 0 (word::ps)=text) (htl:text.length≤100000)
 (hn:aq Ip word=some (.int .i64 (ps.length:Int))) (hf:aq C8 word=some (.func (.func f) #[] #[])) (en:∀args w,(callFunc f args).run Tryz.prog w=.ok (.enter f args) w) {Post:World→Prop}
 (HF:∀W v,Below w.heap.size w W→SS (λb=>w.heap.size≤b) W v ps→Calls Tryz.prog f #[.pointer (some ⟨sb,0,none⟩),v] W λe w'=>e=.returned (.tuple #[])∧Post w'):
 Calls Tryz.prog 74 #[.pointer (some ⟨sb,0,none⟩),str text] w λe w'=>e=.returned (.tuple #[])∧Post w':=by
 have hmm:=@run_makeMap Tryz.prog
 obtain⟨rest,Ad⟩:∃r,aU 0 ps=r:=⟨_,rfl⟩
 have KG:text=word++([0]++rest):=by
  rw[←ht,←Ad];cases ps with
  | nil=>exact absurd rfl Qf
  | cons a l=>rfl
 have hcut:bC [0] text=(word,rest,true):=by
  rw[KG];exact FN word rest hw
 have hrl:rest.length≤100000∧word.length≤maxLen:=by
  rw[KG] at htl;simp at htl;unfold maxLen;omega
 have HC:=iI text [0] w htl (by simp) hm
 rw[hcut] at HC
 have sA:∀k∈[kP,iE,eW],k.length≤maxLen:=by
  intro k hk;have:k.length≤5:=by
   rcases List.mem_cons.1 hk with rfl|hk
   · decide
   rcases List.mem_cons.1 hk with rfl|hk
   · decide
   rw[List.mem_singleton.1 hk]
   decide
  unfold maxLen;omega
 have DS:∀l:List (List UInt8×Value),l.length≤3→l.length<maxLen:=λl h=>by unfold maxLen;omega
 clear ht hcut KG hw
 go_enter Tryz.func74,Tryz.ntmps74
 go_upto_region 2 with(first
  | (go_at_call 104;refine HC.mono ?_;clear HC;rintro e w1 ⟨rfl,aP⟩;have h0:=aQ.made w1;have hb0:=aP.alloc aP.size (.map #[] 0);have hs1:=aP.size)
  | (refine eU rfl _ _ _ rfl Tryz.underlying33 h2 (DS _ (by decide)) (k:=eW) (f:=.int .i64 2) rfl rfl rfl (sA eW (by simp)) ?_;intro W3 h3 g3;have Kr:=yp.grown g3.grown yp.size (λb e=>by cases e;exact hs1);have h3:aQ W3 w1.heap.size Ip:=h3;have hlk:=h3.get hrl.2 Tryz.underlying33 (z:=.int .i64 0) rfl;rw[hn] at hlk;simp only[Option.getD_some] at hlk)
  | (refine eU rfl _ _ _ rfl Tryz.underlying33 h1 (DS _ (by decide)) (k:=iE) (f:=.int .i64 1) rfl rfl rfl (sA iE (by simp)) ?_;intro W2 h2 g2;have yp:=hc1.grown g2.grown hc1.size (λb e=>by cases e;exact hs1))
  | (refine eU rfl _ _ _ rfl Tryz.underlying33 h0 (DS _ (by decide)) (k:=kP) (f:=.int .i64 4) rfl rfl rfl (sA kP (by simp)) ?_;intro W1 h1 g1;have hc1:=hb0.grown g1.grown hb0.size (λb e=>by cases e;exact hs1)))
 have Si:=hm.below Kr
 clear h0 h1 h2 g1 g2 g3 hb0 hc1 yp aP sA DS
 have HA:=enters_of Tryz.func116 (by kernel_rfl) rfl
 have HS:=enters_of Tryz.func117 (by kernel_rfl) rfl
 refine eC (w:=W3) (d:=some 25) (λ_ w w'=>Below w.heap.size w w') bP 7
  [λv w'=>∃m,v=.map (some m)∧aQ w' m C8,λv _=>v=str word,λv _=>v=.func (.func f) #[] #[],λv _=>v=.pointer (some ⟨sb,0,none⟩),λv _=>v=str rest,λv _=>v=.int .i64 (ps.length:Int),λv w'=>SS (λb=>w.heap.size≤b) w' v ps]
  (λw'=>Below W3.heap.size W3 w') (λ_ w'=>Post w') (by kernel_rfl) rfl rfl ?_ ?_ (zb W3).drew ⟨?_,?_,?_,?_,?_,?_,?_,trivial⟩ ?_ ?_
 · intro i j F hF hij hl v w1 w2 h hr
   rcases j with _|_|_|_|_|_|_|j
   · cases hF
     obtain⟨m,e1,e2⟩:=h;exact⟨m,e1,e2.below hr zr⟩
   · cases hF;exact h
   · cases hF;exact h
   · cases hF;exact h
   · cases hF;exact h
   · cases hF;exact h
   · cases hF;exact SS.below h hr zr
   · cases hF
 · intro i w1 w2 h hr
   exact h.trans (aa hr h.size)
 · intro a' wx hS hd ho next hnx
   exact Ff rfl HA (C9 wx) λu w' hu=>hnx u w' (aM rfl ⟨_,hu.1,hu.2.1⟩) hu.2.2
 · intro a' wx hS hd ho next hnx
   have e1:=(ho 4 (dZ (by kernel_rfl))).trans (show _=(str word:Value) from rfl);exact aR (v:=str word) (by unfold execOp;simp only[e1];simp[go_sem]) (hnx _ _ (aM rfl rfl) (zb _))
 · intro a' wx hS hd ho next hnx
   obtain⟨m,e1,e2⟩:=fA hd 0 (by kernel_rfl) rfl (λk e=>by simp[bP] at e) rfl;have e3:=fA hd 1 (by kernel_rfl) rfl (λk e=>by simp[bP] at e) rfl;have e4:=e2.get hrl.2 Tryz.underlying201 (z:=.nilFunc) rfl;rw[hf] at e4;exact aR (v:=.func (.func f) #[] #[]) (by unfold execOp;simp only[e1,e3];simp[e4]) (hnx _ _ (aM rfl rfl) (zb _))
 · intro a' wx hS hd ho next hnx
   have e1:=(ho 0 (dZ (by kernel_rfl))).trans (show _=(.pointer (some ⟨sb,0,none⟩):Value) from rfl);exact aR (v:=.pointer (some ⟨sb,0,none⟩)) (by unfold execOp;simp only[e1];simp[go_sem]) (hnx _ _ (aM rfl rfl) (zb _))
 · intro a' wx hS hd ho next hnx
   have e1:=(ho 5 (dZ (by kernel_rfl))).trans (show _=(str rest:Value) from rfl);exact aR (v:=str rest) (by unfold execOp;simp only[e1];simp[go_sem]) (hnx _ _ (aM rfl rfl) (zb _))
 · intro a' wx hS hd ho next hnx
   have e1:=(ho 7 (dZ (by kernel_rfl))).trans (show _=(.int .i64 (ps.length:Int):Value) from rfl);exact aR (v:=.int .i64 (ps.length:Int)) (by unfold execOp;simp only[e1];simp[go_sem]) (hnx _ _ (aM rfl rfl) (zb _))
 · intro a' wx hS hd ho next hnx
   have e1:=fA hd 4 (by kernel_rfl) rfl (λk e=>by simp[bP] at e) rfl;have e2:=fA hd 5 (by kernel_rfl) rfl (λk e=>by simp[bP] at e) rfl;have hsz:=Nat.le_trans Kr.size hS.size;refine xL rfl HS e1 rfl e2 (wC 0 ps rest wx Qf hno Ad hrl.1 (Si.below hS)) λu w' hu=>hnx u w' (aM rfl (hu.1.mono λb hb=>Nat.le_trans hsz hb)) hu.2
 · intro a' wx hS hV hout next hnx
   have e0:=hV 2 _ 20 (by decide) rfl rfl rfl;have e1:=hV 3 _ 21 (by decide) rfl rfl rfl;have e2:=hV 6 _ 24 (by decide) rfl rfl rfl;exact Cn rfl en e0 e1 rfl ((HF wx _ (Kr.trans (aa hS Kr.size)) e2).mono λe w' h=>⟨_,h.1,h.2⟩) λu w' hu=>hnx u w' hu
 intro a2 v2 w2 jO
 simp only[pq,pz,pw]
 go_wp2_with fail
 go_end0
 exact⟨rfl,jO⟩
structure AM (L:bh):Prop where
 units:L.units.length<1000
 last:L.last.length<100000
 num:∀n,(aq L.last n).getD 0<1000000
 uses:∀n,((aq L.units n).getD .zero).uses.length≤1000
inductive nV (L:bh):List (List UInt8)→bh→Prop
 | put (n s f u:List UInt8):(0:UInt8)∉n→(0:UInt8)∉s→(0:UInt8)∉f→nV L [kP,n,s,f,u] (ep L n s f u)
 | drop (n:List UInt8):nV L [iE,n] ⟨fK L.units n,L.last⟩
 | built (n c:List UInt8):(0:UInt8)∉n→nV L [eW,n,c] (ez L n c)
theorem fe.cV {B:Nat} {w w':World} (h:fe w) (hB:0<B) (hb:Below B w w'):fe w':=by
 obtain⟨m,h⟩:=h
 exact⟨m,(World.cell?_of_block (hb.block 0 hB)).trans h⟩
theorem zn {R:Nat→Prop} {mu ml sb:Nat} {L L':bh} {text:List UInt8} (parts:List (List UInt8)) (w:World) (hm:fe w) (ha:nV L parts L') (hb:AM L) (ht:aU 0 parts=text) (htl:text.length≤100000) (hc:w.cell? ⟨sb,0,none⟩=some (.map (some mu))) (hc1:w.cell? ⟨sb,1,none⟩=some (.map (some ml))) (hL:gA R w mu ml L):
 Calls Tryz.prog 74 #[.pointer (some ⟨sb,0,none⟩),str text] w λe w'=>e=.returned (.tuple #[])∧gA (RO R w.heap.size) w' mu ml L'∧KL mu ml w w':=by
 have O7:∀{W},Below w.heap.size w W→gA R W mu ml L:=λhW=>hL.KS (B:=w.heap.size) (KS.ai hW zr zr)
 have hpt:∀x∈parts,x.length≤100000:=λx hx=>by
  have:=lS 0 parts x hx;rw[ht] at this;omega
 cases ha with
 | put n s f u h1 h2 h3=>
  refine lX (f:=151) w hm (by decide) (ps:=[n,s,f,u]) (by simp) (λx hx=>?_) ht htl rfl rfl (enters_of Tryz.func151 (by kernel_rfl) rfl) λW v hW hv=>?_
  · simp at hx
    rcases hx with rfl|rfl|rfl<;>assumption
  · refine(Ex n s f u v W hv (Below.keep hW hc) (Below.keep hW hc1) (O7 hW) (hm.below hW) (hpt u (by simp)) ⟨hb.units,hb.last,hb.num n⟩).mono ?_
    rintro e w' ⟨rfl,g1,g2⟩;exact⟨rfl,g1.mono λb hb=>hb.imp id (Nat.le_trans hW.size),(KL.ai hW zr).trans g2⟩
 | drop n=>
  refine lX (f:=152) w hm (by decide) (ps:=[n]) (by simp) (λx hx=>by simp at hx) ht htl rfl rfl (enters_of Tryz.func152 (by kernel_rfl) rfl) λW v hW hv=>?_
  refine(Dp [n] n rfl v W hv (Below.keep hW hc) (O7 hW)).mono ?_;rintro e w' ⟨rfl,g1,g2⟩;exact⟨rfl,g1.mono λb hb=>.inl hb,(KL.ai hW zr).trans (KL.mK g2 (.inl rfl))⟩
 | built n c h1=>
  refine lX (f:=153) w hm (by decide) (ps:=[n,c]) (by simp) (λx hx=>by simp at hx;rw[hx];exact h1) ht htl rfl rfl (enters_of Tryz.func153 (by kernel_rfl) rfl) λW v hW hv=>?_
  refine(yV n c v W hv (Below.keep hW hc) (O7 hW) (hpt c (by simp)) hb.units (hb.uses n)).mono ?_;rintro e w' ⟨rfl,g1,g2⟩;exact⟨rfl,g1.mono λb hb=>hb.imp id (Nat.le_trans hW.size),(KL.ai hW zr).trans g2⟩
structure KW (B mu ml:Nat) (w w':World):Prop where
 cV:Below B w w'
 keep:∀(b:Nat) (x:Obj),w.heap[b]? =some x→(qK x∨(∃es c,x=.map es c)∧b≠mu∧b≠ml)→w'.heap[b]? =some x
theorem KW.trans {B mu ml:Nat} {a b c:World} (h:KW B mu ml a b) (h':KW B mu ml b c):KW B mu ml a c:=⟨h.cV.trans h'.cV,λx o e ho=>h'.keep x o (h.keep x o e ho) ho⟩
theorem KW.Au {B mu ml:Nat} {a b:World} (h:KS B a b):KW B mu ml a b:=⟨h.cV,λx o e ho=>h.keep x o e (ho.imp id λh=>h.1)⟩
theorem KW.ai {B mu ml K:Nat} {a b:World} (h:Below K a b) (hK:a.heap.size≤K) (hB:B≤K):KW B mu ml a b:=.Au (.ai h hK hB)
theorem KW.Na {B mu ml:Nat} {a b:World} (h:KL mu ml a b) (h1:∃es c,a.heap[mu]? =some (.map es c)) (h2:∃es c,a.heap[ml]? =some (.map es c)) (hB:B≤mu∧B≤ml) (hs:B≤a.heap.size):KW B mu ml a b:=
 ⟨⟨h.os, h.tape, h.output, h.size, fun k hk => h.block k (by omega) (by omega) (by omega)⟩, fun x o e ho => by
  rcases ho with ho|⟨_,n1,n2⟩
  · exact h.ey h1 h2 x o e ho
  · exact(h.block x (aj e) n1 n2).trans e⟩
theorem KW.row {B mu ml:Nat} {a b:World} (h:KW B mu ml a b) {g:Nat} {cs:Array Value} {t:TypeId} {fl:Nat×Nat} (e:a.heap[g]? =some (.cells cs t fl)) (ht:t≠133∧t≠145∧t≠147∧t≠198):b.heap[g]? =some (.cells cs t fl):=h.keep g _ e (.inl (fH ht))
theorem bq.below {R:Nat→Prop} {B K:Nat} {w w':World} {l:Loc} {L:bh} {at_:Nat} (h:bq R B w l L at_) (hb:Below K w w') (hK:w.heap.size≤K) (TB:B≤K):bq R B w' l L at_:=by
 obtain⟨ds,hl⟩:=h.log
 exact⟨(hb.block _ (Nat.lt_of_lt_of_le (aj h.head) hK)).trans h.head,h.lib.KS (B:=B) (KS.ai hb hK TB),⟨ds,hl.below hb hK⟩,h.pP.below hb hK,h.hB,h.room⟩
theorem bq.mono {R R':Nat→Prop} {B:Nat} {w:World} {l:Loc} {L:bh} {at_:Nat} (h:bq R B w l L at_) (hR:∀b,R b→R' b):bq R' B w l L at_:=⟨h.head,h.lib.mono hR,h.log,h.pP,h.hB,h.room⟩
set_option maxRecDepth 8000 in
theorem yd {R D:Nat→Prop} {B:Nat} {l:Loc} {L L':bh} {at_:Nat} (parts:List (List UInt8)) (v:Value) (w:World) (hv:SS D w v parts) (hS:bq R B w l L at_) (hm:fe w) (lN:0<B) (ha:nV L parts L') (hb:AM L) (hlen:(aU 0 parts).length≤100000) (hat:at_+bV (aU 0 parts).length≤l.dn) (hd:l.dn≤65536):
 Calls Tryz.prog 62 #[.pointer (some ⟨l.sb,0,none⟩),v] w λe w'=>e=.returned (.int .i64 0)∧bq (RO R w.heap.size) B w' l L' (at_+bV (aU 0 parts).length)∧KW B l.mu l.ml w w':=by
 have hpl:=nL 0 parts
 obtain⟨p,c,rfl,_⟩:=hv.shape
 have HJ:=o7 parts [0] _ w hv (by rw[iH];omega) (by omega)
 rw[iH] at HJ
 obtain⟨tx,KG⟩:∃t,aU 0 parts=t:=⟨_,rfl⟩
 rw[KG] at HJ hlen hat ⊢
 have yp:=(af hS.head 2).trans rfl
 have mm:B≤w.heap.size:=Nat.le_trans hS.hB.1 (Nat.le_of_lt (aj hS.head))
 have hmb:1≤bV tx.length∧bV tx.length≤3705:=by unfold bV;omega
 go_enter Tryz.func62,Tryz.ntmps62
 go_upto_region 2 with(go_at_call 63;refine HJ.mono ?_;clear HJ;rintro e w1 ⟨rfl,aP⟩)
 have hS1:=hS.below aP zr mm
 have yp:=Below.keep aP yp
 have CH:=hm.below aP
 have hs1:=aP.size
 clear hS hv hm
 obtain⟨ds,LO⟩:=hS1.log
 obtain⟨pv,S,hD,h1,h2,h3,h4,h5,h6⟩:=hS1.pP
 have HW:=uA (B:=B) (p0:=0) (c0:=S.calls) tx w1 LO ⟨pv,S,hD,h1,h2,h3,h4,Int.le_refl _,Int.le_refl _⟩ hS1.hB.2.2.2 hlen hat rfl (by omega) (by omega)
 go_upto_region 5 with(go_at_call 109;refine HW.mono ?_;clear HW;rintro e w2 ⟨rfl,⟨Tj,Aa⟩,Lu,nC⟩)
 have vX:=hS1.lib.KS nC
 have Fu:=nC.keep _ _ hS1.head (.inl (fH (by decide)))
 have hm2:fe w2:=CH.cV lN nC.cV
 have HR:=zn (text:=tx) parts w2 hm2 ha hb KG hlen ((af Fu 0).trans rfl) ((af Fu 1).trans rfl) vX
 go_wp2_with (go_at_call 74;refine HR.mono ?_;clear HR;rintro e w3 ⟨rfl,Mu,rA⟩)
 go_ret
 obtain⟨VZ,c1,Fv⟩:=vX.units.map
 obtain⟨Tv,c2,hml⟩:=aQ.map vX.last
 have hs2:=nC.cV.size
 have O8:KW B l.mu l.ml w2 w3:=KW.Na rA ⟨_,_,Fv⟩ ⟨_,_,hml⟩ ⟨hS1.hB.2.1,hS1.hB.2.2.1⟩ (by omega)
 have hne:∀{b:Nat} {cs:Array Value} {t:TypeId} {fl:Nat×Nat},w2.heap[b]? =some (.cells cs t fl)→w3.heap[b]? =w2.heap[b]? :=λ{b cs t fl} e=>rA.block b (aj e) (λe2=>by subst e2;rw[Fv] at e;cases e) (λe2=>by subst e2;rw[hml] at e;cases e)
 obtain⟨Vz,S2,hM2,k2⟩:=Lu
 refine⟨rfl,⟨(hne Fu).trans Fu,Mu.mono (λb hb=>hb.imp id λh=>by omega),⟨Tj,Aa.of_block (hne Aa.head)⟩,⟨Vz,S2,hM2.agree λb hb=>?_,?_⟩,hS1.hB,hat⟩,(KW.ai aP zr mm).trans ((KW.Au nC).trans O8)⟩
 · rcases hb with rfl|rfl|rfl|hb
   · exact hne hM2.head
   · exact hne hM2.iY
   · exact hne hM2.now
   · rcases hM2.pend.2 with⟨e,_⟩|⟨g',cap,cur,e,_,tZ,_⟩
     · rw[e] at hb;cases hb
     · rw[e] at hb
       simp only[Value.ownBlock,Option.some.injEq] at hb;subst hb;exact hne tZ
 · obtain⟨q1,q2,q3,q4,q5,q6⟩:=k2
   exact⟨q1,q2,q3,q4,by omega,by omega⟩
def Ci (us:List (List UInt8×az)):List (List UInt8)→List (List UInt8×List UInt8)→List UInt8
 | [],_=>[]
 | n::r,d=>match aq us n with
  | none=>n
  | some x=>if x.aO=(d.head?.map (·.2)).getD [] then Ci us r d.tail else n
def mT (us:List (List UInt8×az)) (u:az):List UInt8:=if u.built then Ci us u.uses u.used else u.name
structure zU (u:az):Prop where
 uses:u.uses.length≤100
 used:u.built=true→u.uses.length≤u.used.length
theorem Cj {us:List (List UInt8×az)} {l:List (List UInt8)} {d:List (List UInt8×List UInt8)} {i:Nat} {n:List UInt8} (h:l[i]? =some n):Ci us (l.drop i) (d.drop i)=match aq us n with
 | none=>n
 | some x=>if x.aO=((d[i]?).map (·.2)).getD [] then Ci us (l.drop (i+1)) (d.drop (i+1)) else n:=by
 obtain⟨hl,rfl⟩:=List.getElem?_eq_some_iff.1 h
 rw[List.drop_eq_getElem_cons hl,Ci,List.head?_drop,List.tail_drop]
set_option maxRecDepth 8000 in
theorem AH {R D:Nat→Prop} {sb mu:Nat} {us:List (List UInt8×az)} (u:az) (v:Value) (w:World) (hc:w.cell? ⟨sb,0,none⟩=some (.map (some mu))) (hL:cB R w mu us) (hv:dN D w v u) (hu:zU u):
 Calls Tryz.prog 64 #[.pointer (some ⟨sb,0,none⟩),v] w λe w'=>e=.returned (str (mT us u))∧Below w.heap.size w w':=by
 obtain⟨r,hr⟩:∃r,mT us u=r:=⟨_,rfl⟩
 rw[hr]
 obtain⟨a,c,d,rfl,wm,Fw,JJ,Qt⟩:=hv
 obtain⟨pa,na,rfl,_⟩:=Fw.shape
 obtain⟨pc,nc,rfl,_⟩:=JJ.shape
 obtain⟨pd,nd,rfl,_⟩:=Qt.shape
 have gN:=heap_alloc_new w (.cells #[str u.name,.int .i64 (u.version:Int),str u.source,str u.aO,.slice pa u.uses.length na,.bool u.built,.slice pc (aH u.code).length nc,.slice pd u.used.length nd] 41)
 have hA:=(zb w).alloc zr (.cells #[str u.name,.int .i64 (u.version:Int),str u.source,str u.aO,.slice pa u.uses.length na,.bool u.built,.slice pc (aH u.code).length nc,.slice pd u.used.length nd] 41)
 unfold mT at hr
 rcases hb:u.built with _|_
 · rw[hb] at hr
   obtain rfl:r=u.name:=hr.symm;clear hr;rw[hb] at gN hA;have b0:=(af gN 0).trans rfl;have b5:=(af gN 5).trans rfl;go_enter Tryz.func64,Tryz.ntmps64;go_wp2_with fail;go_ret;exact⟨rfl,hA⟩
 · rw [hb] at hr gN hA
   have hr:=zh hr;have CJ:=hu.uses;have UZ:=hu.used hb;have b4:=(af gN 4).trans rfl;have b5:=(af gN 5).trans rfl;have Fv:mu<w.heap.size:=by
    obtain⟨es,cc,h1⟩:=hL.map;exact aj h1
   clear hu;go_enter Tryz.func64,Tryz.ntmps64;go_wp2_with fail;have hsz:w.heap.size<(w.alloc (.cells #[str u.name,.int .i64 (u.version:Int),str u.source,str u.aO,.slice pa u.uses.length na,.bool true,.slice pc (aH u.code).length nc,.slice pd u.used.length nd] 41)).heap.size:=aj gN;generalize w.alloc (.cells #[str u.name,.int .i64 (u.version:Int),str u.source,str u.aO,.slice pa u.uses.length na,.bool true,.slice pc (aH u.code).length nc,.slice pd u.used.length nd] 41)=W1 at *;go_loopw [17] (λy wx=>∃i:Nat,i≤u.uses.length∧y=.int .i64 i∧Below W1.heap.size W1 wx∧Ci us (u.uses.drop i) (u.used.drop i)=r) (λy _=>u.uses.length - (intOf y).toNat)
   case atStart=>exact⟨0,Nat.zero_le _,by go_num,zb _,hr.out⟩
   case round=>
    clear b4 b5;obtain⟨i,hi,rfl,cN,hw⟩:=hrel;have hBw:=hA.trans (aa cN (Nat.le_of_lt hsz))
    by_cases hlt:i<u.uses.length
    case neg=>
     obtain rfl:i=u.uses.length:=by omega
     rw[List.drop_length] at hw;obtain rfl:r=[]:=hw.symm;clear hr;go_wp2_with fail;go_ret;exact⟨rfl,hBw⟩
    case pos=>
     obtain⟨x,hx⟩:∃x,u.uses[i]? =some x:=⟨_,List.getElem?_eq_getElem hlt⟩
     obtain⟨y,hy⟩:∃y,u.used[i]? =some y:=⟨_,List.getElem?_eq_getElem (by omega)⟩
     rw[Cj hx,hy] at hw;obtain⟨bu,ou,rfl,_,d0⟩:=(Fw.below hBw zr).at hx;obtain⟨bd,od,rfl,_,d1,d2⟩:=(Qt.below hBw zr).at hy;have hxl:=wm;have Gp:x.length≤maxLen:=by
      obtain⟨_,_,_,_,_,h⟩:=Fw.shape;exact h x (List.mem_of_getElem? hx)
     obtain⟨vx,hlk,Fy⟩:=hL.iL (k:=x) Gp;obtain⟨lx,H7⟩:∃lx,aq us x=lx:=⟨_,rfl⟩
     rw[H7] at hlk Fy hw;obtain⟨xa,xc,xd,rfl,_,yF,rH,Bp⟩:=Fy;obtain⟨Cp,Cq,rfl,_⟩:=yF.shape;obtain⟨Cr,Cs,rfl,_⟩:=rH.shape;obtain⟨Ct,Cu,rfl,_⟩:=Bp.shape;clear yF rH Bp;obtain⟨X,hX⟩:∃X,lx.getD .zero=X:=⟨_,rfl⟩
     rw[hX] at hlk
     replace hX:=zh hX
     have DH:=Below.keep hBw hc;have j1:=hlk wr true (hBw.block _ Fv);have hil:(i:Int)<(u.uses.length:Int):=by omega
     have DO:(i:Int)<(u.used.length:Int):=by omega
     have h63:(i:Int)+1≤9223372036854775807:=by omega
     have Sy:=(cN.block w.heap.size hsz).trans gN;obtain⟨M4,qc⟩:∃b,lx.isSome=b:=⟨_,rfl⟩
     rw[qc] at j1
     replace qc:=zh qc
     clear hlk hx hy H7 Fw Qt JJ;go_upto_region 7 with fail;obtain⟨W4,Fq⟩:∃W4,wr.alloc (.cells #[str X.name,.int .i64 (X.version:Int),str X.source,str X.aO,.slice Cp X.uses.length Cq,.bool X.built,.slice Cr (aH X.code).length Cs,.slice Ct X.used.length Cu] 41)=W4:=⟨_,rfl⟩
     have tX:Below wr.heap.size wr W4:=Fq▸(zb wr).alloc zr _;have L7:W4.heap[wr.heap.size]? =some (.cells #[str X.name,.int .i64 (X.version:Int),str X.source,str X.aO,.slice Cp X.uses.length Cq,.bool X.built,.slice Cr (aH X.code).length Cs,.slice Ct X.used.length Cu] 41 (0,0)):=Fq▸heap_alloc_new wr _;rw[Fq];have x3:=(af L7 3).trans rfl;have x7:=(af (ag Sy tX) 7).trans rfl;have x2:=Below.keep tX d2;have jN:=hBw.trans (aa tX hBw.size);have OI:=cN.trans (aa tX cN.size);clear Fq j1 DH d0 d1 d2 L7 Sy tX;rcases lx with _|z
     · obtain rfl:M4=false:=qc.out.symm
       obtain rfl:x=r:=hw;go_quiet (fail);go_wp2_with fail;go_ret;exact⟨rfl,tP jN _⟩
     obtain rfl:M4=true:=qc.out.symm;obtain rfl:z=X:=hX.out;dsimp only[Option.map_some,Option.getD_some] at hw
     by_cases hf:z.aO=y.2
     · rw[if_pos hf] at hw
       have hq:(z.aO==y.2)=true:=by simp[hf]
       have KC:(z.aO != y.2)=false:=by simp[hf]
       replace hw:=zh hw
       clear hf;go_quiet (fail);go_wp2_with fail;exact⟨⟨i+1,hlt,by go_num,tP OI _,hw.out⟩,by simp only[intOf];omega⟩
     · rw[if_neg hf] at hw
       obtain rfl:x=r:=hw;have hq:(z.aO==y.2)=false:=by simp[hf]
       have KC:(z.aO != y.2)=true:=by simp[hf]
       clear hf;go_quiet (fail);go_wp2_with fail;go_ret;exact⟨rfl,tP jN _⟩
end
open Go Go.RowKit
def ni (c:UInt8):Bool:=c != 10&&(decide (c.toNat<32)||decide (126<c.toNat))
def j7 (t:List UInt8):Bool:=decide (t.length≤3000)&& !t.any ni
theorem J4 (c:UInt8):((c.toNat:Int)==10)=(c==10):=by
 rw[Bool.eq_iff_iff,beq_iff_eq,beq_iff_eq]
 constructor
 · intro h
   refine UInt8.toNat_inj.1 ?_
   show c.toNat=10
   omega
 · rintro rfl
   rfl
set_option maxRecDepth 4000 in
theorem Dd (c:UInt8) (w:World):Calls Tryz.prog 102 #[.int .u8 (c.toNat:Int)] w λe w'=>e=.returned (.bool (ni c))∧w'=w:=by
 obtain⟨r,hr⟩:∃r,ni c=r:=⟨_,rfl⟩
 rw[hr]
 have hr:=zh hr
 unfold ni at hr
 have he:=J4 c
 generalize c.toNat=n at *
 by_cases h1:n=10
 · subst h1
   obtain rfl:r=false:=by
    rw[←hr.out,bne,←he]
    rfl
   clear hr he;go_enter Tryz.func102,Tryz.ntmps102;go_wp2_with fail;go_ret;exact⟨rfl,rfl⟩
 · have hb:((n:Int)==10)=false:=by rw[beq_eq_false_iff_ne];omega
   by_cases h2:n<32
   · obtain rfl:r=true:=by
      rw[←hr.out,bne,←he,hb];simp[h2]
     have h2:(n:Int)<32:=by omega
     clear hr he;go_enter Tryz.func102,Tryz.ntmps102;go_wp2_with fail;go_ret;exact⟨by simp[bne,hb],rfl⟩
   · obtain rfl:r=decide (126<n):=by
      rw[←hr.out,bne,←he,hb];simp[h2]
     have h2:¬(n:Int)<32:=by omega
     have h3:decide (126<(n:Int))=decide (126<n):=by
      rw[Bool.eq_iff_iff,decide_eq_true_eq,decide_eq_true_eq];omega
     clear hr he;go_enter Tryz.func102,Tryz.ntmps102;go_wp2_with fail;go_ret;exact⟨by simp[bne,hb],rfl⟩
set_option maxRecDepth 4000 in
theorem uj {D:Nat→Prop} (l:List UInt8) (v:Value) (w:World) (hv:CV D w v (aH l)) (hl:l.length≤100000):
 Calls Tryz.prog 136 #[v,.func (.func 102) #[] #[]] w λe w'=>∃i:Int,e=.returned (.int .i64 i)∧decide (0≤i)=l.any ni∧w'=w:=by
 obtain⟨p,c,rfl,Fs,_⟩:=hv.shape
 rw[ak] at *
 go_enter Tryz.func136,Tryz.ntmps136
 go_wp2_with fail
 go_loopw [8] (λa wx=>∃i:Nat,i≤l.length∧a=.int .i64 i∧wx=w∧(l.take i).any ni=false) (λa _=>l.length - (intOf a).toNat)
 case atStart=>exact⟨0,Nat.zero_le _,by go_num,rfl,rfl⟩
 case round=>
  obtain⟨i,hi,rfl,rfl,hn⟩:=hrel
  by_cases hlt:i<l.length
  case neg=>
   obtain rfl:i=l.length:=by omega
   rw[List.take_length] at hn;go_wp2_with fail;go_ret;exact⟨-1,rfl,by rw[hn];rfl,rfl⟩
  case pos=>
   obtain⟨x,hx⟩:∃x,l[i]? =some x:=⟨_,List.getElem?_eq_getElem hlt⟩
   obtain⟨b,o,rfl,_,hc⟩:=hv.at (k:=i) (by rw[jo,hx];rfl);have HB:=Dd x wr;have h63:(i:Int)+1≤9223372036854775807:=by omega
   have uh:=List.mem_of_getElem? hx;have qi:(l.take (i+1)).any ni=ni x:=by
    rw[List.take_add_one,hx,List.any_append,hn];simp
   rcases gN:ni x with _|_
   · rw[gN] at HB qi
     clear hx hn hv;go_wp2_with (go_at_call 102;refine HB.mono ?_;clear HB;rintro e w1 ⟨rfl,rfl⟩);exact⟨⟨i+1,hlt,by go_num,trivial,qi⟩,by simp only[intOf];omega⟩
   · rw[gN] at HB qi
     have Bg:l.any ni=true:=List.any_eq_true.2 ⟨x,uh,gN⟩;clear hx hn hv qi;go_wp2_with (go_at_call 102;refine HB.mono ?_;clear HB;rintro e w1 ⟨rfl,rfl⟩);go_ret;exact⟨i,rfl,by rw[Bg];simp,rfl⟩
theorem oL {D:Nat→Prop} (l:List UInt8) (v:Value) (w:World) (hv:CV D w v (aH l)) (hl:l.length≤100000):
 Calls Tryz.prog 101 #[v,.func (.func 102) #[] #[]] w λe w'=>e=.returned (.bool (l.any ni))∧w'=w:=by
 have HI:=uj l v w hv hl
 generalize l.any ni=r at *
 go_enter Tryz.func101,Tryz.ntmps101
 go_wp2_with (go_at_call 136;refine HI.mono ?_;clear HI;rintro e w1 ⟨i,rfl,hi,rfl⟩)
 go_ret
 exact⟨by rw[←hi];rfl,rfl⟩
set_option maxRecDepth 4000 in
theorem yM (t:List UInt8) (w:World) (hl:t.length≤100000):Calls Tryz.prog 60 #[str t] w λe w'=>e=.returned (.bool (j7 t))∧Below w.heap.size w w':=by
 obtain⟨r,hr⟩:∃r,j7 t=r:=⟨_,rfl⟩
 rw[hr]
 have hr:=zh hr
 unfold j7 at hr
 by_cases h:t.length≤3000
 · have h1:(t.length:Int)≤3000:=by omega
   have hcv:=run_bytes_of_string (P:=Tryz.prog) w 9 38 5 ⟨t.toArray⟩ Tryz.underlying9 Tryz.underlying38 Tryz.underlying5;rw[show(⟨t.toArray⟩:ByteArray).size=t.length by show t.toArray.size=_;simp] at hcv;obtain⟨cc,Fs⟩:∃cc,grownCap w t.length 0 5=cc:=⟨_,rfl⟩
   rw[Fs] at hcv;obtain⟨W1,rB⟩:∃W1,w.drew.alloc (.cells (bytesRow ⟨t.toArray⟩ cc) 5 ((bytesRow ⟨t.toArray⟩ cc).size,(bytesRow ⟨t.toArray⟩ cc).size+1))=W1:=⟨_,rfl⟩
   rw[rB] at hcv;have aP:Below w.heap.size w W1:=rB▸(zb w).drew.alloc zr _;have xP:CV (λ_=>True) W1 (.slice (some ⟨w.heap.size,0,none⟩) t.length cc) (aH t):=by
    have hh:W1.heap[w.heap.size]? =some (.cells (bytesRow ⟨t.toArray⟩ cc) 5 ((bytesRow ⟨t.toArray⟩ cc).size,(bytesRow ⟨t.toArray⟩ cc).size+1)):=rB▸heap_alloc_new w.drew _;refine⟨_,_,by rw[ak],by rw[ak,←Fs];exact grownCap_ge _ _ _ _,by rw[ak];unfold maxLen;omega,.inr ⟨_,0,rfl,trivial,aj hh,λj u hj=>?_⟩⟩;have hj2:j<t.length:=by have:=(List.getElem?_eq_some_iff.1 hj).1;rwa [ak] at this
    rw[Nat.zero_add];refine(af hh j).trans ?_;unfold bytesRow;rw[Array.getElem?_append_left (by simpa using hj2)];rw[jo] at hj
    simpa using hj
   clear rB Fs;have HC:=oL t _ W1 xP hl;rcases Bg:t.any ni with _|_
   · obtain rfl:r=true:=by rw[←hr.out,Bg];simp[h]
     rw[Bg] at HC;clear hr h;go_enter Tryz.func60,Tryz.ntmps60;go_wp2_with (go_at_call 101;refine HC.mono ?_;clear HC;rintro e w1 ⟨rfl,rfl⟩);go_ret;exact⟨rfl,aP⟩
   · obtain rfl:r=false:=by rw[←hr.out,Bg];simp
     rw[Bg] at HC;clear hr h;go_enter Tryz.func60,Tryz.ntmps60;go_wp2_with (go_at_call 101;refine HC.mono ?_;clear HC;rintro e w1 ⟨rfl,rfl⟩);go_ret;exact⟨rfl,aP⟩
 · obtain rfl:r=false:=by rw[←hr.out];simp[h]
   have h1:¬(t.length:Int)≤3000:=by omega
   clear hr h;go_enter Tryz.func60,Tryz.ntmps60;go_wp2_with fail;go_ret;exact⟨rfl,zb _⟩
end Go.Proofs.YtemjidmkolfgnaaGreatDoor
