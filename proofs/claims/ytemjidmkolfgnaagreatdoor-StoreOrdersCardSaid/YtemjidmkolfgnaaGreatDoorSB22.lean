/-
  Lemmas for the statement: rows of operations that a region makes, and append behind them. Conditions: bounds of lengths; the variable strings.asciiSpace.
-/
import Derived.Test.YtemjidmkolfgnaaGreatDoorSBn
import Derived.Test.YtemjidmkolfgnaaGreatDoorSB19
import Derived.Test.YtemjidmkolfgnaaGreatDoorSB21
namespace Go.Proofs.YtemjidmkolfgnaaGreatDoor
section
open Go.RowKit
theorem GS {B B' k k' n n':Nat} {e e':TypeId} {w:World} {v v':Value} {xs xs':List Value} (h:w.ownsRow B e k v n xs) (h':w.ownsRow B' e' k' v' n' xs') (hne:e≠e'):∀b,v.ownBlock=some b→v'.ownBlock≠some b:=by
 intro b hb hb'
 rcases h.2 with⟨rfl,_⟩|⟨g,cap,cur,rfl,_,hg,_⟩
 · cases hb
 · rcases h'.2 with⟨rfl,_⟩|⟨g',cap',cur',rfl,_,hg',_⟩
   · cases hb'
   · simp only[Value.ownBlock,Option.some.injEq] at hb hb'
     subst hb;subst hb';rw[hg] at hg';injection hg' with hg';injection hg' with _ ht _;exact hne ht
end
open Go Go.RowKit
def IJ (T U:TypeId):Prop:=(Tryz.prog.info? T).map (λi=>(i.zero,i.size,i.bytes))=some (some (.agg #[.string ⟨#[]⟩,.bool false,.slice none 0 0,.string ⟨#[]⟩,.slice none 0 0]),5,88)∧Tryz.prog.underlying U=some (.slice T)
theorem GQ:IJ 181 121:=⟨by kernel_rfl,by kernel_rfl⟩
theorem BT:IJ 179 120:=⟨by kernel_rfl,by kernel_rfl⟩
def rj (T:TypeId) (D:Nat→Prop) (B:Nat) (w:World) (v:Value) (l:List dw):Prop:=∃cs,w.ownsRow B T 5 v l.length cs∧bN D w cs l
theorem rj.below {T:TypeId} {D:Nat→Prop} {B K:Nat} {w w':World} {v:Value} {l:List dw} (h:rj T D B w v l) (hb:Below K w w') (hK:w.heap.size≤K):rj T D B w' v l:=by
 obtain⟨cs,h1,h2⟩:=h
 exact⟨cs,aT h1 hb hK,h2.below hb hK⟩
theorem EV {T:TypeId} {D:Nat→Prop} {B n:Nat} (w:World) (hB:B≤w.heap.size) {l:List dw} {cs:List Value} (hn:l.length=n) (hm:n≤maxLen) (hc:bN D w cs l):rj T D B (w.alloc (.cells cs.toArray T)) (.slice (some ⟨w.heap.size,0,none⟩) n n) l:=by
 subst hn
 have hb:=(zb w).alloc zr (.cells cs.toArray T)
 exact⟨cs,⟨hc.length,.inr ⟨w.heap.size,l.length,cs.toArray,rfl,hB,heap_alloc_new w _,nl _,hm,by simpa using hc.length,by rw[←hc.length];simp⟩⟩,hc.below hb zr⟩
theorem uU {D:Nat→Prop} {P:Program} {ops:Array Oper} {n:Nat} {V:List VS} {E:List (Nat×VS)} {a0:Act} {S:World→Prop} {Q:Exit→Act→World→Prop} {k:Nat} {o:Oper} (hg:o.guard=none) (hs:bB D P S ops n V E k o) (hn:ops.size≤n):
 mZ P .any ops Q (AK D S E a0) (mB D V) a0 k o:=by
 intro a w hS hd ho next hnx
 obtain⟨s,h1,⟨h2,_⟩|⟨h2,ins,h3,h4⟩⟩:=hs
 · unfold cw at h2
   rw[hg] at h2;cases h2
 · refine h4 a w Q hS.1 (λp hp=>ji (h3 p hp) hS hd λs hs=>ho s λo ho' e=>?_) next λv w' hv hb=>hnx v w' (λs' hs'=>by rw[h1] at hs';cases hs';exact hv) hb
   obtain⟨j,hj,e'⟩:=List.getElem_of_mem ho';exact hs j o (Nat.lt_of_lt_of_le (by simpa using hj) hn) (by rw[←Array.getElem?_toList,List.getElem?_eq_getElem hj,e']) e
def zX (P:Program) (ops:Array Oper) (h n:Nat):Bool:=
 P.follows .mixedOrders&&(gq .any ops&&(decide (ops.size=h+3)&&(jL .any ops h&&(kY .any ops h h&&(kY .any ops h (h+1)&&eo ops n)))))
structure CZ (P:Program) (ops:Array Oper) (a0:Act) (om os:Oper) (da dm O f:Nat):Prop where
 mid:∀a w,(∀s,Out ops s→a.eval (.tmp s)=a0.eval (.tmp s))→∀(Q:Exit→Act→World→Prop) (next:Act→World→Prop),next (a.put om.dst (.pointer (some ⟨O,f,none⟩))) w→om.wp P a w next Q
 SJ:∀a w p n c u,a.eval (.tmp da)=.slice p n c→a.eval (.tmp dm)=.pointer (some ⟨O,f,none⟩)→w.cell? ⟨O,f,none⟩=some u→u.oneCell'=true→w.frozen? ⟨O,f,none⟩=false→∀(Q:Exit→Act→World→Prop) (next:Act→World→Prop),next (a.put os.dst undef) (w.setCell ⟨O,f,none⟩ (.slice p n c))→os.wp P a w next Q
theorem q9 {D : Nat → Prop} {P : Program} {ops : Array Oper} {a0 : Act} {Q : Exit → Act → World → Prop} {id : Nat} {w : World} {oa om os : Oper} {da dm O f : Nat} (h : Nat) (E : List (Nat × VS)) (V : List VS) (S : World → Prop) (Ah : Value → World → Prop) (S2 S3 : World → Prop)
 (hok:zX P ops h a0.tmps.size=true) (ha:ops[h]? =some oa) (hb:ops[h+1]? =some om) (hc:ops[h+2]? =some os) (hda:oa.dst=some da) (Gg:om.dst=some dm) (hds:os.dst=none) (ht:CZ P ops a0 om os da dm O f)
 (fR:∀w w',S w→Below w.heap.size w w'→S w') (A8:∀v w w',Ah v w→Below w.heap.size w w'→Ah v w') (jO:∀w w',S2 w→Below w.heap.size w w'→S2 w') (hS:S w.drew) (hE:jG D w.drew a0 E)
 (hst:dJ D P S ops (h+3) V E 0 (ops.toList.take h))
 (nD:∀a w,S w→(∀(j:Nat) (s:VS) (d:Nat),j<h→V[j]? =some s→(ops[j]?).bind (·.dst)=some d→s.holds D w (a.eval (.tmp d)))→∀next:Act→World→Prop,(∀v w',Ah v w'→S2 w'→next (a.put oa.dst v) w')→oa.wp P a w next Q)
 (hsh:∀v w,Ah v w→∃p n c,v=.slice p n c) (gN:∀w,S2 w→∃u,w.cell? ⟨O,f,none⟩=some u∧u.oneCell'=true∧w.frozen? ⟨O,f,none⟩=false)
 (nG:∀v w,Ah v w→S2 w→S3 (w.setCell ⟨O,f,none⟩ v))
 (hend:∀a w,S3 w→Q .normal (bD a (ops.toList.take (h+2)) a0) w):
 (Code.region id ops true).wp P Q a0 w:=by
 unfold zX at hok
 simp only[Bool.and_eq_true,decide_eq_true_eq] at hok
 obtain⟨k1,k2,k3,k4,k5,k6,k7⟩:=hok
 have hgd:∀o∈ops.toList,o.guard=none:=by
  unfold eo at k7;simp only[Bool.and_eq_true,List.all_eq_true,decide_eq_true_eq] at k7;exact λo ho=>(k7.2 o ho).1
 have steps:∀(l:List Oper) (k:Nat),(∀o∈l,o.guard=none)→dJ D P S ops (h+3) V E k l→eP P .any ops Q (AK D S E a0) (mB D V) a0 k l:=by
  intro l
  induction l with
  | nil=>exact λ_ _ _=>trivial
  | cons o l ih=>exact λk hg hs=>⟨uU (hg o (by simp)) hs.1 (Nat.le_of_eq k3),ih (k+1) (λx hx=>hg x (by simp[hx])) hs.2⟩
 refine rS (S:=AK D S E a0) (A:=mB D V) (S2:=S2) (S3:=S3) (Ah:=Ah) h k1 k2 k3 k4 k5 k6 k7 ha hb hc hda Gg (λj v w1 w2 h hb s hs=>(h s hs).below hb) (λw1 w2 h hb=>⟨fR _ _ h.1 hb,λp hp=>(h.2 p hp).below hb⟩) A8 jO ⟨hS,hE.all⟩
  (steps _ 0 (λo ho=>hgd o (List.mem_of_mem_take ho)) hst) ?_ (λa w hout next hn=>ht.mid a w hout Q next hn) ?_ ?_
 · intro a w hS hA hout next hn
   refine nD a w hS.1 (λj s d hj hs hd=>?_) next hn
   rw[Option.bind_eq_some_iff] at hd;obtain⟨oj,jt,rG⟩:=hd;exact hA j oj d hj jt rG s hs
 · intro a w hS hv hm hout next hn
   obtain⟨p,n,c,e⟩:=hsh _ _ hv;obtain⟨u,Bn,Bo,JH⟩:=gN w hS;have:=nG _ _ hv hS;rw[e] at this;exact ht.SJ a w p n c u e hm Bn Bo JH Q next (hn _ _ this)
 · intro a w hdf hsz hout hS
   have hp := dO hdf hsz hout;have hl : ops.toList = ops.toList.take (h + 2) ++ [os] := by
    have:ops.toList.length=h+3:=by simpa using k3
    apply List.ext_getElem?;intro j
    by_cases hj:j<h+2
    · rw[List.getElem?_append_left (by simp;omega),List.getElem?_take_of_lt hj]
    · rw[List.getElem?_append_right (by simp;omega),List.length_take,this]
      by_cases hj2:j=h+2
      · subst hj2
        rw[Array.getElem?_toList,hc];simp
      · rw[List.getElem?_eq_none (by omega),List.getElem?_eq_none (by simp;omega)]
   have e:∀(l:List Oper) (b:Act),bD a (l++[os]) b=bD a l b:=by
    intro l
    induction l with
    | nil=>intro b;show(b.put os.dst _)=b;rw[hds];rfl
    | cons o l ih=>intro b;exact ih _
   rw[hp,hl,e];exact hend a w hS
section
variable {D:Nat→Prop} {ops:Array Oper} {h:Nat} {V:List VS} {E:List (Nat×VS)} {S:World→Prop} {k:Nat} {o:Oper}
theorem E0 {T:TypeId} {x y:Operand} {n:List UInt8} {g:fT} (ho:o.op=.build T #[(0,x),(1,y)]) (hT:T=181∨T=179) (hw:cw ops h V o=some true) (hk:V[k]? =some (.op ⟨n,g⟩)) (hx:aL ops h V E o x=some (.eq (str n))) (hy:aL ops h V E o y=some (.sig g)) (hn:n.length≤maxLen):bB D Tryz.prog S ops h V E k o:=
 rQ [(x,.eq (str n)),(y,.sig g)] hw hk (by simp[hx,hy]) λa w Q hS hi next hnx=>by
  have h1:a.eval x=str n:=hi (x,.eq (str n)) (by simp);obtain⟨u1,u2,eu,U1,Bn,Bo⟩:=hi (y,.sig g) (by simp);dsimp only at eu;have hrun:∀ev:Operand→Value,ev x=str n→ev y=.agg #[.bool g.iter,u1,str g.res,u2]→(execOp ev o).run Tryz.prog w=.ok (.value (.agg #[str n,.bool g.iter,u1,str g.res,u2])) w:=λev h1 h2=>by
   unfold execOp;obtain⟨p,c,rfl,_⟩:=Bn.shape;obtain⟨q,d,rfl,_⟩:=Bo.shape;rcases hT with rfl|rfl<;>simp[ho,h1,h2,go_sem]
  unfold Oper.wp;rw[hrun _ h1 eu];exact hnx _ _ ⟨u1,u2,rfl,⟨hn,U1⟩,Bn,Bo⟩ (zb _)
theorem E3 {T U:TypeId} {x:Operand} {y:dw} {B:Nat} (ho:o.op=.buildSlice U 1 #[(0,x)]) (hT:(T=181∧U=121)∨(T=179∧U=120)) (hw:cw ops h V o=some true) (hk:V[k]? =some (.prop λw v=>rj T D B w v [y])) (hx:aL ops h V E o x=some (.op y)) (hB:∀w,S w→B≤w.heap.size):bB D Tryz.prog S ops h V E k o:=
 rQ [(x,.op y)] hw hk (by simp[hx]) λa w Q hS hi next hnx=>by
  obtain⟨u1,u2,eu,CJ,Bn,Bo⟩:=hi (x,.op y) (by simp);dsimp only at eu;have hrun:∀ev:Operand→Value,ev x=.agg #[str y.name,.bool y.sig.iter,u1,str y.sig.res,u2]→(execOp ev o).run Tryz.prog w=.ok (.value (.slice (some ⟨w.heap.size,0,none⟩) 1 1)) (w.alloc (.cells #[str y.name,.bool y.sig.iter,u1,str y.sig.res,u2] T)):=λev h1=>by
   unfold execOp;obtain⟨p,c,rfl,_⟩:=Bn.shape;obtain⟨q,d,rfl,_⟩:=Bo.shape;rcases hT with⟨rfl,rfl⟩|⟨rfl,rfl⟩<;>simp[ho,h1,go_sem]
  unfold Oper.wp;rw[hrun _ eu];exact hnx _ _ (λw' hb=>(EV (D:=D) (l:=[y]) (cs:=[str y.name,.bool y.sig.iter,u1,str y.sig.res,u2]) w (hB w hS) (n:=1) rfl (by unfold maxLen;omega) ⟨_,_,_,rfl,CJ,Bn,Bo,rfl⟩).below hb zr) ((zb w).alloc zr _)
end
def KM (ops:Array Oper):Bool:=ops.toList.all λo=>match o.op with|.defer _=>false|_=>true
theorem M8 {ops:Array Oper} (h:KM ops=true) {i:Nat} {o:Oper} (ho:ops[i]? =some o) (c:Call):o.op≠ .defer c:=by
 unfold KM at h
 rw[List.all_eq_true] at h
 have:=h o (List.mem_of_getElem? (by rw[Array.getElem?_toList];exact ho))
 intro e
 rw[e] at this
 cases this
theorem qA {P:Program} {Q:Exit→Act→World→Prop} {l n:Nat} {o:Oper} (hnd:∀c,o.op≠ .defer c) {a:Act} {w:World} {K:Act→World→Prop} (h:o.wp P a w K Q):o.wpIn (Fence.wide.inRound l) n P a w K Q:=by
 refine⟨λ_ _=>trivial,?_⟩
 rw[show(Fence.wide.inRound l).round=some l from rfl,Oper.semAt_some l a.eval o hnd]
 unfold Oper.wp at h
 generalize (execOp a.eval o).run P w=r at *
 cases r with
 | ok x w'=>
  cases x<;>simp only[Oper.upon,Oper.uponIn] at h ⊢ <;>
   first
    | exact h
    | exact⟨(λe=>by cases e),CallsIn.inRound l (callsIn_wide.2 h)⟩
    | exact⟨(λe=>by cases e),λc cs _=>let ⟨v,w',r,s⟩:=h c cs;⟨v,w',r,stepsIn_wide.2 s⟩⟩
    | exact h.elim
 | halt x w'=>cases x<;>simp only[Oper.upon,Oper.uponIn] at h ⊢ <;>exact h
theorem oJ {P:Program} {md:Region.Mode} {ops:Array Oper} {Q:Exit→Act→World→Prop} {l n:Nat} (hnd:KM ops=true) (hno:¬LetsOut Q):∀(fuel:Nat) (listed:Array Bool) (a:Act) (w:World),wpAny P md ops Q fuel listed a w→wpAnyIn (Fence.wide.inRound l) n P md ops Q fuel listed a w:=by
 intro fuel
 induction fuel with
 | zero=>exact λlisted a w h=>h
 | succ fuel ih=>
  intro listed a w h;refine⟨h.1,λi hi=>?_⟩;have h2:=h.2 i hi;unfold wpOp at h2;unfold wpOpIn;rcases ho:ops[i]? with _|o
  · simp only[ho] at h2 ⊢
    exact ih _ _ _ h2
  · simp only[ho] at h2 ⊢
    split
    · rename_i hw
      rw[if_pos hw] at h2;rcases h2 with h2|h2
      · exact qA (M8 hnd ho) (Oper.wp_mono (λa w=>ih _ _ _) h2)
      · exact(hno h2.2).elim
    · rename_i hw
      rw[if_neg hw] at h2;exact⟨λ_ _=>trivial,ih _ _ _ h2⟩
section
variable {P:Program} {md:Region.Mode} {ops:Array Oper} {Q:Exit→Act→World→Prop} {S S2 S3:World→Prop} {A:Nat→Value→World→Prop} {a0:Act} {Ah:Value→World→Prop} {v1:Value}
theorem rM {l n id:Nat} {w:World} {oa om os:Oper} {da dm:Nat} (h:Nat) (hnd:KM ops=true) (hno:¬LetsOut Q) (hm:P.follows .mixedOrders=true) (hf:gq .any ops=true) (hsz:ops.size=h+3) (he:jL .any ops h=true) (hl0:kY .any ops h h=true) (hl1:kY .any ops h (h+1)=true) (hd:eo ops a0.tmps.size=true) (ha:ops[h]? =some oa) (hb:ops[h+1]? =some om) (hc:ops[h+2]? =some os) (hda:oa.dst=some da) (Gg:om.dst=some dm)
 (hA:∀j v w w',A j v w→Below w.heap.size w w'→A j v w') (fR:∀w w',S w→Below w.heap.size w w'→S w') (A8:∀v w w',Ah v w→Below w.heap.size w w'→Ah v w') (jO:∀w w',S2 w→Below w.heap.size w w'→S2 w') (hS:S w.drew)
 (hstep:eP P .any ops Q S A a0 0 (ops.toList.take h))
 (nD:∀a w,S w→(∀j oj d,j<h→ops[j]? =some oj→oj.dst=some d→A j (a.eval (.tmp d)) w)→(∀s,Out ops s→a.eval (.tmp s)=a0.eval (.tmp s))→∀next:Act→World→Prop,(∀v w',Ah v w'→S2 w'→next (a.put oa.dst v) w')→oa.wp P a w next Q)
 (hmid:∀a w,(∀s,Out ops s→a.eval (.tmp s)=a0.eval (.tmp s))→∀next:Act→World→Prop,next (a.put om.dst v1) w→om.wp P a w next Q)
 (nG:∀a w,S2 w→Ah (a.eval (.tmp da)) w→a.eval (.tmp dm)=v1→(∀s,Out ops s→a.eval (.tmp s)=a0.eval (.tmp s))→∀next:Act→World→Prop,(∀v w',S3 w'→next (a.put os.dst v) w')→os.wp P a w next Q)
 (hend:∀a w,a.defers=a0.defers→a.tmps.size=a0.tmps.size→(∀s,Out ops s→a.tmps.getD s undef=a0.tmps.getD s undef)→S3 w→Q .normal a w):
 (Code.region id ops true).wpIn (Fence.wide.inRound l) n P Q a0 w:=by
 have hF:∀i,i<ops.size→(Array.replicate ops.size false).getD i true=false:=λi hi=>by simp[Array.getD_eq_getD_getElem?,hi]
 refine wpIn_region_any hm (oJ hnd hno _ _ _ _ (tB (v1:=v1) hf hsz he hl0 hl1 hd hA fR A8 jO (l6 hstep) (λo ho=>?_) (λo ho=>?_) (λo oh d o1 d1 ho JD hdd wg DI=>?_) ⟨oa,da,om,dm,ha,hda,hb,Gg⟩ hend ops.size _ a0 _ ?_ (λj o e hj hl=>?_) (.head ⟨by simp,rfl,rfl,λ_ _=>rfl,hS,λj o d hj js hl=>?_⟩ (hF h (by omega)) (hF (h+2) (by omega)))))
 · rw[ha] at ho;cases ho;exact nD
 · rw[hb] at ho;cases ho;exact hmid
 · rw[hc] at ho;cases ho
   rw[ha] at JD;cases JD;rw[hb] at wg;cases wg;rw[hda] at hdd;cases hdd;rw[Gg] at DI;cases DI;exact nG
 · simp
 · exfalso
   have hj2:=(Array.getElem?_eq_some_iff.1 hj).1;simp[Array.getD_eq_getD_getElem?,hj2] at hl
 · exfalso
   have hj2:=(Array.getElem?_eq_some_iff.1 hj).1;simp[Array.getD_eq_getD_getElem?,hj2] at hl
end
theorem jX {D : Nat → Prop} {P : Program} {ops : Array Oper} {a0 : Act} {Q : Exit → Act → World → Prop} {l n id : Nat} {w : World} {oa om os : Oper} {da dm O f : Nat} (h : Nat) (E : List (Nat × VS)) (V : List VS) (S : World → Prop) (Ah : Value → World → Prop) (S2 S3 : World → Prop)
 (hnd:KM ops=true) (hno:¬LetsOut Q) (hok:zX P ops h a0.tmps.size=true) (ha:ops[h]? =some oa) (hb:ops[h+1]? =some om) (hc:ops[h+2]? =some os) (hda:oa.dst=some da) (Gg:om.dst=some dm) (hds:os.dst=none) (ht:CZ P ops a0 om os da dm O f)
 (fR:∀w w',S w→Below w.heap.size w w'→S w') (A8:∀v w w',Ah v w→Below w.heap.size w w'→Ah v w') (jO:∀w w',S2 w→Below w.heap.size w w'→S2 w') (hS:S w.drew) (hE:jG D w.drew a0 E)
 (hst:dJ D P S ops (h+3) V E 0 (ops.toList.take h))
 (nD:∀a w,S w→(∀(j:Nat) (s:VS) (d:Nat),j<h→V[j]? =some s→(ops[j]?).bind (·.dst)=some d→s.holds D w (a.eval (.tmp d)))→∀next:Act→World→Prop,(∀v w',Ah v w'→S2 w'→next (a.put oa.dst v) w')→oa.wp P a w next Q)
 (hsh:∀v w,Ah v w→∃p n c,v=.slice p n c) (gN:∀w,S2 w→∃u,w.cell? ⟨O,f,none⟩=some u∧u.oneCell'=true∧w.frozen? ⟨O,f,none⟩=false)
 (nG:∀v w,Ah v w→S2 w→S3 (w.setCell ⟨O,f,none⟩ v))
 (hend:∀a w,S3 w→Q .normal (bD a (ops.toList.take (h+2)) a0) w):
 (Code.region id ops true).wpIn (Fence.wide.inRound l) n P Q a0 w:=by
 unfold zX at hok
 simp only[Bool.and_eq_true,decide_eq_true_eq] at hok
 obtain⟨k1,k2,k3,k4,k5,k6,k7⟩:=hok
 have hgd:∀o∈ops.toList,o.guard=none:=by
  unfold eo at k7;simp only[Bool.and_eq_true,List.all_eq_true,decide_eq_true_eq] at k7;exact λo ho=>(k7.2 o ho).1
 have steps:∀(l:List Oper) (k:Nat),(∀o∈l,o.guard=none)→dJ D P S ops (h+3) V E k l→eP P .any ops Q (AK D S E a0) (mB D V) a0 k l:=by
  intro l
  induction l with
  | nil=>exact λ_ _ _=>trivial
  | cons o l ih=>exact λk hg hs=>⟨uU (hg o (by simp)) hs.1 (Nat.le_of_eq k3),ih (k+1) (λx hx=>hg x (by simp[hx])) hs.2⟩
 refine rM (S:=AK D S E a0) (A:=mB D V) (S2:=S2) (S3:=S3) (Ah:=Ah) h hnd hno k1 k2 k3 k4 k5 k6 k7 ha hb hc hda Gg (λj v w1 w2 h hb s hs=>(h s hs).below hb) (λw1 w2 h hb=>⟨fR _ _ h.1 hb,λp hp=>(h.2 p hp).below hb⟩) A8 jO ⟨hS,hE.all⟩
  (steps _ 0 (λo ho=>hgd o (List.mem_of_mem_take ho)) hst) ?_ (λa w hout next hn=>ht.mid a w hout Q next hn) ?_ ?_
 · intro a w hS hA hout next hn
   refine nD a w hS.1 (λj s d hj hs hd=>?_) next hn
   rw[Option.bind_eq_some_iff] at hd;obtain⟨oj,jt,rG⟩:=hd;exact hA j oj d hj jt rG s hs
 · intro a w hS hv hm hout next hn
   obtain⟨p,n,c,e⟩:=hsh _ _ hv;obtain⟨u,Bn,Bo,JH⟩:=gN w hS;have:=nG _ _ hv hS;rw[e] at this;exact ht.SJ a w p n c u e hm Bn Bo JH Q next (hn _ _ this)
 · intro a w hdf hsz hout hS
   have hp := dO hdf hsz hout;have hl : ops.toList = ops.toList.take (h + 2) ++ [os] := by
    have:ops.toList.length=h+3:=by simpa using k3
    apply List.ext_getElem?;intro j
    by_cases hj:j<h+2
    · rw[List.getElem?_append_left (by simp;omega),List.getElem?_take_of_lt hj]
    · rw[List.getElem?_append_right (by simp;omega),List.length_take,this]
      by_cases hj2:j=h+2
      · subst hj2
        rw[Array.getElem?_toList,hc];simp
      · rw[List.getElem?_eq_none (by omega),List.getElem?_eq_none (by simp;omega)]
   have e:∀(l:List Oper) (b:Act),bD a (l++[os]) b=bD a l b:=by
    intro l
    induction l with
    | nil=>intro b;show(b.put os.dst _)=b;rw[hds];rfl
    | cons o l ih=>intro b;exact ih _
   rw[hp,hl,e];exact hend a w hS
def gp (W W':World):Prop:=∀(b:Nat) (cs:Array Value) (fl:Nat×Nat),W.heap[b]? =some (.cells cs 9 fl)→W'.heap[b]? =some (.cells cs 9 fl)
theorem gp.refl (W:World):gp W W:=λ_ _ _ h=>h
theorem gp.trans {a b c:World} (h:gp a b) (h':gp b c):gp a c:=λx cs fl e=>h' x cs fl (h x cs fl e)
theorem gp.ai {a b:World} (h:Below a.heap.size a b):gp a b:=λx _ _ e=>(h.block x (Array.getElem?_eq_some_iff.1 e).1).trans e
theorem gp.set {a b:World} (h:gp a b) {p:Addr} {cs:Array Value} {t:TypeId} {fl:Nat×Nat} (hp:b.heap[p.block]? =some (.cells cs t fl)) (ht:t≠9) (u:Value):gp a (b.setCell p u):=λx ds gl e=>by
 have e2:=h x ds gl e
 rw[heap_setCell_other b p x u λe3=>?_]
 · exact e2
 · subst e3
   rw[hp] at e2;injection e2 with e2;injection e2 with _ e4 _;exact ht e4
theorem gp.putObj {W:World} {l:Nat} {o:Obj} (h:W.heap[l]? =some o) (ho:o.isCells=false) (o':Obj):gp W (W.putObj l o'):=λb cs fl e=>by
 refine(World.putObj_heap_other λe2=>?_).trans e
 subst e2
 rw[h] at e
 cases e
 cases ho
def mY (W W':World):Prop:=∀(b:Nat) (x:Obj),W.heap[b]? =some x→x.isCells=false→W'.heap[b]? =some x
theorem mY.trans {a b c:World} (h:mY a b) (h':mY b c):mY a c:=λx o e ho=>h' x o (h x o e ho) ho
theorem mY.ai {a b:World} (h:Below a.heap.size a b):mY a b:=λx _ e _=>(h.block x (Array.getElem?_eq_some_iff.1 e).1).trans e
theorem mY.set {a b:World} (h:mY a b) {p:Addr} {cs:Array Value} {t:TypeId} {fl:Nat×Nat} (hp:b.heap[p.block]? =some (.cells cs t fl)) (u:Value):mY a (b.setCell p u):=λx o e ho=>by
 have e2:=h x o e ho
 rw[heap_setCell_other b p x u λe3=>?_]
 · exact e2
 · subst e3
   rw[hp] at e2;cases e2;cases ho
structure iT (W W':World):Prop where
 s:gp W W'
 n:mY W W'
 z:W.heap.size≤W'.heap.size
theorem iT.trans {a b c:World} (h:iT a b) (h':iT b c):iT a c:=⟨h.s.trans h'.s,h.n.trans h'.n,Nat.le_trans h.z h'.z⟩
theorem iT.ai {a b:World} (h:Below a.heap.size a b):iT a b:=⟨gp.ai h,mY.ai h,h.size⟩
theorem iT.set {a b:World} (h:iT a b) {p:Addr} {cs:Array Value} {t:TypeId} {fl:Nat×Nat} (hp:b.heap[p.block]? =some (.cells cs t fl)) (ht:t≠9) (u:Value):iT a (b.setCell p u):=⟨h.s.set hp ht u,h.n.set hp u,by have:=h.z;simp[World.setCell];omega⟩
theorem iT.from {a b:World} (h:iT a b) (B:Nat):KeepsFrom B a b:=⟨h.z,λk o _ e ho=>h.n k o e ho⟩
def Ap (B:Nat) (v u:Value) (b:Nat):Prop:=B≤b∧v.ownBlock≠some b∧u.ownBlock≠some b
def cL (T T':TypeId) (B:Nat) (w:World) (v u:Value) (L M:List dw):Prop:=∃cs ds,w.ownsRow B T 5 v L.length cs∧w.ownsRow B T' 5 u M.length ds∧bN (Ap B v u) w cs L∧bN (Ap B v u) w ds M
theorem cL.swap {T T':TypeId} {B:Nat} {w:World} {v u:Value} {L M:List dw} (h:cL T T' B w v u L M):cL T' T B w u v M L:=by
 obtain⟨cs,ds,h1,h2,h3,h4⟩:=h
 exact⟨ds,cs,h2,h1,h4.mono λb hb=>⟨hb.1,hb.2.2,hb.2.1⟩,h3.mono λb hb=>⟨hb.1,hb.2.2,hb.2.1⟩⟩
theorem cL.nil (T T':TypeId) (B:Nat) (w:World):cL T T' B w (.slice none 0 0) (.slice none 0 0) [] []:=⟨[],[],World.ownsRow_nil _ _ _ _,World.ownsRow_nil _ _ _ _,rfl,rfl⟩
theorem cL.below {T T':TypeId} {B K:Nat} {w w':World} {v u:Value} {L M:List dw} (h:cL T T' B w v u L M) (hb:Below K w w') (hK:w.heap.size≤K):cL T T' B w' v u L M:=by
 obtain⟨cs,ds,h1,h2,h3,h4⟩:=h
 exact⟨cs,ds,aT h1 hb hK,aT h2 hb hK,h3.below hb hK,h4.below hb hK⟩
theorem cL.set {T T':TypeId} {B:Nat} {w:World} {v u:Value} {L M:List dw} (h:cL T T' B w v u L M) {a:Addr} (ha:a.block<B) (x:Value):cL T T' B (w.setCell a x) v u L M:=by
 obtain⟨cs,ds,h1,h2,h3,h4⟩:=h
 have k:∀b,B≤b→(w.setCell a x).heap[b]? =w.heap[b]? :=λb hb=>heap_setCell_other w a b x λe=>by omega
 exact⟨cs,ds,aG h1 λb hb=>k b (h1.lt b hb).1,aG h2 λb hb=>k b (h2.lt b hb).1,h3.agree λb hb _=>k b hb.1,h4.agree λb hb _=>k b hb.1⟩
theorem cL.shape {T T':TypeId} {B:Nat} {w:World} {v u:Value} {L M:List dw} (h:cL T T' B w v u L M):∃p c q d,v=.slice p L.length c∧u=.slice q M.length d:=by
 obtain⟨cs,ds,h1,h2,_⟩:=h
 obtain⟨p,c,e⟩:=aJ h1
 obtain⟨q,d,e'⟩:=aJ h2
 exact⟨p,c,q,d,e,e'⟩
theorem cL.Nb {T T':TypeId} {B:Nat} {w:World} {v u:Value} {L M:List dw} (h:cL T T' B w v u L M):dM (λb=>B≤b) w v L∧dM (λb=>B≤b) w u M:=by
 obtain⟨cs,ds,h1,h2,h3,h4⟩:=h
 exact⟨dM.eZ h1 (λb hb=>(h1.lt b hb).1) (h3.mono λb hb=>hb.1),dM.eZ h2 (λb hb=>(h2.lt b hb).1) (h4.mono λb hb=>hb.1)⟩
theorem cL.apart {T T':TypeId} {B:Nat} {w:World} {v u:Value} {L M:List dw} (h:cL T T' B w v u L M) (hB:B≤w.heap.size) {b:Nat} (hb:w.heap.size≤b):Ap B v u b:=by
 obtain⟨cs,ds,h1,h2,_⟩:=h
 exact⟨Nat.le_trans hB hb,λe=>by have:=(h1.lt b e).2;omega,λe=>by have:=(h2.lt b e).2;omega⟩
theorem jy {T T' U:TypeId} (hT:IJ T U) (hne:T≠T') {o:Oper} {a:Act} {w:World} {K:Act→World→Prop} {Q:Exit→Act→World→Prop} (s x:Operand)
 (ho:o.op=.call {callee:=.builtin .append,args:= #[s,x],argTypes:= #[U,U] }) {B B':Nat} {D:Nat→Prop} {v u y:Value} {L M k:List dw}
 (hs:a.eval s=v) (hx:a.eval x=y) (hv:cL T T' B w v u L M) (hy:rj T D B' w y k) (hk:0<k.length) (hD:∀b,D b→Ap B v u b) (hm:L.length+k.length≤100000) (hB:B≤w.heap.size) (L2:T≠9)
 (h:∀v' w',cL T T' B w' v' u (L++k) M→Below B w w'→gp w w'→mY w w'→K (a.put o.dst v') w'):Oper.wp Tryz.prog o a w K Q:=by
 obtain⟨i0,kN,hz0,hz1,hz2⟩:=aV hT.1
 obtain⟨cs,es,hcs,PR,hC,hE⟩:=hv
 obtain⟨ds,hy1,hy2⟩:=hy
 rcases hy1.2 with⟨_,h0⟩|⟨g,cap,cur,rfl,_⟩
 · omega
 · have hmx:L.length+k.length≤maxLen:=by unfold maxLen;omega
   obtain⟨v',w',hr,h2,h3,h4⟩:=eG (P:=Tryz.prog) w B U o.type T i0 _ 5 88 hT.2 kN hz0 hz1 hz2 rfl (by decide) v L.length cs hcs ⟨g,0,none⟩ k.length cap ds hy1.1 (λj u hj=>hy1.cells (g:=g) rfl j u hj) hy2.one_cell hk hmx (by omega) hB;unfold Oper.wp execOp;simp only[ho,resolve,invoke,builtin,Sem.run_bind,Sem.run_pure,Result.andThen_ok,List.map_toArray,List.map_cons,List.map_nil,hs,hx,hr];have hS:gp w w':=λb ds fl e=>by
    refine(h3.block b (Array.getElem?_eq_some_iff.1 e).1 λe2=>?_).trans e;rcases hcs.2 with⟨rfl,_⟩|⟨g,cap,cur,rfl,_,hg,_⟩
    · cases e2
    · simp only[Value.ownBlock,Option.some.injEq] at e2
      subst e2;rw[hg] at e;injection e with e;injection e with _ e4 _;exact L2 e4
   have hN:mY w w':=λb x e hx=>by
    refine(h3.block b (Array.getElem?_eq_some_iff.1 e).1 λe2=>?_).trans e;rcases hcs.2 with⟨rfl,_⟩|⟨g,cap,cur,rfl,_,hg,_⟩
    · cases e2
    · simp only[Value.ownBlock,Option.some.injEq] at e2
      subst e2;rw[hg] at e;cases e;cases hx
   refine h v' w' ?_ (aa ((zb w).grown h3 hB (λb e=>(hcs.lt b e).1)) zr) hS hN;have key:∀{l:List dw} {cs:List Value},bN (Ap B v u) w cs l→bN (Ap B v' u) w' cs l:=by
    intro l cs hc;refine(hc.fresh.agree (w':=w') λb hb hlt=>h3.block b hlt λe=>hb.1.2.1 e.symm).mono λb hb=>⟨hb.1.1,λe=>?_,hb.1.2.2⟩
    rcases h4 with ho|ho
    · exact hb.1.2.1 (by rw[←ho];exact e)
    · have h2:=hb.2
      rw[ho] at e;injection e with e;omega
   exact⟨cs++ds,es,by rw[List.length_append];exact h2,aG PR λb hb=>h3.block b (aW PR hb) λe=>GS hcs PR hne b e.symm hb,bN.append (key (hy2.mono hD)) (key hC),key hE⟩
theorem SS.kE {D:Nat→Prop} {w:World} {v:Value} {ss:List (List UInt8)} (h:SS D w v ss):SS (λb=>D b∧∃x:Obj,w.heap[b]? =some x∧x.isCells=true) w v ss:=by
 obtain⟨p,c,h1,h2,h3,hl,h4⟩:=h
 refine⟨p,c,h1,h2,h3,hl,?_⟩
 by_cases he:ss=[]
 · exact .inl he
 · rcases h4 with h4|⟨b,o,e1,h5,h6,h7⟩
   · exact .inl h4
   · exact .inr ⟨b,o,e1,⟨h5,cells_of_cell (h7 0 (List.length_pos_iff.2 he))⟩,h6,h7⟩
theorem bN.kE {D:Nat→Prop} {w:World}:∀{l:List dw} {cs:List Value},bN D w cs l→bN (λb=>D b∧∃x:Obj,w.heap[b]? =some x∧x.isCells=true) w cs l
 | [],_,h=>h
 | _::_,_,⟨a,s,r,h1,h0,h2,h3,h4⟩=>⟨a,s,r,h1,h0,h2.kE,h3.kE,bN.kE h4⟩
theorem cL.grown {T T':TypeId} {B:Nat} {w w':World} {v u:Value} {L M:List dw} {row:Option Nat} (h:cL T T' B w v u L M) (hg:w.grownBy w' row) (hr:∀r,row=some r→∃o:Obj,w.heap[r]? =some o∧o.isCells=false):cL T T' B w' v u L M:=by
 obtain⟨cs,ds,h1,h2,h3,h4⟩:=h
 have hne:∀{b:Nat},(∃x:Obj,w.heap[b]? =some x∧x.isCells=true)→some b≠row:=λ⟨x,hx,hc⟩ e=>by
  obtain⟨o,ho,hn⟩:=hr _ e.symm;rw[hx] at ho;cases ho;rw[hc] at hn;cases hn
 have hrow:∀{T:TypeId} {v:Value} {n:Nat} {cs:List Value},w.ownsRow B T 5 v n cs→v.ownBlock=none∨v.ownBlock≠row:=λh=>by
  rcases h.2 with⟨rfl,_⟩|⟨g,cap,cur,rfl,_,tZ,_⟩
  · exact .inl rfl
  · exact .inr (hne ⟨_,tZ,rfl⟩)
 exact⟨cs,ds,h1.kept hg (hrow h1),h2.kept hg (hrow h2),(h3.kE.agree λb hb hlt=>hg.block b hlt (hne hb.2)).mono λb hb=>hb.1,(h4.kE.agree λb hb hlt=>hg.block b hlt (hne hb.2)).mono λb hb=>hb.1⟩
def ia (w:World) (b:Nat) (a0 a1 a2 a3 a4:Value):World:=((((w.setCell ⟨b,0,none⟩ a0).setCell ⟨b,1,none⟩ a1).setCell ⟨b,2,none⟩ a2).setCell ⟨b,3,none⟩ a3).setCell ⟨b,4,none⟩ a4
theorem Below.ia {B:Nat} {a w:World} (h:Below B a w) {b:Nat} (hb:B≤b) (a0 a1 a2 a3 a4:Value):Below B a (ia w b a0 a1 a2 a3 a4):=
 ((((h.setCell (p:=⟨b,0,none⟩) hb _).setCell (p:=⟨b,1,none⟩) hb _).setCell (p:=⟨b,2,none⟩) hb _).setCell (p:=⟨b,3,none⟩) hb _).setCell (p:=⟨b,4,none⟩) hb _
theorem GV {w:World} {b:Nat} {a0 a1 a2 a3 a4:Value} {t:TypeId} (h:w.heap[b]? =some (.cells #[a0,a1,a2,a3,a4] t (0,0))) (u:Value):(w.setCell ⟨b,3,none⟩ u).heap[b]? =some (.cells #[a0,a1,a2,u,a4] t (0,0)):=heap_setCell_same w b 3 _ t u h
theorem GW {w:World} {b:Nat} {a0 a1 a2 a3 a4:Value} {t:TypeId} (h:w.heap[b]? =some (.cells #[a0,a1,a2,a3,a4] t (0,0))) (u:Value):(w.setCell ⟨b,4,none⟩ u).heap[b]? =some (.cells #[a0,a1,a2,a3,u] t (0,0)):=heap_setCell_same w b 4 _ t u h
section
variable {P:Program} {md:Region.Mode} {ops:Array Oper} {Q:Exit→Act→World→Prop} {S S2 S3:World→Prop} {A:Nat→Value→World→Prop} {a0:Act} {Ah:Value→World→Prop} {F:Nat→Option Value} {M:Nat→Bool}
def tS (md:Region.Mode) (ops:Array Oper) (M:Nat→Bool) (h:Nat):Bool:=
 (List.range h).all λj=>M j||(List.range (h+1)).any λk=>decide (j<k)&&(!M k&&((ops[k]?).map λo=>o.after.any λe=>Region.binds md e&&decide (e.on=j)).getD false)
theorem pQ {h:Nat} (hb:tS md ops M h=true) {listed:Array Bool} (hc:∀j o e,ops[j]? =some o→listed.getD j false=true→e∈o.after→Region.binds md e=true→listed.getD e.on false=true)
 (hr:∀o e,ops[h]? =some o→e∈o.after→Region.binds md e=true→listed.getD e.on false=true):∀j,j<h→M j=false→listed.getD j false=true:=by
 unfold tS at hb
 rw[List.all_eq_true] at hb
 have key:∀n j,j<h→M j=false→h - j≤n→listed.getD j false=true:=by
  intro n
  induction n with
  | zero=>intro j hj _ hn;omega
  | succ n ih=>
   intro j hj hm hn;have:=hb j (List.mem_range.2 hj);rw[hm,Bool.false_or,List.any_eq_true] at this;obtain⟨k,hk,hkk⟩:=this;rw[Bool.and_eq_true,decide_eq_true_eq,Bool.and_eq_true,Bool.not_eq_true'] at hkk;have hk':=List.mem_range.1 hk;rcases hok:ops[k]? with _|o
   · rw[hok] at hkk;simp at hkk
   · rw[hok] at hkk
     simp only[Option.map_some,Option.getD_some,Array.any_eq_true,Bool.and_eq_true,decide_eq_true_eq] at hkk;obtain⟨hjk,TS,x,hx,gU,hon⟩:=hkk
     by_cases hkh:k=h
     · subst hkh
       rw[←hon];exact hr _ _ hok (Array.getElem_mem hx) gU
     · have hl:=ih k (by omega) TS (by omega)
       rw[←hon];exact hc k o _ hok hl (Array.getElem_mem hx) gU
 exact λj hj hm=>key (h - j) j hj hm zr
def KV (h:Nat) (Ah:Value→World→Prop) (F:Nat→Option Value):Nat→Value→World→Prop:=λj v w=>(j=h→Ah v w)∧∀x,F j=some x→v=x
inductive FG (md:Region.Mode) (ops:Array Oper) (h L:Nat) (S S2 S3:World→Prop) (A:Nat→Value→World→Prop) (Ah:Value→World→Prop) (F:Nat→Option Value) (a0:Act) (listed:Array Bool) (a:Act) (w:World):Prop
 | head (hi:jA ops S (λj v w=>(j<h→A j v w)∧∀x,F j=some x→v=x) a0 listed a w) (h1:listed.getD h true=false) (h2:listed.getD L true=false)
 | tail (hi:jA ops S2 (KV h Ah F) a0 listed a w) (h1:listed.getD h false=true) (h2:listed.getD L true=false)
 | done (hi:jA ops S3 (λ_ _ _=>True) a0 listed a w) (h1:∀j,j<ops.size→listed.getD j false=true)
theorem zP {h L:Nat} (hL:h<L) (hf:gq md ops=true) (hsz:ops.size=L+1) (RH:M h=false) (RG:M L=false) (hM:∀j,h<j→j<L→M j=true) (he:tS md ops M h=true) (R8:jL md ops L=true) (hd:eo ops a0.tmps.size=true)
 (hA:∀j v w w',A j v w→Below w.heap.size w w'→A j v w') (TA:∀j v w,j<h→A j v w→∀x,F j=some x→v=x) (TQ:∀j v w,M j=true→(∀x,F j=some x→v=x)→A j v w) (TK:F h=none) (fR:∀w w',S w→Below w.heap.size w w'→S w') (A8:∀v w w',Ah v w→Below w.heap.size w w'→Ah v w') (jO:∀w w',S2 w→Below w.heap.size w w'→S2 w')
 (hstep:∀i o,i<h→M i=false→ops[i]? =some o→mZ P md ops Q S A a0 i o)
 (nD:∀o,ops[h]? =some o→∀a w,S w→(∀j oj d,j<h→M j=false→ops[j]? =some oj→oj.dst=some d→A j (a.eval (.tmp d)) w)→(∀s,Out ops s→a.eval (.tmp s)=a0.eval (.tmp s))→∀next:Act→World→Prop,(∀v w',Ah v w'→S2 w'→next (a.put o.dst v) w')→o.wp P a w next Q)
 (hmid:∀j o,M j=true→ops[j]? =some o→∀a w,(∀e∈o.after,Region.binds md e=true→∀ok d,ops[e.on]? =some ok→ok.dst=some d→∀x,F e.on=some x→a.eval (.tmp d)=x)→(∀s,Out ops s→a.eval (.tmp s)=a0.eval (.tmp s))→∀next:Act→World→Prop,(∀v,(∀x,F j=some x→v=x)→next (a.put o.dst v) w)→o.wp P a w next Q)
 (nG:∀o,ops[L]? =some o→∀a w,S2 w→(∀oh d,ops[h]? =some oh→oh.dst=some d→Ah (a.eval (.tmp d)) w)→(∀j oj d x,ops[j]? =some oj→oj.dst=some d→F j=some x→a.eval (.tmp d)=x)→(∀s,Out ops s→a.eval (.tmp s)=a0.eval (.tmp s))→∀next:Act→World→Prop,(∀v w',S3 w'→next (a.put o.dst v) w')→o.wp P a w next Q)
 (TJ:F L=none)
 (hend:∀a w,a.defers=a0.defers→a.tmps.size=a0.tmps.size→(∀s,Out ops s→a.tmps.getD s undef=a0.tmps.getD s undef)→S3 w→Q .normal a w):
 ∀(fuel:Nat) (listed:Array Bool) (a:Act) (w:World),listed.toList.count false≤fuel→(∀j o e,ops[j]? =some o→listed.getD j false=true→e∈o.after→Region.binds md e=true→listed.getD e.on false=true)→FG md ops h L S S2 S3 A Ah F a0 listed a w→wpAny P md ops Q fuel listed a w:=by
 have hsize:∀{listed:Array Bool} {a:Act} {w:World},FG md ops h L S S2 S3 A Ah F a0 listed a w→listed.size=ops.size:=λhI=>by
  cases hI with
  | head hi _ _=>exact hi.size
  | tail hi _ _=>exact hi.size
  | done hi _=>exact hi.size
 have fin:∀(listed:Array Bool) (a:Act) (w:World),FG md ops h L S S2 S3 A Ah F a0 listed a w→Region.ready md ops listed=[]→Q .normal a w:=by
  intro listed a w hI hr;have hall:=eM hf (hsize hI) hr;cases hI with
  | head hi _ h2=>exact(eF h2 (hall L (by omega))).elim
  | tail hi _ h2=>exact(eF h2 (hall L (by omega))).elim
  | done hi _=>exact hend a w hi.defers hi.tmps hi.out hi.s
 have Js:∀{i:Nat} {o:Oper} {d:Nat},ops[i]? =some o→o.dst=some d→d<a0.tmps.size:=λ{i o d} ho rG=>by
  have hd2:=hd;unfold eo at hd2;rw[Bool.and_eq_true,List.all_eq_true] at hd2;have:=hd2.2 o (List.mem_of_getElem? (by rw[Array.getElem?_toList];exact ho));rw[rG] at this;simp at this;exact this.2
 intro fuel
 induction fuel with
 | zero=>
  intro listed a w hc _ hI;have hr:Region.ready md ops listed=[]:=by
   rcases hq:Region.ready md ops listed with _|⟨i,l⟩
   · rfl
   · exfalso
     have hm:i∈Region.ready md ops listed:=by rw[hq];exact List.mem_cons_self ..
     have:=count_set (mem_ready.1 hm).1;omega
  exact⟨hr,fin listed a w hI hr⟩
 | succ fuel ih=>
  intro listed a w hc hcl hI;refine⟨fin listed a w hI,λi him=>?_⟩;obtain⟨hl,o,ho,bE⟩:=mem_ready.1 him;have hg:o.guard=none:=by
   have hd2:=hd;unfold eo at hd2;rw[Bool.and_eq_true,List.all_eq_true] at hd2;have:=hd2.2 o (List.mem_of_getElem? (by rw[Array.getElem?_toList];exact ho));rw[Bool.and_eq_true,decide_eq_true_eq] at this;exact this.1
  have hin:i<ops.size:=(Array.getElem?_eq_some_iff.1 ho).1;have hls:=hsize hI;have dL:∀j,i≠j→(listed.setIfInBounds i true).getD j true=listed.getD j true:=λj hij=>getD_set_ne true hij
  have wj:(listed.setIfInBounds i true).getD i false=true:=by
   simp[Array.getD_eq_getD_getElem?,hls,hin]
  unfold wpOp;simp only[ho];rw[if_pos (by simp[Region.wanted,hg])]
  left
  have hcs:=count_set hl;have next:∀v w',FG md ops h L S S2 S3 A Ah F a0 (listed.setIfInBounds i true) (a.put o.dst v) w'→wpAny P md ops Q fuel (listed.setIfInBounds i true) (a.put o.dst v) w':=by
   intro v w' OZ;refine ih _ _ _ (by omega) (λj oj e hj hlj hee fS=>?_) OZ
   by_cases hij:i=j
   · subst hij
     rw[ho] at hj;cases hj;exact getD_set_true (bE e hee fS)
   · rw[getD_set_ne false hij] at hlj
     exact getD_set_true (hcl j oj e hj hlj hee fS)
  have fwd:∀e∈o.after,Region.binds md e=true→e.on<i:=λe hee fS=>by
   have xT:=hf;unfold gq at xT;rw[List.all_eq_true] at xT;have:=xT i (List.mem_range.2 hin);rw[ho] at this;simp only[Option.map_some,Option.getD_some,Array.all_eq_true_iff_forall_mem] at this;have:=this e hee
   simpa[fS] using this
  have ready:∀{n},i=n→∀o' e,ops[n]? =some o'→e∈o'.after→Region.binds md e=true→listed.getD e.on false=true:=λ{n} hn o' e ho' hee fS=>by
   subst hn;rw[ho] at ho';cases ho';exact bE e hee fS
  cases hI with
  | done _ h1=>exact(eF hl (h1 i hin)).elim
  | head hi h1 h2 =>
   have Nn:∀j v w w',((j<h→A j v w)∧∀x,F j=some x→v=x)→Below w.heap.size w w'→((j<h→A j v w')∧∀x,F j=some x→v=x):=λj v w w' hv hb=>⟨λhj=>hA j v w w' (hv.1 hj) hb,hv.2⟩
   have PW:i≠h→M i=true→i≠L:=λ_ hm e=>by rw[e,RG] at hm;cases hm
   by_cases hm:M i=true
   · have hih:i≠h:=λe=>by rw[e,RH] at hm;cases hm
     refine hmid i o hm ho a w (λe hee fS ok d hok iZ x hx=>(hi.at_ e.on ok d hok iZ (bE e hee fS)).2 x hx) (λs hs=>hi.out s hs) _ λv hv=>next v w (.head (hi.step hd Nn fR ho ⟨λhj=>TQ i v w hm hv,hv⟩ (zb _)) ?_ ?_)
     · rw[dL h hih];exact h1
     · rw[dL L (PW hih hm)];exact h2
   replace hm:M i=false:=by simpa using hm
   rcases Nat.lt_trichotomy i h with hih|hih|hih
   · refine hstep i o hih hm ho a w hi.s (λe hee fS ok d hok iZ=>(hi.at_ e.on ok d hok iZ (bE e hee fS)).1 (by have:=fwd e hee fS;omega)) (λs hs=>hi.out s hs) _ λv w' hv Ab=>next v w' (.head (hi.step hd Nn fR ho ⟨λ_=>hv,TA i v w' hih hv⟩ Ab) ?_ ?_)
     · rw[dL h (by omega)];exact h1
     · rw[dL L (by omega)];exact h2
   · subst hih
     have hall:=pQ he hcl (ready rfl);refine nD o ho a w hi.s (λj oj d hj P6 jt jR=>(hi.at_ j oj d jt jR (hall j hj P6)).1 hj) (λs hs=>hi.out s hs) _ λv w' hv hs2=>next v w' (.tail ?_ wj ?_)
     · have hi':jA ops (λ_=>True) (λj v _=>∀x,F j=some x→v=x) a0 listed a w:=⟨hi.size,hi.defers,hi.tmps,hi.out,trivial,λj oj d jt jR hlj=>(hi.at_ j oj d jt jR hlj).2⟩
       have hs:=hi'.step hd (λ_ _ _ _ h _=>h) (λ_ _ _ _=>trivial) ho (v:=v) (w':=w) (λx hx=>by rw[TK] at hx;cases hx) (zb _);refine⟨hs.size,hs.defers,hs.tmps,hs.out,hs2,λj oj d jt jR hlj=>⟨λhj=>?_,hs.at_ j oj d jt jR hlj⟩⟩;subst hj;rw[ho] at jt;cases jt;rw[jR,dB]
       · exact hv
       · rw[hi.tmps]
         exact Js ho jR
     · rw[dL L (by omega)];exact h2
   · rcases(show i<L∨i=L by omega) with Mm|rfl
     · rw[hM i hih Mm] at hm;cases hm
     · exact(eF h1 (nk R8 hcl (ready rfl) h hL)).elim
  | tail hi h1 h2 =>
   have hall:=pQ he hcl (λo' e ho' hee fS=>hcl h o' e ho' h1 hee fS)
   by_cases hm:M i=true
   · have hih:i≠h:=λe=>by rw[e,RH] at hm;cases hm
     have Mm:i≠L:=λe=>by rw[e,RG] at hm;cases hm
     refine hmid i o hm ho a w (λe hee fS ok d hok iZ x hx=>(hi.at_ e.on ok d hok iZ (bE e hee fS)).2 x hx) (λs hs=>hi.out s hs) _ λv hv=>next v w (.tail (hi.step hd (λj v w w' hv hb=>⟨λe=>A8 _ _ _ (hv.1 e) hb,hv.2⟩) jO ho ⟨λe=>absurd e hih,hv⟩ (zb _)) ?_ ?_)
     · exact getD_set_true h1
     · rw[dL L Mm];exact h2
   replace hm:M i=false:=by simpa using hm
   rcases Nat.lt_trichotomy i h with hih|hih|hih
   · exact(eF hl (hall i hih hm)).elim
   · subst hih;exact(eF hl h1).elim
   · rcases(show i<L∨i=L by omega) with Mm|rfl
     · rw[hM i hih Mm] at hm;cases hm
     · have Hx:=nk R8 hcl (ready rfl)
       refine nG o ho a w hi.s (λoh d JD hdd=>(hi.at_ h oh d JD hdd h1).1 rfl) (λj oj d x jt jR hx=>?_) (λs hs=>hi.out s hs) _ λv w' sF=>next v w' (.done ?_ λj hj=>?_)
       · have hjl:j<i:=by
          rcases(show j<i∨j=i∨i<j by omega) with hj|rfl|hj
          · exact hj
          · rw[TJ] at hx;cases hx
          · have:=(Array.getElem?_eq_some_iff.1 jt).1;omega
         exact(hi.at_ j oj d jt jR (Hx j hjl)).2 x hx
       · have hi':jA ops (λ_=>True) (λ_ _ _=>True) a0 listed a w:=⟨hi.size,hi.defers,hi.tmps,hi.out,trivial,λ_ _ _ _ _ _=>trivial⟩
         have hs:=hi'.step hd (λ_ _ _ _ _ _=>trivial) (λ_ _ _ _=>trivial) ho (v:=v) (w':=w) trivial (zb _);exact⟨hs.size,hs.defers,hs.tmps,hs.out,sF,λ_ _ _ _ _ _=>trivial⟩
       · by_cases hij:j=i
         · subst hij;exact wj
         · exact getD_set_true (Hx j (by omega))
end
def ye (s:VS):VS:=match s with|.eq x=>.eq x|_=>.prop λ_ _=>True
def I4 (V:List VS) (j:Nat):Option Value:=match V[j]? with|some (.eq x)=>some x|_=>none
theorem I5 {V:List VS} {j:Nat} {x:Value} (h:I4 V j=some x):V[j]? =some (.eq x):=by
 unfold I4 at h
 split at h
 · rename_i y hy;cases h;exact hy
 · cases h
theorem tU {V:List VS} {j:Nat} {x:Value} (h:V[j]? =some (.eq x)):I4 V j=some x:=by unfold I4;rw[h]
theorem tT {D:Nat→Prop} {w w':World} {v:Value} {s:VS} (h:s.holds D w v):(ye s).holds D w' v:=by
 cases s<;>first|exact h|exact λ_ _=>trivial
def CQ (P:Program) (ops:Array Oper) (n:Nat) (V:List VS) (E:List (Nat×VS)) (k:Nat) (o:Oper):Prop:=
 ∃r x u,V[k]? =some (.eq r)∧aL ops n (V.map ye) (E.map λp=>(p.1,ye p.2)) o x=some (.eq u)∧∀(ev:Operand→Value) (w:World),ev x=u→(execOp ev o).run P w=.ok (.value r) w
def IF (P:Program) (ops:Array Oper) (n:Nat) (V:List VS) (E:List (Nat×VS)):List Nat→Prop
 | []=>True
 | j::l=>(∃o,ops[j]? =some o∧CQ P ops n V E j o)∧IF P ops n V E l
theorem An {P:Program} {ops:Array Oper} {n:Nat} {V:List VS} {E:List (Nat×VS)}:∀{l:List Nat},IF P ops n V E l→∀j∈l,∃o,ops[j]? =some o∧CQ P ops n V E j o
 | [],_,j,h=>by cases h
 | k::l,⟨h1,h2⟩,j,h=>by
  rcases List.mem_cons.1 h with rfl|h
  · exact h1
  · exact An h2 j h
def Db (P:Program) (ops:Array Oper) (h L n:Nat) (ms:List Nat):Bool:=
 P.follows .mixedOrders&&(gq .any ops&&(decide (h<L)&&(decide (ops.size=L+1)&&(tS .any ops (λj=>ms.contains j) h&&(jL .any ops L&&(eo ops n&&(!ms.contains h&&(!ms.contains L&&(List.range L).all λj=>decide (j≤h)||ms.contains j))))))))
theorem q8 {D:Nat→Prop} {P:Program} {ops:Array Oper} {a0:Act} {Q:Exit→Act→World→Prop} {id:Nat} {w:World} {oa os:Oper} (h L:Nat) (ms:List Nat) (E:List (Nat×VS)) (V:List VS) (S:World→Prop) (Ah:Value→World→Prop) (S2 S3:World→Prop)
 (hok:Db P ops h L a0.tmps.size ms=true) (Uj:I4 V h=none) (Ui:I4 V L=none) (ha:ops[h]? =some oa) (hc:ops[L]? =some os)
 (fR:∀w w',S w→Below w.heap.size w w'→S w') (A8:∀v w w',Ah v w→Below w.heap.size w w'→Ah v w') (jO:∀w w',S2 w→Below w.heap.size w w'→S2 w') (hS:S w.drew) (hE:jG D w.drew a0 E)
 (hst:dJ D P S ops (L+1) V E 0 (ops.toList.take h)) (hmid:IF P ops (L+1) V E ms)
 (nD:∀a w,S w→(∀(j:Nat) (s:VS) (d:Nat),j<h→ms.contains j=false→V[j]? =some s→(ops[j]?).bind (·.dst)=some d→s.holds D w (a.eval (.tmp d)))→∀next:Act→World→Prop,(∀v w',Ah v w'→S2 w'→next (a.put oa.dst v) w')→oa.wp P a w next Q)
 (nG:∀a w,S2 w→(∀d,oa.dst=some d→Ah (a.eval (.tmp d)) w)→(∀(j:Nat) (x:Value) (d:Nat),V[j]? =some (.eq x)→(ops[j]?).bind (·.dst)=some d→a.eval (.tmp d)=x)→∀next:Act→World→Prop,(∀v w',S3 w'→next (a.put os.dst v) w')→os.wp P a w next Q)
 (hend:∀a w,S3 w→Q .normal (bD a ops.toList a0) w):
 (Code.region id ops true).wp P Q a0 w:=by
 unfold Db at hok
 simp only[Bool.and_eq_true,decide_eq_true_eq] at hok
 obtain⟨k1,k2,k3,k4,k5,k6,k7,k8,k9,SB⟩:=hok
 rw[Bool.not_eq_true'] at k8 k9
 rw[List.all_eq_true] at SB
 have hM:∀j,h<j→j<L→ms.contains j=true:=λj h1 h2=>by
  have:=SB j (List.mem_range.2 h2);rw[Bool.or_eq_true,decide_eq_true_eq] at this;rcases this with h|h
  · omega
  · exact h
 have DM:∀j,ms.contains j=true→∃o,ops[j]? =some o∧CQ P ops (L+1) V E j o:=λj hj=>An hmid j (by simpa using hj)
 have hgd:∀o∈ops.toList,o.guard=none:=by
  unfold eo at k7;simp only[Bool.and_eq_true,List.all_eq_true,decide_eq_true_eq] at k7;exact λo ho=>(k7.2 o ho).1
 have steps:∀(l:List Oper) (k:Nat),(∀o∈l,o.guard=none)→dJ D P S ops (L+1) V E k l→eP P .any ops Q (AK D S E a0) (mB D V) a0 k l:=by
  intro l
  induction l with
  | nil=>exact λ_ _ _=>trivial
  | cons o l ih=>exact λk hg hs=>⟨uU (hg o (by simp)) hs.1 (Nat.le_of_eq k4),ih (k+1) (λx hx=>hg x (by simp[hx])) hs.2⟩
 have hF:∀i,i<ops.size→(Array.replicate ops.size false).getD i true=false:=λi hi=>by simp[Array.getD_eq_getD_getElem?,hi]
 refine wp_region_any k1 (zP (M:=λj=>ms.contains j) (F:=I4 V) (S:=AK D S E a0) (A:=mB D V) (S2:=S2) (S3:=S3) (Ah:=Ah) k3 k2 k4 k8 k9 hM k5 k6 k7 (λj v w1 w2 h hb s hs=>(h s hs).below hb) (λj v w _ hv x hx=>hv _ (I5 hx)) (λj v w hj hv s hs=>by
  obtain⟨o,_,r,x,u,h1,_⟩:=DM j hj;rw[h1] at hs;cases hs;exact hv r (tU h1)) Uj (λw1 w2 h hb=>⟨fR _ _ h.1 hb,λp hp=>(h.2 p hp).below hb⟩) A8 jO
  (λi o hi _ ho=>l6 (steps _ 0 (λo ho=>hgd o (List.mem_of_mem_take ho)) hst) i o hi ho) ?_ ?_ ?_ Ui ?_ ops.size _ a0 _ (by simp) (λj o e hj hl=>?_) (.head ⟨by simp,rfl,rfl,λ_ _=>rfl,⟨hS,hE.all⟩,λj o d hj js hl=>?_⟩ (hF h (by omega)) (hF L (by omega))))
 · intro o ho a w hS hA hout next hn
   rw[ha] at ho;cases ho;refine nD a w hS.1 (λj s d hj P6 hsj hd=>?_) next hn
   rw[Option.bind_eq_some_iff] at hd;obtain⟨oj,jt,rG⟩:=hd;exact hA j oj d hj P6 jt rG s hsj
 · intro j o hj ho a w hd hout next hn
   obtain⟨o',ho',hm⟩:=DM j hj;rw[ho] at ho';cases ho';obtain⟨r,x,u,h1,h2,h3⟩:=hm;have he:a.eval x=u:=ji (D:=D) (S:=λ_=>True) (a0:=a0) h2 (w:=w) ⟨trivial,λp hp=>by
    obtain⟨q,hq,rfl⟩:=List.mem_map.1 hp;exact tT (hE.all q hq)⟩ (λe hee fS ok d hok iZ s hs=>by
    rw[List.getElem?_map,Option.map_eq_some_iff] at hs;obtain⟨t,ht,rfl⟩:=hs;cases t with
    | eq y=>exact hd e hee fS ok d hok iZ y (tU ht)
    | _=>exact λ_ _=>trivial) (λs hs=>hout s λo' ho' e=>by
    obtain⟨i,hi,e'⟩:=List.getElem_of_mem ho';exact hs i o' (by rw[Array.length_toList] at hi;omega) (by rw[←Array.getElem?_toList,List.getElem?_eq_getElem hi,e']) e)
   unfold Oper.wp;rw[h3 _ w he];exact hn r λy hy=>by
    rw[tU h1] at hy;cases hy
    rfl
 · intro o ho a w hS PD Ft hout next hn
   rw[hc] at ho;cases ho;refine nG a w hS (λd hd=>PD oa d ha hd) (λj x d hx hd=>?_) next hn
   rw[Option.bind_eq_some_iff] at hd;obtain⟨oj,jt,rG⟩:=hd;exact Ft j oj d x jt rG (tU hx)
 · intro a w h1 h2 h3 h4
   have:=hend a w h4
   rwa [←dO h1 h2 h3] at this
 · exfalso
   have hj2:=(Array.getElem?_eq_some_iff.1 hj).1;simp[Array.getD_eq_getD_getElem?,hj2] at hl
 · exfalso
   have hj2:=(Array.getElem?_eq_some_iff.1 hj).1;simp[Array.getD_eq_getD_getElem?,hj2] at hl
end Go.Proofs.YtemjidmkolfgnaaGreatDoor
