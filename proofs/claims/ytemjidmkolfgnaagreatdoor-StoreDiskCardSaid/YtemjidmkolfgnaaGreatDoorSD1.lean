/-
  Lemmas: contract of the package store: (*Disk).Crash. Conditions: bounds of lengths; the variable strings.asciiSpace.
-/
import Derived.Test.YtemjidmkolfgnaaGreatDoorSBn
import Derived.Test.YtemjidmkolfgnaaGreatDoorSD0
set_option maxHeartbeats 12800000
set_option maxRecDepth 8000
namespace Go.Proofs.YtemjidmkolfgnaaGreatDoor
open Go Go.RowKit
def vb1 (keep:List Int) (i:Nat):Nat:=match keep[i]? with
 | some x=>(min (max x 0) 64).toNat
 | none=>0
def vc8 (d:List UInt8) (x:Nat×List UInt8) (n:Nat):List UInt8:=mO d x.1 (x.2.take n++(van d x.1).drop n)
def vaj (S:dc) (keep:List Int):Nat→List UInt8
 | 0=>S.iY
 | k+1=>match S.pend[k]? with
  | some x=>vc8 (vaj S keep k) x (vb1 keep k)
  | none=>vaj S keep k
theorem vb7 {S:dc} {keep:List Int} {k:Nat} {x:Nat×List UInt8} (h:S.pend[k]? =some x):vaj S keep (k+1)=vc8 (vaj S keep k) x (vb1 keep k):=by simp[vaj,h]
def vay (l:List Int):List Value:=l.map λx=>.int .i64 x
theorem vbk (keep:List Int) (i:Nat):vb1 keep i≤64:=by
 unfold vb1
 split<;>omega
structure ve5 (Y:Nat→Prop) (B:Nat) (w0:World) (K a b1:Nat) (d:List UInt8) (n:Nat) (e1 e2 e3 e4 e5 v:Value) (q:Bool) (w:World):Prop where
 kd:KD Y B w0 w
 le:K≤w.heap.size
 iY:w.heap[b1]? =some (.cells (aH d).toArray 145 (0,0))
 head:w.heap[a]? =some (.cells #[.slice (some ⟨b1,0,none⟩) n n,e1,e2,e3,e4,e5] 133 (0,0))
 own:q=true→w.ownsRow K 145 64 v n (aH d)
theorem ve5.put {Y:Nat→Prop} {B:Nat} {w0:World} {K a b1:Nat} {d:List UInt8} {n:Nat} {e1 e2 e3 e4 e5 f1 f2 f3 f4 f5 v:Value} {q:Bool} {w:World} (h:ve5 Y B w0 K a b1 d n e1 e2 e3 e4 e5 v q w) (hK:a<K∧a≠b1∧B≤a∧¬Y a) (k:Nat) (u:Value) (hu:(#[Value.slice (some ⟨b1,0,none⟩) n n,e1,e2,e3,e4,e5]:Array Value).setIfInBounds k u= #[.slice (some ⟨b1,0,none⟩) n n,f1,f2,f3,f4,f5]):ve5 Y B w0 K a b1 d n f1 f2 f3 f4 f5 v q (w.setCell ⟨a,k,none⟩ u):=by
 refine⟨h.kd.put (k:=k) h.head (.inl rfl) hK.2.2.1 hK.2.2.2 u,by simpa[World.setCell] using h.le,(heap_setCell_other w ⟨a,k,none⟩ b1 u (λe=>hK.2.1 e.symm)).trans h.iY,?_,λhq=>?_⟩
 · rw[←hu]
   exact heap_setCell_same w a k _ _ u h.head
 · refine aG (h.own hq) λg hg=>heap_setCell_other w ⟨a,k,none⟩ g u λe=>?_
   subst e;rcases(h.own hq).2 with⟨e,_⟩|⟨g',cap,cur,e,hb,_⟩
   · rw[e] at hg;cases hg
   · rw[e] at hg
     simp only[Value.ownBlock,Option.some.injEq] at hg;omega
theorem vce {X : Nat → Prop} {B : Nat} {a b1 b2 : Nat} {pv v : Value} {S : dc} {D : Nat → Prop} (w : World) (h : bw B w a b1 b2 pv S) (keep : List Int) (hv : CV D w v (vay keep)) (N2 : S.pend.length ≤ 100000) (hX : ∀ b, X b → b ≠ a ∧ b ≠ b1 ∧ b ≠ b2) (hD : ∀ b, D b → b ≠ a ∧ b ≠ b1 ∧ b ≠ b2) :
 Calls Tryz.prog 38 #[.pointer (some ⟨a,0,none⟩),v] w λe w'=>e=.returned (.tuple #[])∧(∃b3 nc sl,bw B w' a b1 b3 (.slice none 0 0) {n:=S.n,iY:=vaj S keep S.pend.length,now:=vaj S keep S.pend.length,pend:=[],ends:=false,down:=false,calls:=0,nc:=nc,sl:=sl })∧KD X B w w':=by
 obtain⟨p,cp,rfl⟩:=aJ h.pend
 obtain⟨pk,vf8,rfl,U7,U8⟩:=hv.shape
 have sA:(vay keep).length=keep.length:=by simp[vay]
 rw[sA] at U7 U8
 have rH:=hv
 rw[sA] at rH
 have Ed:B≤w.heap.size:=by have:=(h.lt (.inl rfl));omega
 have hab:=h.parts
 have hhn:=h.hn
 have c1:=lG h.head
 generalize hL:S.pend.length=L at *
 have hL:=zh hL
 have hY:∀b,(X b∨D b)→b≠a∧b≠b1∧b≠b2:=λb hb=>hb.elim (hX b) (hD b)
 go_enter Tryz.func38,Tryz.ntmps38
 go_upto_region 2 with fail
 clear c1
 go_loopw [15] (λy wx=>∃k:Nat,k≤L∧y=.int .i64 k∧bw B wx a b1 b2 (.slice p L cp) {S with iY:=vaj S keep k }∧KD (λb=>X b∨D b) B w wx) (λy _=>L - (intOf y).toNat)
 case atStart=>exact⟨0,Nat.zero_le _,by go_num,h,KD.refl _ _ _⟩
 case round =>
  obtain⟨k,hk,rfl,hM,hK⟩:=hrel
  by_cases hlt:k<L
  case neg =>
   obtain rfl:k=L:=by omega
   have hdl:=hM.ld;dsimp only at hdl;have vep:B≤wr.heap.size:=Nat.le_trans Ed hK.cV.size;have vey:=(hM.lt (.inl rfl)).2;have hput:a<wr.heap.size∧a≠b1∧B≤a∧¬(X a∨D a):=⟨vey,hab.1,h.hB.1,λhx=>(hY a hx).1 rfl⟩;have vem:=vcd (vaj S keep k) S.n wr hM.iY hdl ⟨by omega,hhn.2⟩;have c1:=lG hM.head;go_upto_region 12 with(go_at_call 82;refine vem.mono ?_;clear vem;rintro e w5 ⟨v5,rfl,hown,oo⟩;obtain⟨q,cq,rfl⟩:=aJ hown;have c5:=lG (ag hM.head oo));have vek:ve5 (λb=>X b∨D b) B w wr.heap.size a b1 (vaj S keep k) S.n (.slice (some ⟨b2,0,none⟩) S.n S.nc) (.slice p k cp) (.bool S.ends) (.bool S.down) (.int .i64 S.calls) (.slice q S.n cq) true w5:=⟨hK.trans (KD.ai oo zr vep),oo.size,ag hM.iY oo,ag hM.head oo,λ_=>hown⟩;have vel:=(vek.put hput 2 (.slice none 0 0) rfl).put hput 1 (.slice q S.n cq) rfl;have Rk:=((vel.put hput 3 (.bool false) rfl).put hput 4 (.bool false) rfl).put hput 5 (.int .i64 0) rfl;have c6:=lG vel.head;have Ab:=(hM.lt (.inr (.inl rfl))).2;clear c1 c5 hM hK vek;go_wp2_with fail
   go_end0
   refine⟨rfl,?_,Rk.kd.cV,λb x e ho=>Rk.kd.keep b x e (ho.imp id .inl)⟩;rcases(Rk.own rfl).2 with⟨_,h0⟩|⟨g3,cap,cur,e3,hg1,hg2,hg3,hg4,Hz,HH⟩
   · omega
   · injection e3 with e3 _ e4
     subst e3 e4;have vbu:(aH (vaj S keep k)++cur.toList.drop (S.n * 64)).toArray=cur:=by rw[←HH,List.take_append_drop,Array.toArray_toList]
     refine⟨g3,cq,cur.toList.drop (S.n * 64),Rk.head,Rk.iY,?_,?_,hdl,hdl,⟨by simp[jW],.inl ⟨rfl,rfl⟩⟩,(λx hx=>absurd hx List.not_mem_nil),hhn,h.hB.1,h.hB.2.1,Nat.le_trans vep hg1⟩
     · unfold va0
       dsimp only;rw[vbu];exact hg2
     · omega
  case pos =>
   obtain⟨x,hx⟩:∃x,S.pend[k]? =some x:=⟨_,List.getElem?_eq_getElem (by rw[hL.out];exact hlt)⟩
   have uh:=h.pl x (List.mem_of_getElem? hx);have hds:=vb7 (keep:=keep) hx;obtain⟨g,rfl,hg⟩:∃g,p=some ⟨g,0,none⟩∧∀j u,(jW S.pend)[j]? =some u→wr.cell? ((⟨g,0,none⟩:Addr).add j)=some u:=by
    have hp:=hM.pend;rcases hp.2 with⟨_,h0⟩|⟨g,cap,cur,e,_⟩
    · exfalso
      have:=hL.out;dsimp only at h0;omega
    · injection e with e1 _ _
      subst e1;exact⟨g,rfl,λj u hj=>hp.cells (g:=g) rfl j u hj⟩
   have xU:wr.rangeAt g (k * 65) (AX x):=λj v hj=>by
    have:=hg _ _ (sU S.pend (λy hy=>(h.pl y hy).2) k x hx j v hj)
    rwa [eH,Nat.zero_add] at this
   have hcl:=zY uh.2;have Jy:(Tryz.prog.info? 147).map (·.size)=some (AX x).length:=by rw[hcl];kernel_rfl
   have veh:(k:Int)<(L:Int):=by omega
   go_upto_region 4 with(first
    | (refine wpList_load_mid (op:=⟨some 19,_,_,_,_,_⟩) rfl 147 (.tmp 18) rfl g (k * 65) rfl (AX x) _ xU Tryz.underlying147 rfl Jy ?_)
    | (refine gj (o:=⟨none,_,_,_,_,_⟩) rfl (.tmp 5) (.tmp 19) rfl rfl rfl (bK (o:=0) (heap_alloc_new _ _) (by rw[List.size_toArray];exact Jy) (by rw[List.size_toArray,hcl];decide) (FK x)) ?_))
   generalize hW:World.setRow _ _ _=W3;have R9:W3.heap[wr.heap.size]? =some (.cells (AX x).toArray 147 (0,0)):=by
    rw[←hW];refine(cI _ _ _ _).1.trans (congrArg (λz=>some (Obj.cells z 147 (0,0))) ?_);rw[List.take_zero,List.nil_append,List.drop_eq_nil_of_le (by rw[List.size_toArray,hcl];decide),List.append_nil]
   have xT:Below wr.heap.size wr W3:=by
    rw[←hW];exact(cI _ _ _ _).2
   clear hW hg xU Jy hcl;have Fl:=hM.below xT zr;have hBw:B≤wr.heap.size:=Nat.le_trans Ed hK.cV.size;have rA:=hK.trans (KD.ai xT zr hBw);obtain⟨n,hn⟩:∃n,vb1 keep k=n:=⟨_,rfl⟩
   have UO:n≤64:=hn▸vbk keep k
   go_upto_if 23 with fail
   go_cut [6,23] from 24 to 30 (λy _ wx=>y=.int .i64 (n:Int)∧wx=W3)
   case first =>
    by_cases hkk:k<keep.length
    case neg=>
     have vdo:¬(k:Int)<(keep.length:Int):=by omega
     obtain rfl:n=0:=by rw[←hn];unfold vb1;rw[List.getElem?_eq_none (by omega)]
     go_wp2_with fail
     go_meet
     exact⟨rfl,rfl⟩
    case pos=>
     obtain⟨y,hy⟩:∃y,keep[k]? =some y:=⟨_,List.getElem?_eq_getElem hkk⟩
     have hne:min (max y 0) 64=(n:Int):=by rw[←hn];unfold vb1;rw[hy];dsimp only;omega
     obtain⟨bk,ok,rfl,ved,vef⟩:=hv.at (k:=k) (x:=.int .i64 y) (by simp[vay,hy]);have hlk:bk<w.heap.size:=by
      obtain⟨_,_,e1,_,_,e4⟩:=hv;rcases e4 with e4|⟨b,o,e5,_,e6,_⟩
      · have e0:=congrArg List.length e4
        simp[vay] at e0;rw[e0] at hkk;exact absurd hkk (Nat.not_lt_zero _)
      · injection e1 with e1
        rw[←e1] at e5;injection e5 with e5;injection e5 with e5;omega
     have Kr:W3.cell? ⟨bk,ok+k,none⟩=some (.int .i64 y):=by
      obtain⟨o,ho⟩:∃o,w.heap[bk]? =some o:=⟨_,Array.getElem?_eq_getElem hlk⟩
      have e:=rA.keep bk o ho (.inr (.inr ved));rw[←vef];exact World.cell?_of_block (w:=w) (e.trans ho.symm)
     have vdo:(k:Int)<(keep.length:Int):=by omega
     go_wp2_with fail
     go_meet
     exact⟨rfl,rfl⟩
   case rest=>
    obtain⟨rfl,vbj⟩:=hcut;have vbj:=vbj.symm;subst vbj;obtain⟨i,bs⟩:=x;obtain⟨hin,xS⟩:=uh;dsimp only at hin xS;have Jz:(i:Int)<(S.n:Int):=by omega
    unfold vc8 at hds;dsimp only at hds;rw[hn] at hds;have Bk:=hM.ld;dsimp only at Bk;have ow:=vb5 Bk hin;have hda:∀W,Below W3.heap.size W3 W→W.rangeAt b1 (i * 64) (aH (van (vaj S keep k) i)):=λW hW=>(Fl.below hW zr).vdw i
    generalize ve1:van (vaj S keep k) i=sec at *;have ve1:=zh ve1;generalize NK:vaj S keep (k+1)=d2 at *;have NK:=zh NK;have hWs:wr.heap.size<W3.heap.size:=aj R9;have hgt:∀b,(b=a∨b=b1∨b=b2)→b<W3.heap.size:=λb hb=>(Fl.lt (b:=b) (by rcases hb with h|h|h;exact .inl h;exact .inr (.inl h);exact .inr (.inr (.inl h)))).2
    go_upto_region 7 with fail;refine vb3 (D:=λ_=>True) (w:=W3) 9 [(0,vP a 0),(5,vP wr.heap.size 0)] [vP a 0,vP a 0,vP a 0,.eq (.slice (some ⟨b1,0,none⟩) S.n S.n),vP wr.heap.size 0,vI i,vP b1 (i * 64),.eq (.agg (aH sec).toArray),.prop (vdu W3.heap.size)]
     (λw'=>Below W3.heap.size W3 w') (λax _ w'=>∃G,ax.eval (.tmp 7)=.pointer (some ⟨G,0,none⟩)∧W3.heap.size≤G∧w'.heap[G]? =some (.cells (aH sec).toArray 145 (0,0))∧Below W3.heap.size W3 w') (d:=none) (by kernel_rfl) rfl rfl
     (λw w' h hb=>h.trans (aa hb h.size)) (zb W3).drew ⟨rfl,rfl,trivial⟩ ?_ ?_ ?_
    · refine⟨iU rfl rfl (by kernel_rfl),ic rfl (by kernel_rfl) rfl rfl,gQ rfl (by kernel_rfl) rfl rfl (λw=>by simp[go_sem]),?_,gQ rfl (by kernel_rfl) rfl rfl (λw=>by simp[go_sem]),?_,iQ rfl (by kernel_rfl) rfl rfl rfl (λw=>by simp[go_sem,Jz]),?_,vdq rfl (by kernel_rfl) rfl (λw h=>h.size),trivial⟩
      · exact dV rfl (by kernel_rfl) rfl rfl (λw hS=>by have c1:=lG (Fl.below hS zr).head;simp[go_sem,c1])
      · exact dV rfl (by kernel_rfl) rfl rfl (λw hS=>by have c1:w.cell? ⟨wr.heap.size,0,none⟩=some (.int .i64 i):=(af ((hS.block _ hWs).trans R9) 0).trans (by simp[AX]);simp[go_sem,c1])
      · exact dV rfl (by kernel_rfl) rfl rfl (λw hS=>run_loadAt_mid w b1 (i * 64) 145 (aH sec) _ (hda w hS) Tryz.underlying145 rfl (by rw[ak,ow];kernel_rfl))
    · intro ax wx hS hV hout next hn
      obtain⟨G,e7,ve7,hG⟩:=hV 8 _ 7 (by decide) rfl rfl wx (zb _);have e2:ax.eval (.tmp 37)=.agg (aH sec).toArray:=hV 7 _ 37 (by decide) rfl rfl;have Gd:(aH sec).toArray.size=64:=by simp[ak,ow]
      have hst:=bK (P:=Tryz.prog) (T:=145) (o:=0) (Y:=(aH sec).toArray) hG (by rw[Gd];kernel_rfl) (by simp[Gd,ak]) (vd1 sec);refine aY rfl e7 e2 hst (hn _ _ ⟨G,e7,ve7,?_,below_setRow hS ve7 _⟩);refine(setRow_heap _ _ _ _ _ _ hG).trans (congrArg (λz=>some (Obj.cells z 145 (0,0))) ?_);rw[List.take_zero,List.nil_append,List.drop_eq_nil_of_le (by rw[Gd];simp[ak]),List.append_nil]
    rintro ax v7 w7 ⟨G,e7,ve7,hG,Ho⟩;simp only[pq,pz,pw];have e7:ax.tmps.getD 7 undef=.pointer (some ⟨G,0,none⟩):=e7;rw[e7];clear e7 hda;generalize hT:bs.take n++sec.drop n=T at *;go_upto_region 8 with fail;have hsrc:∀W,Below W3.heap.size W3 W→CV (λ_=>True) W (.slice (some ⟨wr.heap.size,1,none⟩) n 64) (aH (bs.take n)):=λW hW=>by
     have hlt:(aH (bs.take n)).length=n:=by rw[ak,List.length_take,xS,Nat.min_eq_left UO]
     have veo:=(hW.block _ hWs).trans R9;refine⟨_,64,by rw[hlt],by rw[hlt];exact UO,by rw[hlt];unfold maxLen;omega,.inr ⟨wr.heap.size,1,rfl,trivial,aj veo,λj u hj=>?_⟩⟩;refine(af veo (1+j)).trans ?_;unfold aH at hj;rw[List.map_take,List.getElem?_take] at hj;split at hj
     · rw[Nat.add_comm 1 j]
       simpa[AX,aH] using hj
     · cases hj
    refine vb3 (D:=λ_=>True) (w:=w7) 5 [(6,vI n),(7,vP G 0),(5,vP wr.heap.size 0)] [vI n,.eq (.slice (some ⟨G,0,none⟩) n 64),vP wr.heap.size 1,vI n,.eq (.slice (some ⟨wr.heap.size,1,none⟩) n 64)]
     (λw'=>Below w7.heap.size w7 w') (λ_ _ w'=>w'.heap[G]? =some (.cells (aH T).toArray 145 (0,0))∧Below W3.heap.size W3 w') (d:=some 43) (by kernel_rfl) rfl rfl
     (λw w' h hb=>h.trans (aa hb h.size)) (zb w7).drew ⟨rfl,rfl,rfl,trivial⟩ ?_ ?_ ?_
    · refine⟨iU rfl rfl (by kernel_rfl),?_,gQ rfl (by kernel_rfl) rfl rfl (λw=>by simp[go_sem]),iU rfl rfl (by kernel_rfl),?_,trivial⟩
      · exact B5 (.tmp 7) (.tmp 38) (by kernel_rfl) rfl rfl rfl (λev w hS h1 h2=>by
         unfold execOp;simp[h1,h2,vbf G 0 n UO w,go_sem])
      · exact B5 (.tmp 40) (.tmp 41) (by kernel_rfl) rfl rfl rfl (λev w hS h1 h2=>by
         unfold execOp;simp[h1,h2,vbf wr.heap.size 1 n UO w,go_sem])
    · intro ax wx hS hV hout next hn
      have e1:ax.eval (.tmp 39)=.slice (some ⟨G,0,none⟩) n 64:=hV 1 _ 39 (by decide) rfl rfl;have e2:ax.eval (.tmp 42)=.slice (some ⟨wr.heap.size,1,none⟩) n 64:=hV 4 _ 42 (by decide) rfl rfl;have cN:=Ho.trans (aa hS Ho.size);have yy:(bs.take n).length=n:=by rw[List.length_take,xS,Nat.min_eq_left UO]
      refine vc5 (ops:= #[]) (D:=λ_=>True) (bs:=bs.take n) rfl (.tmp 39) (.tmp 42) rfl e1 e2 ow ((hS.block G (aj hG)).trans hG) (hsrc wx cN) (by rw[yy];exact nl _) (by omega) λw' u h1 h2=>hn u w' ⟨?_,cN.trans (aa h2 ve7)⟩
      rw[←hT];rw[List.take_zero,List.nil_append,Nat.zero_add,yy] at h1;exact h1
    rintro vf4 vfb w8 ⟨OV,OJ⟩;simp only[pq,pz,pw];clear hG Ho hsrc;have F9:T.length=64:=by rw[←hT];simp[xS,ow];omega
    go_upto_region 9 with fail;refine cF (D:=λ_=>True) (w:=w8) 8 [(0,vP a 0),(5,vP wr.heap.size 0),(7,vP G 0)] [vP a 0,vP a 0,vP a 0,.eq (.slice (some ⟨b1,0,none⟩) S.n S.n),vP wr.heap.size 0,vI i,.eq (.agg (aH T).toArray),vP b1 (i * 64)]
     (λw'=>Below w8.heap.size w8 w') (λw'=>bw B w' a b1 b2 (.slice (some ⟨g,0,none⟩) L cp) {S with iY:=d2 }∧KD (λb=>X b∨D b) B w w') (by kernel_rfl) rfl rfl
     (λw w' h hb=>h.trans (aa hb h.size)) (zb w8).drew ⟨rfl,rfl,rfl,trivial⟩ ?_ ?_ ?_
    · refine⟨iU rfl rfl (by kernel_rfl),ic rfl (by kernel_rfl) rfl rfl,gQ rfl (by kernel_rfl) rfl rfl (λw=>by simp[go_sem]),?_,gQ rfl (by kernel_rfl) rfl rfl (λw=>by simp[go_sem]),?_,?_,iQ rfl (by kernel_rfl) rfl rfl rfl (λw=>by simp[go_sem,Jz]),trivial⟩
      · exact dV rfl (by kernel_rfl) rfl rfl (λw hS=>by have c1:=lG (Fl.below (OJ.trans (aa hS OJ.size)) zr).head;simp[go_sem,c1])
      · exact dV rfl (by kernel_rfl) rfl rfl (λw hS=>by have c1:w.cell? ⟨wr.heap.size,0,none⟩=some (.int .i64 i):=(af (((OJ.trans (aa hS OJ.size)).block _ hWs).trans R9) 0).trans (by simp[AX]);simp[go_sem,c1])
      · exact dV rfl (by kernel_rfl) rfl rfl (λw hS=>bT ((hS.block G (aj OV)).trans OV) Tryz.underlying145 (by simp only[List.size_toArray,ak,F9];kernel_rfl))
    · intro ax wx hS hV hout next hn
      have e1:ax.eval (.tmp 51)=.pointer (some ⟨b1,i * 64,none⟩):=hV 7 _ 51 (by decide) rfl rfl;have e2:ax.eval (.tmp 50)=.agg (aH T).toArray:=hV 6 _ 50 (by decide) rfl rfl;have cN:=OJ.trans (aa hS OJ.size);have TI:=Fl.below cN zr;have Gd:(aH T).toArray.size=64:=by simp[ak,F9]
      have hst:=bK (P:=Tryz.prog) (T:=145) (o:=i * 64) (Y:=(aH T).toArray) TI.iY (by rw[Gd];kernel_rfl) (by simp[ak,Bk,F9];omega) (vd1 T);refine aY rfl e1 e2 hst (hn _ _ ?_);have dL:=TI.J1 (S':={S with iY:=mO (vaj S keep k) i T }) rfl (xo Bk hin F9);have hrow:((aH (vaj S keep k)).toArray.toList.take (i * 64)++(aH T).toArray.toList++(aH (vaj S keep k)).toArray.toList.drop (i * 64+(aH T).toArray.size)).toArray=(aH (mO (vaj S keep k) i T)).toArray:=by
       rw[←qF (vaj S keep k) i T F9];simp
      rw[hrow,hds];exact⟨dL,(rA.trans (KD.ai cN zr (Nat.le_trans hBw xT.size))).row TI.iY (.inr (.inl rfl)) h.hB.2.1 (λhx=>(hY _ hx).2.1 rfl) _⟩
    · intro vf5 w9 RQ
      simp only[pq,pz,pw];clear hM hK Fl rA R9 xT OV OJ hgt;have hk1:(k:Int)+1≤9223372036854775807:=by have:=hL.out;omega
      go_wp2_with fail;exact⟨⟨_,_,_,_,.int .i64 ((k:Int)+1),⟨k+1,hlt,by go_num,by rw[NK.out];exact RQ.1⟩,rfl,rfl,rfl,rfl,rfl⟩,by simp only[intOf];omega⟩
section
variable {B m:Nat} {vd vfc:Value} {S:dc}
theorem vbx {D:Nat→Prop} {v:Value} (w:World) (h:vag B w m vd vfc S) (keep:List Int) (hv:CV D w v (vay keep)) (N2:S.pend.length≤100000) (hD:∀b,D b→b<B):
 Calls Tryz.prog 71 #[.pointer (some ⟨m,0,none⟩),v] w λe w'=>e=.returned (.tuple #[])∧vag B w' m vd (.slice none 0 0) {S with iY:=vaj S keep S.pend.length,pend:=[],ends:=false,down:=false }∧vf7 B w w':=by
 obtain⟨p,c,rfl⟩:=aJ h.iY
 obtain⟨q,c2,rfl⟩:=aJ h.pend
 obtain⟨pk,vf8,rfl,U7,U8⟩:=hv.shape
 have sA:(vay keep).length=keep.length:=by simp[vay]
 rw[sA] at U7 U8
 have rH:=hv
 rw[sA] at rH
 rw[sA]
 have Ed:B≤w.heap.size:=by have:=(h.lt (.inl rfl));omega
 have hn0:=h.hn
 generalize hL:S.pend.length=L at *
 have hL:=zh hL
 go_enter Tryz.func71,Tryz.ntmps71
 go_upto_region 1 with fail
 go_loopw [4] (λy wx=>∃k:Nat,k≤L∧y=.int .i64 k∧vag B wx m (.slice p S.n c) (.slice q L c2) {S with iY:=vaj S keep k }∧vf7 B w wx) (λy _=>L - (intOf y).toNat)
 case atStart=>exact⟨0,Nat.zero_le _,by go_num,h,vf7.refl _ _⟩
 case round =>
  obtain⟨k,hk,rfl,hM,Rx⟩:=hrel
  by_cases hlt:k<L
  case neg=>
   obtain rfl:k=L:=by omega
   have b:=hM.box;go_wp2_with fail
   go_end0
   have e1:=hM.drop;have e2:=e1.put (S':={S with iY:=vaj S keep k,pend:=[],ends:=false }) 2 (.int .i64 (-1)) (by unfold vdh vaz;simp) rfl rfl rfl;have e3:=e2.put (S':={S with iY:=vaj S keep k,pend:=[],ends:=false,down:=false }) 3 (.bool false) (by unfold vdh vaz;simp) rfl rfl rfl;exact⟨rfl,e3,((Rx.put hM.head (.inl rfl) hM.hB _).put e1.head (.inl rfl) hM.hB _).put e2.head (.inl rfl) hM.hB _⟩
  case pos=>
   obtain⟨x,hx⟩:∃x,S.pend[k]? =some x:=⟨_,List.getElem?_eq_getElem (by rw[hL.out];exact hlt)⟩
   have uh:=h.pl x (List.mem_of_getElem? hx);have hds:=vb7 (keep:=keep) hx;have hrd:=hM.iY;have vdc:=hM.pend;dsimp only at hrd vdc;rw[hL.out] at vdc;obtain⟨gd,rfl,hgd⟩:=vau hrd (by omega);obtain⟨vf9,rfl,vdn⟩:=vau vdc (by omega);have hgc:wr.cell? ⟨gd,x.1,none⟩=some (str (van (vaj S keep k) x.1)):=hgd _ _ (by unfold aA;rw[List.getElem?_map,vb6 _ uh.1];rfl);obtain⟨hc1,yp⟩:=vb4 S.pend k x hx;have hc1:=vdn _ _ hc1;have yp:=vdn _ _ yp;have xU:wr.rangeAt vf9 (k * 2) [.int .i64 (x.1:Int),str x.2]:=λj v hj=>by
    rcases j with _|_|j
    · cases hj;exact hc1
    · cases hj;exact yp
    · simp at hj
   clear hgd vdn;obtain⟨i,bs⟩:=x;obtain⟨hin,xS⟩:=uh;unfold vc8 at hds;dsimp only at hin xS hc1 yp hgc hds;have Jz:(i:Int)<(S.n:Int):=by omega
   have veh:(k:Int)<(L:Int):=by omega
   have hfz:wr.frozen? ⟨gd,i,none⟩=false:=by
    obtain⟨_,cur,e⟩:=vao hrd (g:=gd) rfl;exact au e i
   have vde:B≤wr.heap.size:=Nat.le_trans Ed Rx.cV.size;obtain⟨n,hn⟩:∃n,vb1 keep k=n:=⟨_,rfl⟩
   have UO:n≤64:=hn▸vbk keep k;rw[hn] at hds;have Bk:=hM.ld;dsimp only at Bk;have ow:=vb5 Bk hin;generalize hsk:van (vaj S keep k) i=sk at *;have hsk:=zh hsk;generalize NK:vaj S keep (k+1)=d2 at *;have NK:=zh NK;have b:=hM.box
   go_upto_if 19 with fail
   go_cut [5,19] from 20 to 26 (λy _ wx=>y=.int .i64 (n:Int)∧wx=wr)
   case first=>
    by_cases hkk:k<keep.length
    case neg=>
     have vdo:¬(k:Int)<(keep.length:Int):=by omega
     obtain rfl:n=0:=by rw[←hn];unfold vb1;rw[List.getElem?_eq_none (by omega)]
     go_wp2_with fail
     go_meet
     exact⟨rfl,rfl⟩
    case pos=>
     obtain⟨y,hy⟩:∃y,keep[k]? =some y:=⟨_,List.getElem?_eq_getElem hkk⟩
     have hne:min (max y 0) 64=(n:Int):=by rw[←hn];unfold vb1;rw[hy];dsimp only;omega
     obtain⟨bk,ok,rfl,ved,vef⟩:=rH.at (k:=k) (x:=.int .i64 y) (by simp[vay,hy]);have Kr:wr.cell? ⟨bk,ok+k,none⟩=some (.int .i64 y):=by
      rw[←vef];exact World.cell?_of_block (w:=w) (Rx.cV.block bk (hD bk ved))
     have vdo:(k:Int)<(keep.length:Int):=by omega
     go_wp2_with fail
     go_meet
     exact⟨rfl,rfl⟩
   case rest=>
    obtain⟨rfl,vbj⟩:=hcut;have vbj:=vbj.symm;subst vbj;go_upto_region 7 with fail;have fc:Below wr.heap.size wr (wr.alloc (.cells #[.int .i64 (i:Int),.string ⟨bs.toArray⟩] 193)):=(zb wr).alloc zr _;have vda:=heap_alloc_new wr (.cells #[.int .i64 (i:Int),.string ⟨bs.toArray⟩] 193);generalize wr.alloc (.cells #[.int .i64 (i:Int),.string ⟨bs.toArray⟩] 193)=W1 at *;have hM1:=hM.below fc zr;have nC:=Rx.trans (vf7.ai fc zr vde);have Hy:W1.cell? ⟨wr.heap.size,0,none⟩=some (.int .i64 (i:Int)):=(af vda 0).trans rfl;have hd2:W1.cell? ⟨wr.heap.size,1,none⟩=some (str bs):=(af vda 1).trans rfl;have vdm:=Below.keep fc hgc;have vej:B≤W1.heap.size:=Nat.le_trans vde fc.size;generalize wr.heap.size=G at *;clear b hc1 yp xU hgc hfz;refine cF (D:=λ_=>True) (w:=W1) 22 [(0,vP m 0),(5,vI n),(6,vP G 0)] [vP m 0,vP m 0,vP m 0,.eq (.slice (some ⟨gd,0,none⟩) S.n c),vP G 0,vI i,vP G 1,.eq (str bs),vI n,.eq (str (bs.take n)),vP m 0,vP m 0,vP m 0,.eq (.slice (some ⟨gd,0,none⟩) S.n c),vP G 0,vI i,vP gd i,.eq (str sk),vI n,.eq (str (sk.drop n)),.eq (str (bs.take n++sk.drop n)),vP gd i]
     (λw'=>Below W1.heap.size W1 w')
     (λw'=>vag B w' m (.slice (some ⟨gd,0,none⟩) S.n c) (.slice (some ⟨vf9,0,none⟩) L c2) {S with iY:=d2 }∧vf7 B w w') (by kernel_rfl) rfl rfl
     (λw w' h hb=>h.trans (aa hb h.size)) (zb W1).drew ⟨rfl,rfl,rfl,trivial⟩ ?_ ?_ ?_
    · refine⟨iU rfl rfl (by kernel_rfl),ic rfl (by kernel_rfl) rfl rfl,gQ rfl (by kernel_rfl) rfl rfl (λw=>by simp[go_sem]),dV rfl (by kernel_rfl) rfl rfl (λw hS=>by have c1:=(hM1.below hS zr).box;simp[go_sem,c1]),gQ rfl (by kernel_rfl) rfl rfl (λw=>by simp[go_sem]),dV rfl (by kernel_rfl) rfl rfl (λw hS=>by have c1:=Below.keep hS Hy;simp[go_sem,c1]),gQ rfl (by kernel_rfl) rfl rfl (λw=>by simp[go_sem]),dV rfl (by kernel_rfl) rfl rfl (λw hS=>by have c1:=Below.keep hS hd2;simp[go_sem,c1]),iU rfl rfl (by kernel_rfl),?_,iU rfl rfl (by kernel_rfl),ic rfl (by kernel_rfl) rfl rfl,gQ rfl (by kernel_rfl) rfl rfl (λw=>by simp[go_sem]),dV rfl (by kernel_rfl) rfl rfl (λw hS=>by have c1:=(hM1.below hS zr).box;simp[go_sem,c1]),gQ rfl (by kernel_rfl) rfl rfl (λw=>by simp[go_sem]),dV rfl (by kernel_rfl) rfl rfl (λw hS=>by have c1:=Below.keep hS Hy;simp[go_sem,c1]),iQ rfl (by kernel_rfl) rfl rfl rfl (λw=>by simp[go_sem,Jz]),dV rfl (by kernel_rfl) rfl rfl (λw hS=>by have c1:=Below.keep hS vdm;simp[go_sem,c1]),iU rfl rfl (by kernel_rfl),?_,?_,iQ rfl (by kernel_rfl) rfl rfl rfl (λw=>by simp[go_sem,Jz]),trivial⟩
      · exact B5 (.tmp 40) (.tmp 41) (by kernel_rfl) rfl rfl rfl (λev w hS h1 h2=>by
         unfold execOp;have q1:(n:Int)≤64:=by omega
         simp[h1,h2,go_sem,xS,q1])
      · exact B5 (.tmp 50) (.tmp 51) (by kernel_rfl) rfl rfl rfl (λev w hS h1 h2=>by
         unfold execOp;have q1:(n:Int)≤64:=by omega
         have q3:sk.take 64=sk:=List.take_of_length_le (by omega);simp[h1,h2,go_sem,ow,q1,q3])
      · exact B5 (.tmp 42) (.tmp 52) (by kernel_rfl) rfl rfl rfl (λev w hS h1 h2=>by
         unfold execOp;have q1:min n bs.length+(sk.length - n)≤9223372036854775807:=by omega
         simp[h1,h2,go_sem,q1])
    · intro a' wx hS hV hout next hn
      have e1:a'.eval (.tmp 54)=.pointer (some ⟨gd,i,none⟩):=hV 21 _ 54 (by decide) rfl rfl;have e2:a'.eval (.tmp 53)=str (bs.take n++sk.drop n):=hV 20 _ 53 (by decide) rfl rfl;have Wb:=hM1.below hS zr;have vdy:=Wb.iY;dsimp only at vdy;obtain⟨hgB,cur,vbu⟩:=vao vdy (g:=gd) rfl;have c1:=Below.keep hS vdm;have c2:wx.frozen? ⟨gd,i,none⟩=false:=au vbu i;have hst:(Instr.storeAt 9 (.pointer (some ⟨gd,i,none⟩)) (str (bs.take n++sk.drop n))).run Tryz.prog wx=.ok () (wx.setCell ⟨gd,i,none⟩ (str (bs.take n++sk.drop n))):=by simp[go_sem,c1,c2]
      refine aY rfl e1 e2 hst (hn _ _ ⟨?_,(nC.trans (vf7.ai hS zr vej)).put vbu (.inr (.inl rfl)) hgB _⟩);have:=Wb.J1 (g:=gd) (s:=bs.take n++sk.drop n) rfl hin (by simp[xS,ow];omega);dsimp only at this;rw[hds];exact this
    · intro ax w9 RQ
      simp only[pq,pz,pw];have hk1:(k:Int)+1≤9223372036854775807:=by have:=hL.out;omega
      clear hM hM1 hrd vdc Rx nC vda Hy hd2 vdm;go_wp2_with fail;exact⟨⟨k+1,hlt,by go_num,by rw[NK.out];exact RQ.1,RQ.2⟩,by simp only[intOf];omega⟩
end
theorem vd0:(Tryz.prog.info? 9).map (λi=>(i.zero,i.size,i.bytes))=some (some (str []),1,16):=by kernel_rfl
theorem vc4 (k:Nat) (z:List UInt8):aA (List.replicate k z)++[str z]=aA (List.replicate (k+1) z):=by
 unfold aA
 rw[List.replicate_succ',List.map_append]
 rfl
theorem vd3 (n : Nat) (hn : 64 ≤ n ∧ n ≤ 65536) (w : World) :
 Calls Tryz.prog 32 #[.int .i64 n] w λe w'=>(∃m vd,e=.returned (.tuple #[.pointer (some ⟨m,0,none⟩),.int .i64 0])∧vag w.heap.size w' m vd (.slice none 0 0) (oZ n))∧Below w.heap.size w w':=by
 have ve6:=λW=>vb9 [] (by decide) W
 have vee:=enters_of Tryz.func66 (by kernel_rfl) rfl
 obtain⟨i0,kN,hz0,hz1,hz2⟩:=aV vd0
 have q1:¬(n:Int)<64:=by omega
 have q2:¬(65536:Int)<(n:Int):=by omega
 obtain⟨z,hz⟩:∃z,jV []=z:=⟨_,rfl⟩
 rw[hz] at ve6
 have hz:=zh hz
 go_enter Tryz.func32,Tryz.ntmps32
 go_upto_region 5 with fail
 have fc:Below w.heap.size w (w.alloc (.cells #[.slice none 0 0,.slice none 0 0,.int .i64 (-1),.bool false] 136)):=(zb w).alloc zr _
 have vda:=heap_alloc_new w (.cells #[.slice none 0 0,.slice none 0 0,.int .i64 (-1),.bool false] 136)
 generalize w.alloc (.cells #[.slice none 0 0,.slice none 0 0,.int .i64 (-1),.bool false] 136)=W1 at *
 generalize hM:w.heap.size=M at *
 go_loopw [5] (λy wx=>∃(k:Nat) (vd:Value),k≤n∧y=.int .i64 k∧wx.heap[M]? =some (.cells #[vd,.slice none 0 0,.int .i64 (-1),.bool false] 136 (0,0))∧wx.ownsRow M 9 1 vd k (aA (List.replicate k z))∧Below M w wx) (λy _=>n - (intOf y).toNat)
 case atStart=>exact⟨0,_,Nat.zero_le _,by go_num,vda,World.ownsRow_nil _ _ _ _,fc⟩
 case round =>
  obtain⟨k,vd,hk,rfl,hH,hO,hB⟩:=hrel;clear vda fc
  by_cases hlt:k<n
  case neg=>
   obtain rfl:k=n:=by omega
   go_wp2_with fail;go_ret2;subst hM;refine⟨⟨_,vd,rfl,hH,?_,⟨by simp[vba],.inl ⟨rfl,rfl⟩⟩,by simp,(λx hx=>absurd hx List.not_mem_nil),hn,nl _⟩,hB⟩;have e:secs k (List.replicate (k * 64) 0)=List.replicate k z:=by rw[vcu,←hz.out];rfl
   show _root_.Go.World.ownsRow _ _ _ _ _ _ (aA (secs k (List.replicate (k * 64) 0)))
   rw[e];exact hO
  case pos =>
   have sA:(k:Int)<(n:Int):=by omega
   have vf6:=aj hH;go_upto_region 7 with fail;refine q8 (D:=λ_=>True) (w:=wr) 7 10 [0,8,9] [(4,vP M 0)] [vP M 0,vP M 0,vP M 0,vP M 0,.eq vd,.eq (str z),.prop λw v=>∃g,v=.slice (some ⟨g,0,none⟩) 1 1∧w.heap[g]? =some (.cells #[str z] 9 (0,0)),.prop λ_ _=>True,vP M 0,vP M 0]
    (λw'=>w'.heap[M]? =some (.cells #[vd,.slice none 0 0,.int .i64 (-1),.bool false] 136 (0,0))∧w'.ownsRow M 9 1 vd k (aA (List.replicate k z))∧Below M w w')
    (λv w'=>w'.ownsRow M 9 1 v (k+1) (aA (List.replicate (k+1) z)))
    (λw'=>w'.heap[M]? =some (.cells #[vd,.slice none 0 0,.int .i64 (-1),.bool false] 136 (0,0))∧Below M w w')
    (λw'=>∃ve9,w'.heap[M]? =some (.cells #[ve9,.slice none 0 0,.int .i64 (-1),.bool false] 136 (0,0))∧w'.ownsRow M 9 1 ve9 (k+1) (aA (List.replicate (k+1) z))∧Below M w w') (by kernel_rfl) rfl rfl rfl rfl
    (λw1 w2 h hb=>⟨ag h.1 hb,aT h.2.1 hb zr,h.2.2.trans (aa hb (by have:=h.2.2.size;omega))⟩) (λv w w' h hb=>aT h hb zr) (λw1 w2 h hb=>⟨ag h.1 hb,h.2.trans (aa hb (by have:=h.2.size;omega))⟩)
    ⟨ag hH (zb wr).drew,aT hO (zb wr).drew zr,hB.trans (aa (Below.refl wr.heap.size wr).drew (by omega))⟩ ⟨rfl,trivial⟩ ?_ ?_ ?_ ?_ ?_
   · refine⟨iU rfl rfl (by kernel_rfl),iU rfl rfl (by kernel_rfl),ic rfl (by kernel_rfl) rfl rfl,gQ rfl (by kernel_rfl) rfl rfl (λw=>by simp[go_sem]),dV rfl (by kernel_rfl) rfl rfl (λw hS=>by have c1:=(af hS.1 0).trans rfl;simp[go_sem,c1]),?_,?_,trivial⟩
     · exact uS rfl vee (by kernel_rfl) rfl rfl λv w _ hv=>by
        subst hv;refine(ve6 w).mono ?_;rintro e w' ⟨rfl,rfl⟩;exact⟨_,rfl,rfl,zb _⟩
     · refine rQ [(.tmp 24,.eq (str z))] (by kernel_rfl) rfl rfl (λa w Q hS hi next hnx=>?_)
       have h1:a.eval (.tmp 24)=str z:=hi (.tmp 24,.eq (str z)) (by simp);have hrun:(Instr.buildSlice 31 1 #[(0,str z)]).run Tryz.prog w=.ok (.slice (some ⟨w.heap.size,0,none⟩) 1 1) (w.alloc (.cells #[str z] 9)):=by
        simp[go_sem]
       refine tC rfl h1 hrun ?_;exact hnx _ _ (λw' hb=>⟨_,rfl,(hb.block _ (aj (heap_alloc_new w _))).trans (heap_alloc_new w _)⟩) ((zb w).alloc zr _)
   · refine⟨⟨_,rfl,_,.tmp 4,_,rfl,rfl,λev w h=>by unfold execOp;simp[h,go_sem]⟩,⟨_,rfl,_,.tmp 19,_,rfl,rfl,λev w h=>by unfold execOp;simp[h,go_sem]⟩,⟨_,rfl,_,.tmp 27,_,rfl,rfl,λev w h=>by unfold execOp;simp[h,go_sem]⟩,trivial⟩
   · intro IQ w2 hS hV next hn2
     have e1:IQ.eval (.tmp 23)=vd:=hV 4 _ 23 (by decide) (by decide) rfl rfl;obtain⟨g,e2,hg⟩:=hV 6 _ 25 (by decide) (by decide) rfl rfl w2 (zb _);have hBw:M≤w2.heap.size:=by have:=aj hS.1;omega
     obtain⟨v',w',hr,h2,h3,h4⟩:=eG (P:=Tryz.prog) w2 M 31 31 9 i0 _ 1 16 (by kernel_rfl) kN hz0 hz1 hz2 (by kernel_rfl) (by decide) vd k _ hS.2.1 ⟨g,0,none⟩ 1 1 [str z] rfl (λj u hj=>by
      rw[eH];refine(af hg (0+j)).trans ?_
      simpa using hj) (λv hv=>by
      obtain rfl:=List.mem_singleton.1 hv
      rfl) (by decide) (by unfold maxLen;omega) (by omega) hBw
     rw[vc4] at h2;have veq:∀r,vd.ownBlock=some r→M≤r∧r≠M:=λr hr=>by
      obtain⟨k1,cur,k2⟩:=vao hS.2.1 hr;exact⟨k1,vbb (by decide) k2 hS.1⟩
     exact mU rfl e1 e2 hr (hn2 _ _ h2 ⟨(h3.block M (aj hS.1) λe=>(veq M e.symm).2 rfl).trans hS.1,hS.2.2.grown h3 hBw λr hr=>(veq r hr).1⟩)
   · intro IQ w2 hS PD Ft next hn2
     have h1:=PD 26 rfl;have e2:IQ.eval (.tmp 28)=.pointer (some ⟨M,0,none⟩):=Ft 9 _ 28 rfl rfl;generalize e1:IQ.eval (.tmp 26)=nv at h1;obtain⟨q,cq,rfl⟩:=aJ h1;have c1:w2.cell? ⟨M,0,none⟩=some vd∧w2.frozen? ⟨M,0,none⟩=false:=⟨(af hS.1 0).trans rfl,au hS.1 0⟩;have hst:(Instr.storeAt 31 (.pointer (some ⟨M,0,none⟩)) (.slice q (k+1) cq)).run Tryz.prog w2=.ok () (w2.setCell ⟨M,0,none⟩ (.slice q (k+1) cq)):=by simp[go_sem,c1]
     refine aY rfl e2 e1 hst (hn2 _ _ ⟨_,heap_setCell_same w2 M 0 _ _ _ hS.1,?_,hS.2.setCell (p:=⟨M,0,none⟩) zr _⟩);refine aG h1 λg hg=>heap_setCell_other w2 ⟨M,0,none⟩ g _ ?_
     obtain⟨_,cur,k2⟩:=vao h1 hg;exact vbb (by decide) k2 hS.1
   · rintro IQ w2 ⟨ve9,h1,h2,h3⟩
     simp only[pq,pz,pw];have hk1:(k:Int)+1≤9223372036854775807:=by omega
     go_wp2_with fail;exact⟨⟨k+1,ve9,hlt,by go_num,h1,h2,h3⟩,by simp only[intOf];omega⟩
structure vas (S:dc) (c:Nat):Prop where
 now:S.now=lJ S S.pend.length
 pl:S.pend.length≤c
 lo: -(c:Int)≤S.calls
 hi:S.calls≤9223372036854775807
 ends:S.ends=true→0≤S.calls
theorem vas.mono {S:dc} {c d:Nat} (h:vas S c) (hd:c≤d):vas S d:=⟨h.now,by have:=h.pl;omega,by have:=h.lo;omega,h.hi,h.ends⟩
theorem vas.pow {S:dc} {c:Nat} (h:vas S c):vas (gh S) (c+1):=by
 have h1:=h.pl
 have h2:=h.lo
 have h3:=h.hi
 have h4:=h.ends
 unfold gh
 by_cases he:S.ends=true∧S.calls=0
 · rw[if_pos he]
   exact⟨h.now,by dsimp only;omega,by dsimp only;omega,h3,h4⟩
 · rw[if_neg he]
   refine⟨h.now,by dsimp only;omega,by dsimp only;omega,by dsimp only;omega,λhE=>?_⟩;dsimp only at hE ⊢;have:=h4 hE;have:S.calls≠0:=λh0=>he ⟨hE,h0⟩
   omega
def vam (S:dc) (i:Int) (bs:List UInt8):Nat:=if FB S i≠0 then FB S i else if 64<bs.length then 2 else if zg S=true then 0 else 190
def vah (S:dc) (i:Int) (bs:List UInt8):dc:=if FB S i≠0∨64<bs.length then S else if zg S=true then {gh S with now:=mO (gh S).now i.toNat (jV bs),pend:=(gh S).pend++[(i.toNat,jV bs)] } else gh S
def vap (S:dc):Nat:=if S.down=true then 190 else if zg S=true then 0 else 190
def vak (S:dc):dc:=if S.down=true then S else if zg S=true then {gh S with iY:=lJ (gh S) S.pend.length,pend:=[] } else gh S
theorem vas.write {S:dc} {c:Nat} (h:vas S c) (i:Int) (bs:List UInt8):vas (vah S i bs) (c+1):=by
 unfold vah
 split
 · exact h.mono (by omega)
 · split
   · have hp:=h.pow
     have Pk:(gh S).pend=S.pend:=by unfold gh;split<;>rfl
     have hl:=h.pl;generalize gh S=PS at *;refine⟨?_,by dsimp only;rw[List.length_append,Pk];simp;omega,hp.lo,hp.hi,hp.ends⟩;dsimp only;rw[List.length_append];refine Eq.trans ?_ (A2 (x:=(i.toNat,jV bs)) (by simp)).symm;dsimp only
     congr 1
     rw[hp.now];unfold lJ;simp
   · exact h.pow
theorem vas.flush {S:dc} {c:Nat} (h:vas S c):vas (vak S) (c+1):=by
 unfold vak
 split
 · exact h.mono (by omega)
 · split
   · have hp:=h.pow
     have Pk:(gh S).pend=S.pend:=by unfold gh;split<;>rfl
     generalize gh S=PS at *;refine⟨?_,Nat.zero_le _,hp.lo,hp.hi,hp.ends⟩;dsimp only;rw[←Pk,←hp.now]
     rfl
   · exact h.pow
theorem vas.stop {S:dc} {c:Nat} (h:vas S c) (n:Int) (hn:n≤9223372036854775807):vas (vaq S n) (c+1):=by
 unfold vaq
 split
 · exact h.mono (by omega)
 · rename_i hx
   have h0:¬n<0:=λh=>hx (.inr h)
   exact⟨h.now,by have:=h.pl;dsimp only;omega,by dsimp only;omega,hn,λ_=>by dsimp only;omega⟩
section
variable {B a b1 b2 m c:Nat} {pv vd vfc:Value} {S:dc} {D:Nat→Prop}
theorem vbt (w:World) (h:bw B w a b1 b2 pv S) (hI:vas S c) (hc:c≤1000) (i:Int) (v:Value) (bs:List UInt8) (hv:CV D w v (aH bs)) (hD:∀b,D b→b<B):
 Calls Tryz.prog 43 #[.pointer (some ⟨a,0,none⟩),.int .i64 i,v] w λe w'=>e=.returned (.int .i64 (vam S i bs))∧(∃GM,bw B w' a b1 b2 GM (vah S i bs))∧KD (λ_=>False) B w w':=by
 have Fs: -9223372036854775807≤S.calls∧S.calls≤9223372036854775807:=⟨by have:=hI.lo;omega,hI.hi⟩
 obtain⟨p,cv,rfl,U7,U8⟩:=hv.shape
 by_cases h1:FB S i=0
 · obtain⟨k,rfl⟩:∃k:Nat,i=(k:Int):=⟨i.toNat,by have:=vb2 h1;omega⟩
   by_cases h2:64<bs.length
   · have e1:vam S k bs=2:=by unfold vam;rw[if_neg (by simp[h1]),if_pos h2]
     have e2:vah S k bs=S:=by unfold vah;rw[if_pos (.inr h2)]
     rw[e1,e2];refine(vc6 w h k h1 p _ cv (by rw[ak];exact h2)).mono ?_;rintro e w' ⟨rfl,rfl⟩;exact⟨rfl,⟨pv,h⟩,KD.refl _ _ _⟩
   · have vbi:¬(FB S k≠0∨64<bs.length):=λhx=>hx.elim (λh=>h h1) h2
     rcases hp:zg S with _|_
     · have e1:vam S k bs=190:=by unfold vam;rw[if_neg (by simp[h1]),if_neg h2,hp];rfl
       have e2:vah S k bs=gh S:=by unfold vah;rw[if_neg vbi,hp];rfl
       rw[e1,e2];refine(vcw (X:=λ_=>False) w h id Fs k h1 hp p _ cv (by rw[ak];omega)).mono ?_;rintro e w' ⟨rfl,h3,h4⟩;exact⟨rfl,⟨pv,h3⟩,h4⟩
     · have e1:vam S k bs=0:=by unfold vam;rw[if_neg (by simp[h1]),if_neg h2,hp];rfl
       have e2:vah S k bs={gh S with now:=mO (gh S).now k (jV bs),pend:=(gh S).pend++[(k,jV bs)] }:=by unfold vah;rw[if_neg vbi,hp];rfl
       rw[e1,e2];refine(zQ (X:=λ_=>False) w h k _ bs hv Fs h1 (by omega) hp (λb hb e=>by have:=hD b hb;have:=h.hB.1;omega) (λb hb=>hb.elim) (by have:=hI.pl;omega)).mono ?_;rintro e w' ⟨rfl,h3,h4⟩;exact⟨rfl,h3,h4⟩
 · have e1:vam S i bs=FB S i:=by unfold vam;rw[if_pos h1]
   have e2:vah S i bs=S:=by unfold vah;rw[if_pos (.inl h1)]
   rw[e1,e2];refine(vcv w h i h1 p _ cv).mono ?_;rintro e w' ⟨rfl,rfl⟩;exact⟨rfl,⟨pv,h⟩,KD.refl _ _ _⟩
theorem vc1 (w:World) (h:vag B w m vd vfc S) (hI:vas S c) (hc:c≤1000) (i:Int) (bs:List UInt8):
 Calls Tryz.prog 68 #[.pointer (some ⟨m,0,none⟩),.int .i64 i,str bs] w λe w'=>e=.returned (.int .i64 (vam S i bs))∧(∃vdk,vag B w' m vd vdk (vah S i bs))∧vf7 B w w':=by
 have Fs:S.ends=true→0≤S.calls∧S.calls≤9223372036854775807:=λh=>⟨hI.ends h,hI.hi⟩
 by_cases h1:FB S i=0
 · obtain⟨k,rfl⟩:∃k:Nat,i=(k:Int):=⟨i.toNat,by have:=vb2 h1;omega⟩
   by_cases h2:64<bs.length
   · have e1:vam S k bs=2:=by unfold vam;rw[if_neg (by simp[h1]),if_pos h2]
     have e2:vah S k bs=S:=by unfold vah;rw[if_pos (.inr h2)]
     rw[e1,e2];refine(vbo w h k h1 bs h2).mono ?_;rintro e w' ⟨rfl,rfl⟩;exact⟨rfl,⟨vfc,h⟩,vf7.refl _ _⟩
   · have vbi:¬(FB S k≠0∨64<bs.length):=λhx=>hx.elim (λh=>h h1) h2
     rcases hp:zg S with _|_
     · have e1:vam S k bs=190:=by unfold vam;rw[if_neg (by simp[h1]),if_neg h2,hp];rfl
       have e2:vah S k bs=gh S:=by unfold vah;rw[if_neg vbi,hp];rfl
       rw[e1,e2];refine(vc3 w h Fs k h1 bs (by omega) hp).mono ?_;rintro e w' ⟨rfl,h3,h4⟩;exact⟨rfl,⟨vfc,h3⟩,h4⟩
     · have e1:vam S k bs=0:=by unfold vam;rw[if_neg (by simp[h1]),if_neg h2,hp];rfl
       have e2:vah S k bs={gh S with now:=mO (gh S).now k (jV bs),pend:=(gh S).pend++[(k,jV bs)] }:=by unfold vah;rw[if_neg vbi,hp];rfl
       rw[e1,e2];exact vbn w h Fs k h1 bs (by omega) hp (by have:=hI.pl;omega)
 · have e1:vam S i bs=FB S i:=by unfold vam;rw[if_pos h1]
   have e2:vah S i bs=S:=by unfold vah;rw[if_pos (.inl h1)]
   rw[e1,e2];refine(vc2 w h i h1 bs).mono ?_;rintro e w' ⟨rfl,rfl⟩;exact⟨rfl,⟨vfc,h⟩,vf7.refl _ _⟩
theorem vbs (w:World) (h:bw B w a b1 b2 pv S) (hI:vas S c) (hc:c≤1000):
 Calls Tryz.prog 44 #[.pointer (some ⟨a,0,none⟩)] w λe w'=>e=.returned (.int .i64 (vap S))∧(∃GM,bw B w' a b1 b2 GM (vak S))∧KD (λ_=>False) B w w':=by
 have Fs: -9223372036854775807≤S.calls∧S.calls≤9223372036854775807:=⟨by have:=hI.lo;omega,hI.hi⟩
 rcases hd:S.down with _|_
 · have hu:=vc9 h.hn.1 hd
   rcases hp:zg S with _|_
   · have e1:vap S=190:=by unfold vap;rw[hd,hp];rfl
     have e2:vak S=gh S:=by unfold vak;rw[hd,hp];rfl
     rw[e1,e2];refine(vcl (X:=λ_=>False) w h id Fs hu hp).mono ?_;rintro e w' ⟨rfl,h3,h4⟩;exact⟨rfl,⟨pv,h3⟩,h4⟩
   · have e1:vap S=0:=by unfold vap;rw[hd,hp];rfl
     have e2:vak S={gh S with iY:=lJ (gh S) S.pend.length,pend:=[] }:=by unfold vak;rw[hd,hp];rfl
     rw[e1,e2];refine(yj (X:=λ_=>False) w h Fs hu hp (by have:=hI.pl;omega) (λb hb=>hb.elim)).mono ?_;rintro e w' ⟨rfl,h3,h4⟩;exact⟨rfl,⟨_,h3⟩,h4⟩
 · have e1:vap S=190:=by unfold vap;rw[hd];rfl
   have e2:vak S=S:=by unfold vak;rw[hd];rfl
   rw[e1,e2];refine(vck w h hd).mono ?_;rintro e w' ⟨rfl,rfl⟩;exact⟨rfl,⟨pv,h⟩,KD.refl _ _ _⟩
theorem vby (w:World) (h:vag B w m vd vfc S) (hI:vas S c) (hc:c≤1000):
 Calls Tryz.prog 69 #[.pointer (some ⟨m,0,none⟩)] w λe w'=>e=.returned (.int .i64 (vap S))∧(∃vdk,vag B w' m vd vdk (vak S))∧vf7 B w w':=by
 have Fs:S.ends=true→0≤S.calls∧S.calls≤9223372036854775807:=λh=>⟨hI.ends h,hI.hi⟩
 rcases hd:S.down with _|_
 · rcases hp:zg S with _|_
   · have e1:vap S=190:=by unfold vap;rw[hd,hp];rfl
     have e2:vak S=gh S:=by unfold vak;rw[hd,hp];rfl
     rw[e1,e2];refine(vc0 w h Fs hd hp).mono ?_;rintro e w' ⟨rfl,h3,h4⟩;exact⟨rfl,⟨vfc,h3⟩,h4⟩
   · have e1:vap S=0:=by unfold vap;rw[hd,hp];rfl
     have e2:vak S={gh S with iY:=lJ (gh S) S.pend.length,pend:=[] }:=by unfold vak;rw[hd,hp];rfl
     rw[e1,e2];refine(vbm w h Fs hd hp (by have:=hI.pl;omega)).mono ?_;rintro e w' ⟨rfl,h3,h4⟩;exact⟨rfl,⟨_,h3⟩,h4⟩
 · have e1:vap S=190:=by unfold vap;rw[hd];rfl
   have e2:vak S=S:=by unfold vak;rw[hd];rfl
   rw[e1,e2];refine(vbz w h hd).mono ?_;rintro e w' ⟨rfl,rfl⟩;exact⟨rfl,⟨vfc,h⟩,vf7.refl _ _⟩
def vax (S:dc) (i:Int):List UInt8:=if FB S i=0 then van S.now i.toNat else []
theorem vcg (w:World) (h:bw B w a b1 b2 pv S) (i:Int):
 Calls Tryz.prog 42 #[.pointer (some ⟨a,0,none⟩),.int .i64 i] w λe w'=>(∃v,e=.returned (.tuple #[v,.int .i64 (FB S i)])∧CV (λ_=>True) w' v (aH (vax S i)))∧Below w.heap.size w w':=by
 by_cases h1:FB S i=0
 · obtain⟨k,rfl⟩:∃k:Nat,i=(k:Int):=⟨i.toNat,by have:=vb2 h1;omega⟩
   have e1:vax S k=van S.now k:=by unfold vax;rw[if_pos h1];rfl
   have hl:=vb5 h.ln (i:=k) (by have:=vb2 h1;omega);rw[e1,h1];refine(vch w h k h1).mono ?_;rintro e w' ⟨⟨v,rfl,ho⟩,hb⟩;refine⟨⟨v,rfl,?_⟩,hb⟩;have KB:w'.ownsRow w.heap.size 5 1 v (aH (van S.now k)).length (aH (van S.now k)):=by rw[ak,hl];exact ho
   exact CV.eZ KB λ_ _=>trivial
 · have e1:vax S i=[]:=by unfold vax;rw[if_neg h1]
   rw[e1];refine(vci w h i h1).mono ?_;rintro e w' ⟨rfl,rfl⟩;exact⟨⟨_,rfl,CV.nil _ _ _ _⟩,zb _⟩
theorem vco (w:World) (h:vag B w m vd vfc S) (hI:vas S c) (hc:c≤1000) (i:Int):
 Calls Tryz.prog 67 #[.pointer (some ⟨m,0,none⟩),.int .i64 i] w λe w'=>e=.returned (.tuple #[str (vax S i),.int .i64 (FB S i)])∧w'=w:=by
 by_cases h1:FB S i=0
 · obtain⟨k,rfl⟩:∃k:Nat,i=(k:Int):=⟨i.toNat,by have:=vb2 h1;omega⟩
   have e1:vax S k=van S.now k:=by unfold vax;rw[if_pos h1];rfl
   rw[e1,h1];exact vcp w h k h1 hI.now (by have:=hI.pl;omega)
 · have e1:vax S i=[]:=by unfold vax;rw[if_neg h1]
   rw[e1];exact vcq w h i h1
end
