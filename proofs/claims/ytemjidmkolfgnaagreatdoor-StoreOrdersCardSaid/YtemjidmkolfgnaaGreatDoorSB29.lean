/-
  Lemmas for the statement: a disk in memory. Conditions: bounds of lengths; the variable strings.asciiSpace.
-/
import Derived.Laws.CopyOwn
import Derived.Test.YtemjidmkolfgnaaGreatDoorSBn
import Derived.Test.YtemjidmkolfgnaaGreatDoorSB16
namespace Go.Proofs.YtemjidmkolfgnaaGreatDoor
open Go Go.RowKit
theorem lG {w:World} {b:Nat} {a0 a1 a2 a3 a4 a5:Value} {t:TypeId} (h:w.heap[b]? =some (.cells #[a0,a1,a2,a3,a4,a5] t (0,0))):
 (w.cell? ⟨b,0,none⟩=some a0∧w.cell? ⟨b,1,none⟩=some a1∧w.cell? ⟨b,2,none⟩=some a2∧w.cell? ⟨b,3,none⟩=some a3∧w.cell? ⟨b,4,none⟩=some a4∧w.cell? ⟨b,5,none⟩=some a5)∧
 w.frozen? ⟨b,0,none⟩=false∧w.frozen? ⟨b,1,none⟩=false∧w.frozen? ⟨b,2,none⟩=false∧w.frozen? ⟨b,3,none⟩=false∧w.frozen? ⟨b,4,none⟩=false∧w.frozen? ⟨b,5,none⟩=false:=
 ⟨⟨(af h 0).trans rfl,(af h 1).trans rfl,(af h 2).trans rfl,(af h 3).trans rfl,(af h 4).trans rfl,(af h 5).trans rfl⟩,au h 0,au h 1,au h 2,au h 3,au h 4,au h 5⟩
structure dc where
 n:Nat
 iY:List UInt8
 now:List UInt8
 pend:List (Nat×List UInt8)
 ends:Bool
 down:Bool
 calls:Int
 nc:Nat
 sl:List Value
def jW (l:List (Nat×List UInt8)):List Value:=l.flatMap λx=>.int .i64 (x.1:Int)::aH x.2
def va0 (S:dc):List Value:=aH S.now++S.sl
def zZ (b1 b2:Nat) (pv:Value) (S:dc):Array Value:= #[.slice (some ⟨b1,0,none⟩) S.n S.n,.slice (some ⟨b2,0,none⟩) S.n S.nc,pv,.bool S.ends,.bool S.down,.int .i64 S.calls]
structure bw (B:Nat) (w:World) (a b1 b2:Nat) (pv:Value) (S:dc):Prop where
 head:w.heap[a]? =some (.cells (zZ b1 b2 pv S) 133 (0,0))
 iY:w.heap[b1]? =some (.cells (aH S.iY).toArray 145 (0,0))
 now:w.heap[b2]? =some (.cells (va0 S).toArray 145 (0,0))
 ne:b1≠b2
 ld:S.iY.length=S.n * 64
 ln:S.now.length=S.n * 64
 pend:w.ownsRow B 147 65 pv S.pend.length (jW S.pend)
 pl:∀x∈S.pend,x.1<S.n∧x.2.length=64
 hn:64≤S.n∧S.n≤65536
 hB:B≤a∧B≤b1∧B≤b2
theorem bw.parts {B:Nat} {w:World} {a b1 b2:Nat} {pv:Value} {S:dc} (h:bw B w a b1 b2 pv S):a≠b1∧a≠b2∧(∀g,pv.ownBlock=some g→g≠a∧g≠b1∧g≠b2):=by
 have key:∀{x y:Nat} {cs ds:Array Value} {t u:TypeId},t≠u→w.heap[x]? =some (.cells cs t (0,0))→w.heap[y]? =some (.cells ds u (0,0))→x≠y:=λht h1 h2 e=>by
  subst e;rw[h1] at h2;injection h2 with h2;injection h2 with _ h3 _;exact ht h3
 refine⟨key (by decide) h.head h.iY,key (by decide) h.head h.now,λg hg=>?_⟩
 rcases h.pend.2 with⟨e,_⟩|⟨g',cap,cur,e,_,tZ,_⟩
 · rw[e] at hg;cases hg
 · rw[e] at hg
   simp only[Value.ownBlock,Option.some.injEq] at hg;subst hg;exact⟨key (by decide) tZ h.head,key (by decide) tZ h.iY,key (by decide) tZ h.now⟩
theorem bw.agree {B:Nat} {w w':World} {a b1 b2:Nat} {pv:Value} {S:dc} (h:bw B w a b1 b2 pv S) (hk:∀b,(b=a∨b=b1∨b=b2∨pv.ownBlock=some b)→w'.heap[b]? =w.heap[b]?):bw B w' a b1 b2 pv S:=
 ⟨(hk a (.inl rfl)).trans h.head,(hk b1 (.inr (.inl rfl))).trans h.iY,(hk b2 (.inr (.inr (.inl rfl)))).trans h.now,h.ne,h.ld,h.ln,aG h.pend λb hb=>hk b (.inr (.inr (.inr hb))),h.pl,h.hn,h.hB⟩
theorem bw.lt {B:Nat} {w:World} {a b1 b2:Nat} {pv:Value} {S:dc} (h:bw B w a b1 b2 pv S) {b:Nat} (hb:b=a∨b=b1∨b=b2∨pv.ownBlock=some b):B≤b∧b<w.heap.size:=by
 rcases hb with rfl|rfl|rfl|hb
 · exact⟨h.hB.1,aj h.head⟩
 · exact⟨h.hB.2.1,aj h.iY⟩
 · exact⟨h.hB.2.2,aj h.now⟩
 · exact h.pend.lt b hb
theorem bw.below {B K:Nat} {w w':World} {a b1 b2:Nat} {pv:Value} {S:dc} (h:bw B w a b1 b2 pv S) (hb:Below K w w') (hK:w.heap.size≤K):bw B w' a b1 b2 pv S:=
 h.agree λb hx=>hb.block b (by have:=(h.lt hx).2;omega)
theorem bw.put {B:Nat} {w:World} {a b1 b2:Nat} {pv:Value} {S S':dc} (h:bw B w a b1 b2 pv S) (k:Nat) (u:Value) (hu:(zZ b1 b2 pv S).setIfInBounds k u=zZ b1 b2 pv S') (h1:S'.n=S.n) (h2:S'.iY=S.iY) (h3:S'.now=S.now) (h4:S'.pend=S.pend) (h5:S'.sl=S.sl:=by rfl):bw B (w.setCell ⟨a,k,none⟩ u) a b1 b2 pv S':=by
 obtain⟨p1,p2,p3⟩:=h.parts
 have ho:∀b,b≠a→(w.setCell ⟨a,k,none⟩ u).heap[b]? =w.heap[b]? :=λb hb=>heap_setCell_other w ⟨a,k,none⟩ b u hb
 refine⟨?_,?_,?_,h.ne,by rw[h1,h2];exact h.ld,by rw[h1,h3];exact h.ln,?_,by rw[h4,h1];exact h.pl,by rw[h1];exact h.hn,h.hB⟩
 · rw[←hu]
   exact heap_setCell_same w a k _ _ u h.head
 · rw[ho b1 (λe=>p1 e.symm),h2];exact h.iY
 · rw[ho b2 (λe=>p2 e.symm)];unfold va0;rw[h3,h5];exact h.now
 · rw[h4]
   exact aG h.pend λg hg=>ho g (p3 g hg).1
def vG (x:Obj):Prop:=∀cs t fl,x=.cells cs t fl→t≠133∧t≠145∧t≠147
structure KD (X:Nat→Prop) (B:Nat) (w w':World):Prop where
 cV:Below B w w'
 keep:∀(b:Nat) (x:Obj),w.heap[b]? =some x→(vG x∨X b)→w'.heap[b]? =some x
theorem KD.refl (X:Nat→Prop) (B:Nat) (w:World):KD X B w w:=⟨zb _,λ_ _ h _=>h⟩
theorem KD.trans {X:Nat→Prop} {B:Nat} {a b c:World} (h:KD X B a b) (h':KD X B b c):KD X B a c:=⟨h.cV.trans h'.cV,λx o e ho=>h'.keep x o (h.keep x o e ho) ho⟩
theorem KD.ai {X:Nat→Prop} {B K:Nat} {a b:World} (h:Below K a b) (hK:a.heap.size≤K) (hB:B≤K):KD X B a b:=⟨aa h hB,λx o e _=>(h.block x (by have:=aj e;omega)).trans e⟩
theorem KD.put {X:Nat→Prop} {B:Nat} {a b:World} (h:KD X B a b) {g k:Nat} {cs:Array Value} {t:TypeId} (hg:b.heap[g]? =some (.cells cs t (0,0))) (ht:t=133∨t=145∨t=147) (hB:B≤g) (hx:¬X g) (u:Value):KD X B a (b.setCell ⟨g,k,none⟩ u):=
 ⟨h.cV.setCell (p := ⟨g, k, none⟩) hB u, fun x o e ho => by
  have e2:=h.keep x o e ho;refine(heap_setCell_other b ⟨g,k,none⟩ x u λe3=>?_).trans e2;subst e3;rw[hg] at e2;cases e2;have:=(ho.resolve_right hx) _ _ _ rfl;rcases ht with h|h|h
  · exact this.1 h
  · exact this.2.1 h
  · exact this.2.2 h⟩
theorem KD.row {X:Nat→Prop} {B:Nat} {a b:World} (h:KD X B a b) {g:Nat} {cs:Array Value} {t:TypeId} (hg:b.heap[g]? =some (.cells cs t (0,0))) (ht:t=133∨t=145∨t=147) (hB:B≤g) (hx:¬X g) (ds:Array Value):KD X B a (b.setRow g ds):=
 ⟨below_setRow h.cV hB ds, fun x o e ho => by
  have e2:=h.keep x o e ho;refine(setRow_other b g x ds λe3=>?_).trans e2;subst e3;rw[hg] at e2;cases e2;have:=(ho.resolve_right hx) _ _ _ rfl;rcases ht with h|h|h
  · exact this.1 h
  · exact this.2.1 h
  · exact this.2.2 h⟩
theorem KD.grown {X:Nat→Prop} {B:Nat} {a b c:World} {row:Option Nat} (h:KD X B a b) (hg:b.grownBy c row) (hB:B≤b.heap.size) (hr:∀r,row=some r→B≤r∧¬X r∧∃cs,b.heap[r]? =some (.cells cs 147 (0,0))):KD X B a c:=
 ⟨h.cV.grown hg hB fun r e => (hr r e).1, fun x o e ho => by
  have e2:=h.keep x o e ho;refine(hg.block x (aj e2) λe3=>?_).trans e2;obtain⟨_,hx,cs,hc⟩:=hr x e3.symm;rw[hc] at e2;cases e2;exact((ho.resolve_right hx) _ _ _ rfl).2.2 rfl⟩
def mO (l:List UInt8) (i:Nat) (s:List UInt8):List UInt8:=l.take (i * 64)++s++l.drop (i * 64+64)
theorem xo {l:List UInt8} {i n:Nat} {s:List UInt8} (hl:l.length=n * 64) (hi:i<n) (hs:s.length=64):(mO l i s).length=n * 64:=by
 unfold mO
 simp[hl,hs]
 omega
theorem qF (l:List UInt8) (i:Nat) (s:List UInt8) (hs:s.length=64):((aH l).take (i * 64)++aH s++(aH l).drop (i * 64+(aH s).length))=aH (mO l i s):=by
 rw[ak,hs]
 unfold mO aH
 simp
theorem va2 {S:dc} {i:Nat} {s:List UInt8} (hs:s.length=64) (hi:i<S.n) (hl:S.now.length=S.n * 64):(va0 S).take (i * 64)++aH s++(va0 S).drop (i * 64+64)=va0 {S with now:=mO S.now i s }:=by
 unfold va0
 rw[List.take_append_of_le_length (by rw[ak];omega),List.drop_append_of_le_length (by rw[ak];omega),←qF S.now i s hs,ak,hs]
 simp
theorem bw.J2 {B:Nat} {w:World} {a b1 b2:Nat} {pv:Value} {S S':dc} (h:bw B w a b1 b2 pv S) (hS:S'={S with now:=S'.now }) (hl:S'.now.length=S.n * 64):bw B (w.setRow b2 (va0 S').toArray) a b1 b2 pv S':=by
 obtain⟨p1,p2,p3⟩:=h.parts
 have ho:∀b,b≠b2→(w.setRow b2 (va0 S').toArray).heap[b]? =w.heap[b]? :=λb hb=>setRow_other w b2 b _ hb
 have e1:S'.n=S.n:=by rw[hS]
 have e2:S'.iY=S.iY:=by rw[hS]
 have e3:S'.pend=S.pend:=by rw[hS]
 have e4:zZ b1 b2 pv S'=zZ b1 b2 pv S:=by rw[hS];rfl
 exact⟨by rw[e4];exact(ho a p2).trans h.head,by rw[e2];exact(ho b1 h.ne).trans h.iY,setRow_heap w b2 _ _ _ _ h.now,h.ne,by rw[e2,e1];exact h.ld,by rw[e1];exact hl,by rw[e3];exact aG h.pend λg hg=>ho g (p3 g hg).2.2,by rw[e3,e1];exact h.pl,by rw[e1];exact h.hn,h.hB⟩
set_option maxRecDepth 4000 in
theorem qX (n lo hi:Int) (w:World):Calls Tryz.prog 65 #[.int .i64 n,.int .i64 lo,.int .i64 hi] w λe w'=>e=.returned (.bool (decide (lo≤n)&&decide (n≤hi)))∧w'=w:=by
 by_cases h1:lo≤n
 · by_cases h2:n≤hi
   · have g1:decide (lo≤n)=true:=decide_eq_true h1
     have g2:decide (n≤hi)=true:=decide_eq_true h2;go_enter Tryz.func65,Tryz.ntmps65;go_wp2_with fail;go_ret;exact⟨by simp[h1,h2],rfl⟩
   · have g1:decide (lo≤n)=true:=decide_eq_true h1
     have g2:decide (n≤hi)=false:=decide_eq_false h2;go_enter Tryz.func65,Tryz.ntmps65;go_wp2_with fail;go_ret;exact⟨by simp,rfl⟩
 · have g1:decide (lo≤n)=false:=decide_eq_false h1
   go_enter Tryz.func65,Tryz.ntmps65;go_wp2_with fail;go_ret;exact⟨by simp,rfl⟩
theorem vH {B:Nat} {a b1 b2:Nat} {pv:Value} {S:dc} (w:World) (h:bw B w a b1 b2 pv S):Calls Tryz.prog 40 #[.pointer (some ⟨a,0,none⟩)] w λe w'=>e=.returned (.bool S.down)∧w'=w:=by
 have b:=lG h.head
 clear h
 go_enter Tryz.func40,Tryz.ntmps40
 go_wp2_with fail
 go_ret
 exact⟨rfl,rfl⟩
def FB (S:dc) (at_:Int):Nat:=if S.down=true then 190 else if 0≤at_∧at_≤(S.n:Int) - 1 then 0 else 1
set_option maxRecDepth 4000 in
theorem E9 {B:Nat} {a b1 b2:Nat} {pv:Value} {S:dc} (w:World) (h:bw B w a b1 b2 pv S) (i:Int):Calls Tryz.prog 81 #[.pointer (some ⟨a,0,none⟩),.int .i64 i] w λe w'=>e=.returned (.int .i64 (FB S i))∧w'=w:=by
 have b:=lG h.head
 have hn:=h.hn
 have HU:FB S i=if S.down=true then 190 else if 0≤i∧i≤(S.n:Int) - 1 then 0 else 1:=rfl
 generalize FB S i=U at *
 have HW:=λW=>qX i 0 ((S.n:Int) - 1) W
 obtain⟨n,iY,now,pend,ends,down,calls,nc,sl⟩:=S
 dsimp only at *
 clear h
 cases down with
 | true=>
  obtain rfl:U=190:=by simpa using HU
  clear HU HW;go_enter Tryz.func81,Tryz.ntmps81;go_wp2_with fail;go_ret;exact⟨rfl,rfl⟩
 | false=>
  have g1:(n:Int) - 1≤9223372036854775807:=by omega
  have g2: -9223372036854775808≤(n:Int) - 1:=by omega
  by_cases hi:0≤i∧i≤(n:Int) - 1
  · obtain rfl:U=0:=by simpa[hi] using HU
    rw[show(decide ((0:Int)≤i)&&decide (i≤(n:Int) - 1))=true by simp[hi]] at HW;clear HU hi;go_enter Tryz.func81,Tryz.ntmps81;go_wp2_with (go_at_call 65;refine(HW _).mono ?_;rintro e w1 ⟨rfl,rfl⟩);go_ret;exact⟨rfl,rfl⟩
  · obtain rfl:U=1:=by simpa[hi] using HU
    rw[show(decide ((0:Int)≤i)&&decide (i≤(n:Int) - 1))=false by simpa using hi] at HW;clear HU hi;go_enter Tryz.func81,Tryz.ntmps81;go_wp2_with (go_at_call 65;refine(HW _).mono ?_;rintro e w1 ⟨rfl,rfl⟩);go_ret;exact⟨rfl,rfl⟩
def gh (S:dc):dc:=if S.ends=true∧S.calls=0 then {S with down:=true } else {S with calls:=S.calls - 1 }
def zg (S:dc):Bool:=decide (¬(S.ends=true∧S.calls=0))
set_option maxRecDepth 4000 in
theorem sV {B:Nat} {a b1 b2:Nat} {pv:Value} {S:dc} (w:World) (h:bw B w a b1 b2 pv S) (hc: -9223372036854775807≤S.calls∧S.calls≤9223372036854775807):
 Calls Tryz.prog 87 #[.pointer (some ⟨a,0,none⟩)] w λe w'=>e=.returned (.bool (zg S))∧bw B w' a b1 b2 pv (gh S)∧(∃k u,w'=w.setCell ⟨a,k,none⟩ u):=by
 have b:=lG h.head
 have Og:=λhx:S.ends=true∧S.calls=0=>h.put (S':={S with down:=true }) 4 (.bool true) rfl rfl rfl rfl rfl
 have Oh:=h.put (S':={S with calls:=S.calls - 1 }) 5 (.int .i64 (S.calls - 1)) rfl rfl rfl rfl rfl
 have e1:gh S=if S.ends=true∧S.calls=0 then {S with down:=true } else {S with calls:=S.calls - 1 }:=rfl
 have e2:zg S=decide (¬(S.ends=true∧S.calls=0)):=rfl
 obtain⟨n,iY,now,pend,ends,down,calls,nc,sl⟩:=S
 generalize gh _=X at *
 generalize zg _=Y at *
 dsimp only at *
 have g1:calls - 1≤9223372036854775807:=by omega
 have g2: -9223372036854775808≤calls - 1:=by omega
 clear h
 cases ends with
 | false=>
  obtain rfl:X=_:=by simpa using e1
  obtain rfl:Y=true:=by simpa using e2
  clear e1 e2 Og hc;go_enter Tryz.func87,Tryz.ntmps87;go_wp2_with fail;go_ret;exact⟨rfl,Oh,5,_,rfl⟩
 | true=>
  by_cases h0:calls=0
  · subst h0
    obtain rfl:X=_:=by simpa using e1
    obtain rfl:Y=false:=by simpa using e2
    clear e1 e2 Oh hc;go_enter Tryz.func87,Tryz.ntmps87;go_wp2_with fail;go_ret;exact⟨rfl,Og ⟨trivial,trivial⟩,4,_,rfl⟩
  · have hq:(calls==0)=false:=by simp[h0]
    obtain rfl:X=_:=by simpa[h0] using e1
    obtain rfl:Y=true:=by simpa[h0] using e2
    clear e1 e2 Og hc;go_enter Tryz.func87,Tryz.ntmps87;go_wp2_with fail;go_ret;exact⟨rfl,Oh,5,_,rfl⟩
end Go.Proofs.YtemjidmkolfgnaaGreatDoor
