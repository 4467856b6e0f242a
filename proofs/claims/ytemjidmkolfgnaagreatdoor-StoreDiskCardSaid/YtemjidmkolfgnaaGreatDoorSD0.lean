/-
  Lemmas: contract of the package store: (*Disk).Read. Conditions: bounds of lengths; the variable strings.asciiSpace.
-/
import Derived.Test.YtemjidmkolfgnaaGreatDoorSB24
import Derived.Test.YtemjidmkolfgnaaGreatDoorSB26
import Derived.Test.YtemjidmkolfgnaaGreatDoorSB30
import Derived.Test.YtemjidmkolfgnaaGreatDoorSBn
set_option maxHeartbeats 6400000
set_option maxRecDepth 8000
namespace Go.Proofs.YtemjidmkolfgnaaGreatDoor
open Go Go.RowKit
theorem up_down {S:dc} (i:Int) (h:S.down=true):FB S i=190:=by simp[FB,h]
theorem vc9 {S:dc} (hn:64≤S.n) (h:S.down=false):FB S 0=0:=by
 unfold FB
 rw[if_neg (by simp[h]),if_pos ⟨Int.le_refl 0,by omega⟩]
theorem vb2 {S:dc} {i:Int} (h:FB S i=0):0≤i∧i≤(S.n:Int) - 1:=by
 unfold FB at h
 split at h
 · simp at h
 · split at h
   · assumption
   · simp at h
def vaw (S:dc) (c:Int):Nat:=if S.down=true then 190 else if c<0 then 1 else 0
def vaq (S:dc) (c:Int):dc:=if S.down=true∨c<0 then S else {S with ends:=true,calls:=c }
theorem vd7 {X:Nat→Prop} {B:Nat} {a b1 b2:Nat} {pv:Value} {S:dc} (w:World) (h:bw B w a b1 b2 pv S) (hX:¬X a) (c:Int):
 Calls Tryz.prog 37 #[.pointer (some ⟨a,0,none⟩),.int .i64 c] w λe w'=>e=.returned (.int .i64 (vaw S c))∧bw B w' a b1 b2 pv (vaq S c)∧KD X B w w':=by
 have HU:=E9 w h 0
 cases hd:S.down with
 | true=>
  rw[up_down 0 hd] at HU;have e1:vaw S c=190:=by simp[vaw,hd]
  have e2:vaq S c=S:=by simp[vaq,hd]
  rw[e1,e2];clear e1 e2 hd;go_enter Tryz.func37,Tryz.ntmps37;go_wp2_with (go_at_call 81;refine HU.mono ?_;clear HU;rintro e w1 ⟨rfl,he⟩;rw[he];clear he w1);go_ret;exact⟨rfl,h,KD.refl _ _ _⟩
 | false=>
  rw[vc9 h.hn.1 hd] at HU
  by_cases hc:c<0
  · have e1:vaw S c=1:=by simp[vaw,hd,hc]
    have e2:vaq S c=S:=by simp[vaq,hc]
    rw[e1,e2];clear e1 e2 hd;go_enter Tryz.func37,Tryz.ntmps37;go_wp2_with (go_at_call 81;refine HU.mono ?_;clear HU;rintro e w1 ⟨rfl,he⟩;rw[he];clear he w1);go_ret;exact⟨rfl,h,KD.refl _ _ _⟩
  · have e1:vaw S c=0:=by simp[vaw,hd,hc]
    have e2:vaq S c={S with ends:=true,calls:=c }:=by simp[vaq,hd,hc]
    rw[e1,e2];have h1:=h.put (S':={S with ends:=true }) 3 (.bool true) rfl rfl rfl rfl rfl;have h2:=h1.put (S':={S with ends:=true,calls:=c }) 5 (.int .i64 c) rfl rfl rfl rfl rfl;have k1:=(KD.refl X B w).put (k:=3) h.head (.inl rfl) h.hB.1 (λhx=>(hX hx)) (.bool true);have k2:=k1.put (k:=5) h1.head (.inl rfl) h.hB.1 (λhx=>(hX hx)) (.int .i64 c);have b:=lG h.head;clear e1 e2 hd;go_enter Tryz.func37,Tryz.ntmps37;go_wp2_with (go_at_call 81;refine HU.mono ?_;clear HU;rintro e w1 ⟨rfl,he⟩;rw[he];clear he w1);go_ret;exact⟨rfl,h2,k2⟩
def van (l:List UInt8) (i:Nat):List UInt8:=(l.drop (i * 64)).take 64
theorem vci {B:Nat} {a b1 b2:Nat} {pv:Value} {S:dc} (w:World) (h:bw B w a b1 b2 pv S) (i:Int) (hi:FB S i≠0):
 Calls Tryz.prog 42 #[.pointer (some ⟨a,0,none⟩),.int .i64 i] w λe w'=>e=.returned (.tuple #[.slice none 0 0,.int .i64 (FB S i)])∧w'=w:=by
 have HU:=E9 w h i
 have hq:((FB S i:Int)==0)=false:=by simp;exact hi
 clear h
 generalize FB S i=U at *
 go_enter Tryz.func42,Tryz.ntmps42
 go_wp2_with (go_at_call 81;refine HU.mono ?_;clear HU;rintro e w1 ⟨rfl,he⟩;rw[he];clear he w1)
 go_ret2
 exact⟨rfl,rfl⟩
theorem vcv {B:Nat} {a b1 b2:Nat} {pv:Value} {S:dc} (w:World) (h:bw B w a b1 b2 pv S) (i:Int) (hi:FB S i≠0) (p:Option Addr) (n c:Nat):
 Calls Tryz.prog 43 #[.pointer (some ⟨a,0,none⟩),.int .i64 i,.slice p n c] w λe w'=>e=.returned (.int .i64 (FB S i))∧w'=w:=by
 have HU:=E9 w h i
 have hq:((FB S i:Int)==0)=false:=by simp;exact hi
 clear h
 generalize FB S i=U at *
 go_enter Tryz.func43,Tryz.ntmps43
 go_wp2_with (go_at_call 81;refine HU.mono ?_;clear HU;rintro e w1 ⟨rfl,he⟩;rw[he];clear he w1)
 go_ret
 exact⟨rfl,rfl⟩
theorem vc6 {B:Nat} {a b1 b2:Nat} {pv:Value} {S:dc} (w:World) (h:bw B w a b1 b2 pv S) (i:Int) (hi:FB S i=0) (p:Option Addr) (n c:Nat) (hl:64<n):
 Calls Tryz.prog 43 #[.pointer (some ⟨a,0,none⟩),.int .i64 i,.slice p n c] w λe w'=>e=.returned (.int .i64 2)∧w'=w:=by
 have HU:=E9 w h i
 rw[hi] at HU
 have hq:(64:Int)<n:=by omega
 clear h hi
 go_enter Tryz.func43,Tryz.ntmps43
 go_wp2_with (go_at_call 81;refine HU.mono ?_;clear HU;rintro e w1 ⟨rfl,he⟩;rw[he];clear he w1)
 go_ret
 exact⟨rfl,rfl⟩
theorem vcw {X:Nat→Prop} {B:Nat} {a b1 b2:Nat} {pv:Value} {S:dc} (w:World) (h:bw B w a b1 b2 pv S) (hX:¬X a) (hc: -9223372036854775807≤S.calls∧S.calls≤9223372036854775807) (i:Int) (hi:FB S i=0) (hp:zg S=false) (p:Option Addr) (n c:Nat) (hl:n≤64):
 Calls Tryz.prog 43 #[.pointer (some ⟨a,0,none⟩),.int .i64 i,.slice p n c] w λe w'=>e=.returned (.int .i64 190)∧bw B w' a b1 b2 pv (gh S)∧KD X B w w':=by
 have HU:=E9 w h i
 have HP:=sV w h hc
 rw[hi] at HU
 rw[hp] at HP
 have hq:¬(64:Int)<n:=by omega
 clear hi hp hc
 go_enter Tryz.func43,Tryz.ntmps43
 go_wp2_with (first
  | (go_at_call 87;refine HP.mono ?_;clear HP;rintro e w1 ⟨rfl,Fk,k,u,rfl⟩)
  | (go_at_call 81;refine HU.mono ?_;clear HU;rintro e w1 ⟨rfl,he⟩;rw[he];clear he w1))
 go_ret
 exact⟨rfl,Fk,(KD.refl X B w).put (k:=k) h.head (.inl rfl) h.hB.1 hX u⟩
theorem vck {B:Nat} {a b1 b2:Nat} {pv:Value} {S:dc} (w:World) (h:bw B w a b1 b2 pv S) (hi:S.down=true):
 Calls Tryz.prog 44 #[.pointer (some ⟨a,0,none⟩)] w λe w'=>e=.returned (.int .i64 190)∧w'=w:=by
 have HU:=E9 w h 0
 rw[up_down 0 hi] at HU
 clear h hi
 go_enter Tryz.func44,Tryz.ntmps44
 go_wp2_with (go_at_call 81;refine HU.mono ?_;clear HU;rintro e w1 ⟨rfl,he⟩;rw[he];clear he w1)
 go_ret
 exact⟨rfl,rfl⟩
theorem vcl {X:Nat→Prop} {B:Nat} {a b1 b2:Nat} {pv:Value} {S:dc} (w:World) (h:bw B w a b1 b2 pv S) (hX:¬X a) (hc: -9223372036854775807≤S.calls∧S.calls≤9223372036854775807) (hi:FB S 0=0) (hp:zg S=false):
 Calls Tryz.prog 44 #[.pointer (some ⟨a,0,none⟩)] w λe w'=>e=.returned (.int .i64 190)∧bw B w' a b1 b2 pv (gh S)∧KD X B w w':=by
 have HU:=E9 w h 0
 have HP:=sV w h hc
 rw[hi] at HU
 rw[hp] at HP
 clear hi hp hc
 go_enter Tryz.func44,Tryz.ntmps44
 go_wp2_with (first
  | (go_at_call 87;refine HP.mono ?_;clear HP;rintro e w1 ⟨rfl,Fk,k,u,rfl⟩)
  | (go_at_call 81;refine HU.mono ?_;clear HU;rintro e w1 ⟨rfl,he⟩;rw[he];clear he w1))
 go_ret
 exact⟨rfl,Fk,(KD.refl X B w).put (k:=k) h.head (.inl rfl) h.hB.1 hX u⟩
theorem vb5 {l:List UInt8} {n i:Nat} (hl:l.length=n * 64) (hi:i<n):(van l i).length=64:=by
 unfold van
 simp[hl]
 omega
theorem vc7 {l:List UInt8} {i j:Nat} {b:UInt8} (h:(van l i)[j]? =some b):l[i * 64+j]? =some b:=by
 unfold van at h
 rw[List.getElem?_take] at h
 split at h
 · rwa [List.getElem?_drop] at h
 · cases h
theorem vch {B:Nat} {a b1 b2:Nat} {pv:Value} {S:dc} (w:World) (h:bw B w a b1 b2 pv S) (i:Nat) (hi:FB S i=0):
 Calls Tryz.prog 42 #[.pointer (some ⟨a,0,none⟩),.int .i64 i] w λe w'=>(∃v,e=.returned (.tuple #[v,.int .i64 0])∧w'.ownsRow w.heap.size 5 1 v 64 (aH (van S.now i)))∧Below w.heap.size w w':=by
 have HU:=E9 w h i
 rw[hi] at HU
 have b:=lG h.head
 have hin:=vb2 hi
 have Jz:(i:Int)<(S.n:Int):=by omega
 have hcl:=vb5 h.ln (show i<S.n by omega)
 have xU:w.rangeAt b2 (i * 64) (aH (van S.now i)):=λj v hj=>by
  unfold aH at hj;rw[List.getElem?_map] at hj;obtain⟨x,hx,rfl⟩:=Option.map_eq_some_iff.1 hj;have hx2:=vc7 hx;refine(af h.now _).trans ?_;unfold va0;rw[List.getElem?_toArray,List.getElem?_append_left (by rw[ak];exact(List.getElem?_eq_some_iff.1 hx2).1)];unfold aH;simp[hx2]
 have PV:(Tryz.prog.info? 145).map (·.size)=some (aH (van S.now i)).length:=by rw[ak,hcl];kernel_rfl
 have hone:∀v∈aH (van S.now i),v.oneCell'=true:=λv hv=>by
  obtain⟨b,_,rfl⟩:=List.mem_map.1 hv
  rfl
 have hint:=bF.u8 (van S.now i)
 have Gf:(aH (van S.now i)).length=64:=by rw[ak,hcl]
 clear hi h hcl
 generalize aH (van S.now i)=cs at *
 have vcm:=zh Gf
 clear Gf
 go_enter Tryz.func42,Tryz.ntmps42
 go_upto_region 5 with(first
  | (go_at_call 81;refine HU.mono ?_;clear HU;rintro e w1 ⟨rfl,he⟩;rw[he];clear he w1)
  | (refine wpList_load_mid (op:=⟨some 20,_,_,_,_,_⟩) rfl 145 (.tmp 19) rfl b2 (i * 64) rfl cs _ xU Tryz.underlying145 rfl PV ?_)
  | (refine gj (o:=⟨none,_,_,_,_,_⟩) rfl (.tmp 7) (.tmp 20) rfl rfl rfl (bK (o:=0) (heap_alloc_new _ _) (by rw[List.size_toArray];exact PV) (by rw[List.size_toArray,vcm.out];decide) hone) ?_))
 generalize hW:World.setRow _ _ _=W3
 have R9:W3.heap[w.heap.size]? =some (.cells cs.toArray 145 (0,0)):=by
  rw[←hW];refine(cI _ _ _ _).1.trans (congrArg (λz=>some (Obj.cells z 145 (0,0))) ?_);rw[List.take_zero,List.nil_append,List.drop_eq_nil_of_le (by rw[List.size_toArray,vcm.out];decide),List.append_nil]
 have xT:Below w.heap.size w W3:=by
  rw[←hW];exact(cI _ _ _ _).2
 clear hW
 have hv:=CV.block R9 (by rw[vcm.out];decide)
 rw[vcm.out] at hv
 have HC:=vr _ _ W3 hv hint (by rw[vcm.out];decide)
 rw[vcm.out] at HC
 go_wp2_with (go_at_call 20;refine HC.mono ?_;clear HC;rintro e w4 ⟨v,rfl,hown,hb4⟩)
 go_ret2
 exact⟨⟨v,rfl,ef hown xT.size⟩,xT.trans (hb4.mono xT.size)⟩
theorem vbp (l:List UInt8) (i k:Nat):(van l i)[k]? =if k<64 then l[i * 64+k]? else none:=by
 unfold van
 rw[List.getElem?_take]
 split
 · rw[List.getElem?_drop]
 · rfl
theorem vd2 {l:List UInt8} {i n:Nat} {s:List UInt8} (hl:l.length=n * 64) (hi:i<n) (hs:s.length=64) (x:Nat):(mO l i s)[x]? =if i * 64≤x∧x<i * 64+64 then s[x - i * 64]? else l[x]? :=by
 unfold mO
 have h1:(l.take (i * 64)).length=i * 64:=by rw[List.length_take,hl];omega
 rcases Nat.lt_or_ge x (i * 64) with h|h
 · rw[if_neg (by omega),List.append_assoc,List.getElem?_append_left (by omega),List.getElem?_take,if_pos h]
 · rcases Nat.lt_or_ge x (i * 64+64) with h2|h2
   · rw[if_pos ⟨h,h2⟩,List.append_assoc,List.getElem?_append_right (by omega),List.getElem?_append_left (by omega),h1]
   · rw[if_neg (by omega),List.getElem?_append_right (by rw[List.length_append];omega),List.getElem?_drop,List.length_append,h1,hs]
     congr 1
     omega
theorem vbe {l:List UInt8} {i j n:Nat} {s:List UInt8} (hl:l.length=n * 64) (hi:i<n) (hs:s.length=64):van (mO l i s) j=if i=j then s else van l j:=by
 refine List.ext_getElem? λk=>?_
 rw[vbp,vd2 hl hi hs]
 by_cases e:i=j
 · subst e
   rw[if_pos rfl];split
   · rw[if_pos ⟨by omega,by omega⟩]
     congr 1
     omega
   · rw[List.getElem?_eq_none (by omega)]
 · rw[if_neg e,vbp]
   split
   · rw[if_neg (by omega)]
   · rfl
def secs (n:Nat) (d:List UInt8):List (List UInt8):=(List.range n).map (van d)
theorem vd4 (n:Nat) (d:List UInt8):(secs n d).length=n:=by simp[secs]
theorem vb6 {n:Nat} (d:List UInt8) {i:Nat} (hi:i<n):(secs n d)[i]? =some (van d i):=by simp[secs,hi]
theorem vd6 {d:List UInt8} {n i:Nat} {s:List UInt8} (hl:d.length=n * 64) (hi:i<n) (hs:s.length=64):(secs n d).set i s=secs n (mO d i s):=by
 refine List.ext_getElem? λk=>?_
 rw[List.getElem?_set]
 unfold secs
 simp only[List.getElem?_map,List.length_map,List.length_range]
 rcases Nat.lt_or_ge k n with hk|hk
 · rw[List.getElem?_range hk]
   simp only[Option.map_some,vbe hl hi hs]
   by_cases e:i=k
   · subst e;simp[hi]
   · simp[e]
 · rw[if_neg (by omega),List.getElem?_eq_none (by simpa using hk)]
   rfl
theorem vct {n i:Nat} (hi:i<n):van (List.replicate (n * 64) 0) i=List.replicate 64 0:=by
 unfold van
 rw[List.drop_replicate,List.take_replicate]
 congr 1
 omega
theorem vcu (n:Nat):secs n (List.replicate (n * 64) 0)=List.replicate n (List.replicate 64 0):=by
 refine List.ext_getElem? λk=>?_
 rcases Nat.lt_or_ge k n with hk|hk
 · rw[vb6 _ hk,vct hk,List.getElem?_replicate,if_pos hk]
 · rw[List.getElem?_eq_none (by rw[vd4];exact hk),List.getElem?_replicate,if_neg (by omega)]
def vaz (S:dc):Int:=if S.ends=true then S.calls else -1
def vba (l:List (Nat×List UInt8)):List Value:=l.flatMap λx=>[.int .i64 (x.1:Int),str x.2]
theorem vb4:∀(l:List (Nat×List UInt8)) (j:Nat) (x:Nat×List UInt8),l[j]? =some x→(vba l)[j * 2]? =some (.int .i64 (x.1:Int))∧(vba l)[j * 2+1]? =some (str x.2)
 | y::l,0,x,h=>by
  obtain rfl:y=x:=by simpa using h
  exact⟨rfl,rfl⟩
 | y::l,j+1,x,h=>by
  have:=vb4 l j x (by simpa using h);have e:vba (y::l)=.int .i64 (y.1:Int)::str y.2::vba l:=rfl;rw[e,show(j+1) * 2=j * 2+1+1 by omega]
  simpa using this
def vdh (vd vfc:Value) (S:dc):Array Value:= #[vd,vfc,.int .i64 (vaz S),.bool S.down]
structure vag (B:Nat) (w:World) (m:Nat) (vd vfc:Value) (S:dc):Prop where
 head:w.heap[m]? =some (.cells (vdh vd vfc S) 136 (0,0))
 iY:w.ownsRow B 9 1 vd S.n (aA (secs S.n S.iY))
 pend:w.ownsRow B 193 2 vfc S.pend.length (vba S.pend)
 ld:S.iY.length=S.n * 64
 pl:∀x∈S.pend,x.1<S.n∧x.2.length=64
 hn:64≤S.n∧S.n≤65536
 hB:B≤m
def vdl (x:Obj):Prop:=∀cs t fl,x=.cells cs t fl→t≠136∧t≠9∧t≠193
structure vf7 (B:Nat) (w w':World):Prop where
 cV:Below B w w'
 keep:∀(b:Nat) (x:Obj),w.heap[b]? =some x→vdl x→w'.heap[b]? =some x
theorem vf7.refl (B:Nat) (w:World):vf7 B w w:=⟨zb _,λ_ _ h _=>h⟩
theorem vf7.trans {B:Nat} {a b c:World} (h:vf7 B a b) (h':vf7 B b c):vf7 B a c:=⟨h.cV.trans h'.cV,λx o e ho=>h'.keep x o (h.keep x o e ho) ho⟩
theorem vf7.ai {B K:Nat} {a b:World} (h:Below K a b) (hK:a.heap.size≤K) (hB:B≤K):vf7 B a b:=⟨aa h hB,λx o e _=>(h.block x (by have:=aj e;omega)).trans e⟩
theorem vf7.at {B:Nat} {a b:World} (h:vf7 B a b) {g:Nat} {cs:Array Value} {t:TypeId} {fl:Nat×Nat} (hg:b.heap[g]? =some (.cells cs t fl)) (ht:t=136∨t=9∨t=193) {x:Nat} {o:Obj} (e:a.heap[x]? =some o) (ho:vdl o):x≠g:=λe3=>by
 have e2:=h.keep x o e ho
 subst e3
 rw[hg] at e2
 cases e2
 have:=ho _ _ _ rfl
 rcases ht with h|h|h
 · exact this.1 h
 · exact this.2.1 h
 · exact this.2.2 h
theorem vf7.put {B:Nat} {a b:World} (h:vf7 B a b) {g k:Nat} {cs:Array Value} {t:TypeId} {fl:Nat×Nat} (hg:b.heap[g]? =some (.cells cs t fl)) (ht:t=136∨t=9∨t=193) (hB:B≤g) (u:Value):vf7 B a (b.setCell ⟨g,k,none⟩ u):=
 ⟨h.cV.setCell (p:=⟨g,k,none⟩) hB u,λx o e ho=>(heap_setCell_other b ⟨g,k,none⟩ x u (h.at hg ht e ho)).trans (h.keep x o e ho)⟩
theorem vf7.grown {B:Nat} {a b c:World} {row:Option Nat} (h:vf7 B a b) (hg:b.grownBy c row) (hB:B≤b.heap.size) (hr:∀r,row=some r→B≤r∧∃cs t fl,b.heap[r]? =some (.cells cs t fl)∧(t=136∨t=9∨t=193)):vf7 B a c:=
 ⟨h.cV.grown hg hB fun r e => (hr r e).1, fun x o e ho => by
  have e2:=h.keep x o e ho;refine(hg.block x (aj e2) λe3=>?_).trans e2;obtain⟨_,cs,t,fl,hc,ht⟩:=hr x e3.symm;exact h.at hc ht e ho rfl⟩
section
variable {B:Nat} {w w':World} {m:Nat} {vd vfc:Value} {S S':dc}
theorem vao {w:World} {B:Nat} {t:TypeId} {k n:Nat} {v:Value} {cs:List Value} (h:w.ownsRow B t k v n cs) {g:Nat} (hg:v.ownBlock=some g):B≤g∧∃cur,w.heap[g]? =some (.cells cur t (0,0)):=by
 rcases h.2 with⟨e,_⟩|⟨g',cap,cur,e,hb,tZ,_⟩
 · rw[e] at hg;cases hg
 · rw[e] at hg
   simp only[Value.ownBlock,Option.some.injEq] at hg;subst hg;exact⟨hb,cur,tZ⟩
theorem vbb {w:World} {x y:Nat} {cs ds:Array Value} {t u:TypeId} {f1 f2:Nat×Nat} (ht:t≠u) (h1:w.heap[x]? =some (.cells cs t f1)) (h2:w.heap[y]? =some (.cells ds u f2)):x≠y:=λe=>by
 subst e
 rw[h1] at h2
 injection h2 with h2
 injection h2 with _ h3 _
 exact ht h3
theorem vag.parts (h:vag B w m vd vfc S):(∀g,vd.ownBlock=some g→g≠m)∧(∀g,vfc.ownBlock=some g→g≠m)∧(∀g k,vd.ownBlock=some g→vfc.ownBlock=some k→g≠k):=
 ⟨λg hg=>by obtain⟨_,cur,e⟩:=vao h.iY hg;exact vbb (by decide) e h.head,λg hg=>by obtain⟨_,cur,e⟩:=vao h.pend hg;exact vbb (by decide) e h.head,λg k hg hk=>by obtain⟨_,cur,e⟩:=vao h.iY hg;obtain⟨_,ves,e2⟩:=vao h.pend hk;exact vbb (by decide) e e2⟩
theorem vag.agree (h:vag B w m vd vfc S) (hk:∀b,(b=m∨vd.ownBlock=some b∨vfc.ownBlock=some b)→w'.heap[b]? =w.heap[b]?):vag B w' m vd vfc S:=
 ⟨(hk m (.inl rfl)).trans h.head,aG h.iY λb hb=>hk b (.inr (.inl hb)),aG h.pend λb hb=>hk b (.inr (.inr hb)),h.ld,h.pl,h.hn,h.hB⟩
theorem vag.lt (h:vag B w m vd vfc S) {b:Nat} (hb:b=m∨vd.ownBlock=some b∨vfc.ownBlock=some b):B≤b∧b<w.heap.size:=by
 rcases hb with rfl|hb|hb
 · exact⟨h.hB,aj h.head⟩
 · exact h.iY.lt b hb
 · exact h.pend.lt b hb
theorem vag.below {K:Nat} (h:vag B w m vd vfc S) (hb:Below K w w') (hK:w.heap.size≤K):vag B w' m vd vfc S:=
 h.agree λb hx=>hb.block b (by have:=(h.lt hx).2;omega)
theorem vag.put (h:vag B w m vd vfc S) (k:Nat) (u:Value) (hu:(vdh vd vfc S).setIfInBounds k u=vdh vd vfc S') (h1:S'.n=S.n) (h2:S'.iY=S.iY) (h4:S'.pend=S.pend):vag B (w.setCell ⟨m,k,none⟩ u) m vd vfc S':=by
 obtain⟨p1,p2,_⟩:=h.parts
 have ho:∀b,b≠m→(w.setCell ⟨m,k,none⟩ u).heap[b]? =w.heap[b]? :=λb hb=>heap_setCell_other w ⟨m,k,none⟩ b u hb
 refine⟨?_,?_,?_,by rw[h1,h2];exact h.ld,by rw[h4,h1];exact h.pl,by rw[h1];exact h.hn,h.hB⟩
 · rw[←hu]
   exact heap_setCell_same w m k _ _ u h.head
 · rw[h1,h2]
   exact aG h.iY λg hg=>ho g (p1 g hg)
 · rw[h4]
   exact aG h.pend λg hg=>ho g (p2 g hg)
theorem vag.same (h:vag B w m vd vfc S) (h1:S'.n=S.n) (h2:S'.iY=S.iY) (h3:S'.pend=S.pend) (h4:vaz S'=vaz S) (h5:S'.down=S.down):vag B w m vd vfc S':=by
 refine⟨?_,by rw[h1,h2];exact h.iY,by rw[h3];exact h.pend,by rw[h1,h2];exact h.ld,by rw[h3,h1];exact h.pl,by rw[h1];exact h.hn,h.hB⟩
 have:=h.head
 unfold vdh at *
 rw[h4,h5]
 exact this
theorem vag.box (h:vag B w m vd vfc S):(w.cell? ⟨m,0,none⟩=some vd∧w.cell? ⟨m,1,none⟩=some vfc∧w.cell? ⟨m,2,none⟩=some (.int .i64 (vaz S))∧w.cell? ⟨m,3,none⟩=some (.bool S.down))∧
 w.frozen? ⟨m,0,none⟩=false∧w.frozen? ⟨m,1,none⟩=false∧w.frozen? ⟨m,2,none⟩=false∧w.frozen? ⟨m,3,none⟩=false:=
 ⟨⟨(af h.head 0).trans rfl,(af h.head 1).trans rfl,(af h.head 2).trans rfl,(af h.head 3).trans rfl⟩,au h.head 0,au h.head 1,au h.head 2,au h.head 3⟩
end
theorem vb9 (s:List UInt8) (hs:s.length≤64) (w:World):Calls Tryz.prog 66 #[str s] w λe w'=>e=.returned (str (jV s))∧w'=w:=by
 go_enter Tryz.func66,Tryz.ntmps66
 go_upto_region 1 with fail
 go_loopw [0] (λx wx=>∃k:Nat,k≤64 - s.length∧x=str (s++List.replicate k 0)∧wx=w) (λx _=>64 - (match x with|.string b=>b.size|_=>0))
 case atStart=>exact⟨0,Nat.zero_le _,by simp,rfl⟩
 case round=>
  obtain⟨k,hk,rfl,rfl⟩:=hrel
  by_cases hlt:s.length+k<64
  · have h1:((s++List.replicate k 0).length:Int)<64:=by simp;omega
    have h2:str (s++List.replicate (k+1) 0)=str (s++(List.replicate k 0++[0])):=by rw[←List.replicate_succ']
    have h3:=zh h2;clear h2;go_wp2_with fail;refine⟨⟨k+1,by omega,h3.out.symm,trivial⟩,?_⟩
    show 64 - (s++(List.replicate k 0++[0])).toArray.size<64 - (s++List.replicate k 0).toArray.size
    simp;omega
  · have h1:¬((s++List.replicate k 0).length:Int)<64:=by simp;omega
    have hk2:k=64 - s.length:=by omega
    have h3:=zh (show str (s++List.replicate k 0)=str (jV s) by rw[hk2];rfl);clear hk2 hk;generalize hX:s++List.replicate k 0=X at *;clear hX;go_wp2_with fail;go_ret;exact⟨congrArg Ending.returned h3.out,rfl⟩
theorem vb0 {B:Nat} {m:Nat} {vd vfc:Value} {S:dc} (w:World) (h:vag B w m vd vfc S) (hc:S.ends=true→0≤S.calls∧S.calls≤9223372036854775807):
 Calls Tryz.prog 113 #[.pointer (some ⟨m,0,none⟩)] w λe w'=>e=.returned (.bool (zg S))∧vag B w' m vd vfc (gh S)∧vf7 B w w':=by
 have b:=h.box
 have hl:vaz S=if S.ends=true then S.calls else -1:=rfl
 have e1:gh S=if S.ends=true∧S.calls=0 then {S with down:=true } else {S with calls:=S.calls - 1 }:=rfl
 have e2:zg S=decide (¬(S.ends=true∧S.calls=0)):=rfl
 have hk:∀k u,vf7 B w (w.setCell ⟨m,k,none⟩ u):=λk u=>(vf7.refl B w).put h.head (.inl rfl) h.hB u
 by_cases h1:S.ends=true
 · rw[if_pos h1] at hl
   obtain⟨c0,c1⟩:=hc h1
   by_cases h0:S.calls=0
   · rw[if_pos ⟨h1,h0⟩] at e1
     have e3:zg S=false:=by rw[e2];simp[h1,h0]
     have hp:=h.put (S':={S with down:=true }) 3 (.bool true) rfl rfl rfl rfl;rw[e1,e3];have hl0:vaz S=0:=hl.trans h0;rw[hl0] at b;have hk:=hk 3 (.bool true);clear e1 e2 e3 hl hl0 h hc c0 c1;go_enter Tryz.func113,Tryz.ntmps113;go_wp2_with fail;go_ret;exact⟨rfl,hp,hk⟩
   · rw[if_neg (λh=>h0 h.2)] at e1
     have e3:zg S=true:=by rw[e2];simp[h0]
     have hp:=h.put (S':={S with calls:=S.calls - 1 }) 2 (.int .i64 (S.calls - 1)) (by unfold vdh vaz;simp[h1]) rfl rfl rfl;rw[e1,e3];rw[hl] at b;have hk:=hk 2 (.int .i64 (S.calls - 1));have q1:(S.calls==0)=false:=by simp[h0]
     have q2:0<S.calls:=by omega
     clear e1 e2 e3 hl h hc;generalize S.calls=c at *;go_enter Tryz.func113,Tryz.ntmps113;go_wp2_with fail;go_ret;exact⟨rfl,hp,hk⟩
 · rw[if_neg h1] at hl
   rw[if_neg (λh=>h1 h.1)] at e1;have e3:zg S=true:=by rw[e2];simp[h1]
   have hp:=h.same (S':={S with calls:=S.calls - 1 }) rfl rfl rfl (by unfold vaz;simp[h1]) rfl;rw[e1,e3];rw[hl] at b;clear e1 e2 e3 hl h hc hk;go_enter Tryz.func113,Tryz.ntmps113;go_wp2_with fail;go_ret;exact⟨rfl,hp,vf7.refl _ _⟩
theorem vcr {B:Nat} {m:Nat} {vd vfc:Value} {S:dc} (w:World) (h:vag B w m vd vfc S) (n:Int):
 Calls Tryz.prog 70 #[.pointer (some ⟨m,0,none⟩),.int .i64 n] w λe w'=>e=.returned (.int .i64 (vaw S n))∧vag B w' m vd vfc (vaq S n)∧vf7 B w w':=by
 have b:=h.box
 by_cases h1:S.down=true
 · have e1:vaw S n=190:=by unfold vaw;rw[if_pos h1]
   have e2:vaq S n=S:=by unfold vaq;rw[if_pos (.inl h1)]
   rw[e1,e2];rw[h1] at b;clear e1 e2;go_enter Tryz.func70,Tryz.ntmps70;go_wp2_with fail;go_ret;exact⟨rfl,h,vf7.refl _ _⟩
 · have h1:S.down=false:=by simpa using h1
   by_cases h2:n<0
   · have e1:vaw S n=1:=by unfold vaw;rw[h1];simp[h2]
     have e2:vaq S n=S:=by unfold vaq;rw[if_pos (.inr h2)]
     rw[e1,e2];rw[h1] at b;clear e1 e2;go_enter Tryz.func70,Tryz.ntmps70;go_wp2_with fail;go_ret;exact⟨rfl,h,vf7.refl _ _⟩
   · have e1:vaw S n=0:=by unfold vaw;rw[h1];simp[h2]
     have e2:vaq S n={S with ends:=true,calls:=n }:=by unfold vaq;rw[if_neg (λh=>h.elim (λh=>by rw[h1] at h;cases h) h2)]
     have hp:=h.put (S':={S with ends:=true,calls:=n }) 2 (.int .i64 n) (by unfold vdh vaz;simp) rfl rfl rfl;have hk:=(vf7.refl B w).put (k:=2) h.head (.inl rfl) h.hB (.int .i64 n);rw[e1,e2];rw[h1] at b;clear e1 e2 h;rw[h1] at hp;go_enter Tryz.func70,Tryz.ntmps70;go_wp2_with fail;go_ret;exact⟨rfl,hp,hk⟩
theorem vd8 {S:dc} {i:Int} (hd:S.down=false) (hi:FB S i≠0):FB S i=1∧(i<0∨(S.n:Int)≤i):=by
 unfold FB at *
 rw[hd] at *
 simp only[Bool.false_eq_true,if_false] at *
 split at hi
 · exact absurd rfl hi
 · rename_i h
   exact⟨if_neg h,by omega⟩
theorem vb8 {S:dc} {i:Int} (h:FB S i=0):S.down=false:=by
 rcases hd:S.down with _|_
 · rfl
 · rw[up_down i hd] at h
   cases h
theorem vau {w:World} {B k n c:Nat} {t:TypeId} {p:Option Addr} {cs:List Value} (h:w.ownsRow B t k (.slice p n c) n cs) (h0:0<n):∃g,p=some ⟨g,0,none⟩∧∀j u,cs[j]? =some u→w.cell? ⟨g,j,none⟩=some u:=by
 rcases h.2 with⟨_,h1⟩|⟨g,cap,cur,e,_⟩
 · omega
 · injection e with e1 _ _
   subst e1;refine⟨g,rfl,λj u hj=>?_⟩;have:=h.cells (g:=g) rfl j u hj
   rwa [eH,Nat.zero_add] at this
section
variable {B m:Nat} {vd vfc:Value} {S:dc}
theorem vcq (w:World) (h:vag B w m vd vfc S) (i:Int) (hi:FB S i≠0):
 Calls Tryz.prog 67 #[.pointer (some ⟨m,0,none⟩),.int .i64 i] w λe w'=>e=.returned (.tuple #[str [],.int .i64 (FB S i)])∧w'=w:=by
 obtain⟨p,c,rfl⟩:=aJ h.iY
 have b:=h.box
 rcases hd:S.down with _|_
 · obtain⟨e1,h2⟩:=vd8 hd hi
   rw[e1];rw[hd] at b;clear h hi e1 hd
   by_cases h3:i<0
   · clear h2
     go_enter Tryz.func67,Tryz.ntmps67;go_wp2_with fail;go_ret2;exact⟨rfl,rfl⟩
   · have h2:(S.n:Int)≤i:=by omega
     go_enter Tryz.func67,Tryz.ntmps67;go_wp2_with fail;go_ret2;exact⟨rfl,rfl⟩
 · rw[up_down i hd]
   rw[hd] at b;clear h hi hd;go_enter Tryz.func67,Tryz.ntmps67;go_wp2_with fail;go_ret2;exact⟨rfl,rfl⟩
theorem vcp (w:World) (h:vag B w m vd vfc S) (i:Nat) (hi:FB S i=0) (ve0:S.now=lJ S S.pend.length) (N2:S.pend.length≤100000):
 Calls Tryz.prog 67 #[.pointer (some ⟨m,0,none⟩),.int .i64 i] w λe w'=>e=.returned (.tuple #[str (van S.now i),.int .i64 0])∧w'=w:=by
 obtain⟨p,c,rfl⟩:=aJ h.iY
 obtain⟨q,c2,rfl⟩:=aJ h.pend
 have b:=h.box
 rw[vb8 hi] at b
 have hin:=vb2 hi
 have Jz:(i:Int)<(S.n:Int):=by omega
 have vdb:¬(S.n:Int)≤(i:Int):=by omega
 obtain⟨g,rfl,hg⟩:=vau h.iY (by have:=h.hn;omega)
 have Wl:w.cell? ⟨g,i,none⟩=some (str (van S.iY i)):=hg i _ (by unfold aA;rw[List.getElem?_map,vb6 _ (by omega)];rfl)
 clear hg
 have hdl:∀k,k≤S.pend.length→(lJ S k).length=S.n * 64:=by
  intro k
  induction k with
  | zero=>intro _;rw[A3];exact h.ld
  | succ k ih=>
   intro hk;obtain⟨x,hx⟩:∃x,S.pend[k]? =some x:=⟨_,List.getElem?_eq_getElem (by omega)⟩
   have uh:=h.pl x (List.mem_of_getElem? hx);rw[A2 hx];exact xo (ih (by omega)) uh.1 uh.2
 generalize hL:S.pend.length=L at *
 have hL:=zh hL
 have ve2:=zh (congrArg (λd=>van d i) (A3 S))
 generalize ML:van S.iY i=s0 at *
 rw[ve0]
 clear ve0 hi hin vdb
 go_enter Tryz.func67,Tryz.ntmps67
 go_upto_region 7 with fail
 go_loopw [6,7] (λs y wx=>∃k:Nat,k≤L∧y=.int .i64 k∧s=str (van (lJ S k) i)∧wx=w) (λ_ y _=>L - (intOf y).toNat)
 case atStart=>exact⟨0,Nat.zero_le _,by go_num,by rw[ve2.out],rfl⟩
 case round=>
  obtain⟨k,hk,rfl,rfl,rfl⟩:=hrel
  by_cases hlt:k<L
  case neg=>
   obtain rfl:k=L:=by omega
   go_wp2_with fail;go_ret2;exact⟨rfl,rfl⟩
  case pos=>
   obtain⟨x,hx⟩:∃x,S.pend[k]? =some x:=⟨_,List.getElem?_eq_getElem (by rw[hL.out];exact hlt)⟩
   have uh:=h.pl x (List.mem_of_getElem? hx);have hds:=A2 hx;have ve8:van (lJ S (k+1)) i=if x.1=i then x.2 else van (lJ S k) i:=by rw[hds];exact vbe (hdl k hk) uh.1 uh.2
   have ve8:=zh ve8;have N2:=h.pend;rw[hL.out] at N2;obtain⟨g2,rfl,hg2⟩:=vau N2 (by omega);obtain⟨hc1,yp⟩:=vb4 S.pend k x hx;have hc1:=hg2 _ _ hc1;have yp:=hg2 _ _ yp;have sA:(k:Int)<(L:Int):=by omega
   clear hg2 N2 hds h hdl
   by_cases Ef:x.1=i
   · have hq:((x.1:Int)==(i:Int))=true:=by simp[Ef]
     generalize van (lJ S k) i=sk at *;go_wp2_with fail;refine⟨⟨k+1,hlt,by go_num,?_,trivial⟩,by simp only[intOf];omega⟩;rw[ve8.out,if_pos Ef]
   · have hq:((x.1:Int)==(i:Int))=false:=by simp;omega
     generalize hsk:van (lJ S k) i=sk at *;go_wp2_with fail;refine⟨⟨k+1,hlt,by go_num,?_,trivial⟩,by simp only[intOf];omega⟩;rw[ve8.out,if_neg Ef]
theorem vc2 (w:World) (h:vag B w m vd vfc S) (i:Int) (hi:FB S i≠0) (bs:List UInt8):
 Calls Tryz.prog 68 #[.pointer (some ⟨m,0,none⟩),.int .i64 i,str bs] w λe w'=>e=.returned (.int .i64 (FB S i))∧w'=w:=by
 obtain⟨p,c,rfl⟩:=aJ h.iY
 have b:=h.box
 rcases hd:S.down with _|_
 · obtain⟨e1,h2⟩:=vd8 hd hi
   rw[e1];rw[hd] at b;clear h hi e1 hd
   by_cases h3:i<0
   · clear h2
     go_enter Tryz.func68,Tryz.ntmps68;go_wp2_with fail;go_ret;exact⟨rfl,rfl⟩
   · have h2:(S.n:Int)≤i:=by omega
     go_enter Tryz.func68,Tryz.ntmps68;go_wp2_with fail;go_ret;exact⟨rfl,rfl⟩
 · rw[up_down i hd]
   rw[hd] at b;clear h hi hd;go_enter Tryz.func68,Tryz.ntmps68;go_wp2_with fail;go_ret;exact⟨rfl,rfl⟩
theorem vbo (w:World) (h:vag B w m vd vfc S) (i:Nat) (hi:FB S i=0) (bs:List UInt8) (hl:64<bs.length):
 Calls Tryz.prog 68 #[.pointer (some ⟨m,0,none⟩),.int .i64 i,str bs] w λe w'=>e=.returned (.int .i64 2)∧w'=w:=by
 obtain⟨p,c,rfl⟩:=aJ h.iY
 have b:=h.box
 rw[vb8 hi] at b
 have hin:=vb2 hi
 have vdb:¬(S.n:Int)≤(i:Int):=by omega
 have hl2:(64:Int)<(bs.length:Int):=by omega
 clear h hi hl
 go_enter Tryz.func68,Tryz.ntmps68
 go_wp2_with fail
 go_ret
 exact⟨rfl,rfl⟩
theorem vc3 (w:World) (h:vag B w m vd vfc S) (hc:S.ends=true→0≤S.calls∧S.calls≤9223372036854775807) (i:Nat) (hi:FB S i=0) (bs:List UInt8) (hl:bs.length≤64) (hp:zg S=false):
 Calls Tryz.prog 68 #[.pointer (some ⟨m,0,none⟩),.int .i64 i,str bs] w λe w'=>e=.returned (.int .i64 190)∧vag B w' m vd vfc (gh S)∧vf7 B w w':=by
 have HC:=vb0 w h hc
 rw[hp] at HC
 obtain⟨p,c,rfl⟩:=aJ h.iY
 have b:=h.box
 rw[vb8 hi] at b
 have hin:=vb2 hi
 have vdb:¬(S.n:Int)≤(i:Int):=by omega
 have hl2:¬(64:Int)<(bs.length:Int):=by omega
 clear h hi hl hc hp
 go_enter Tryz.func68,Tryz.ntmps68
 go_wp2_with (go_at_call 113;refine HC.mono ?_;clear HC;rintro e w1 ⟨rfl,hR,hK⟩)
 go_ret
 exact⟨rfl,hR,hK⟩
end
theorem vdf:(Tryz.prog.info? 193).map (λi=>(i.zero,i.size,i.bytes))=some (some (.agg #[.int .i64 0,str []]),2,24):=by kernel_rfl
theorem vbn {B m:Nat} {vd vfc:Value} {S:dc} (w:World) (h:vag B w m vd vfc S) (hc:S.ends=true→0≤S.calls∧S.calls≤9223372036854775807) (i:Nat) (hi:FB S i=0) (bs:List UInt8) (hl:bs.length≤64) (hp:zg S=true) (N2:S.pend.length≤100000):
 Calls Tryz.prog 68 #[.pointer (some ⟨m,0,none⟩),.int .i64 i,str bs] w λe w'=>e=.returned (.int .i64 0)∧(∃vdk,vag B w' m vd vdk {gh S with now:=mO (gh S).now i (jV bs),pend:=(gh S).pend++[(i,jV bs)] })∧vf7 B w w':=by
 have HC:=vb0 w h hc
 rw[hp] at HC
 obtain⟨p,c,rfl⟩:=aJ h.iY
 have b:=h.box
 rw[vb8 hi] at b
 have hin:=vb2 hi
 have vdb:¬(S.n:Int)≤(i:Int):=by omega
 have veg:i<S.n:=by omega
 have hl2:¬(64:Int)<(bs.length:Int):=by omega
 have Ed:B≤w.heap.size:=by have:=(h.lt (.inl rfl));omega
 have CI:(gh S).n=S.n:=by unfold gh;split<;>rfl
 have Pk:(gh S).pend=S.pend:=by unfold gh;split<;>rfl
 have hpk:=xl bs hl
 have ve6:=λW=>vb9 bs hl W
 generalize Kk:gh S=PS at *
 have Kk:=zh Kk
 clear h hc hp hi hin
 go_enter Tryz.func68,Tryz.ntmps68
 go_upto_region 9 with(go_at_call 113;refine HC.mono ?_;clear HC;rintro e w1 ⟨rfl,hR,hK⟩)
 have vf2:w.heap.size≤w1.heap.size:=hK.cV.size
 have vee:=enters_of Tryz.func66 (by kernel_rfl) rfl
 obtain⟨i0,kN,hz0,hz1,hz2⟩:=aV vdf
 generalize hpb:jV bs=pb at *
 have hpb:=zh hpb
 refine q8 (D:=λ_=>True) (w:=w1) 10 13 [0,11,12] [(0,vP m 0),(1,vI i),(2,.eq (str bs))] [vP m 0,vP m 0,vP m 0,vP m 1,.eq vfc,vI i,.eq (str bs),.eq (str pb),.eq (.agg #[.int .i64 i,str pb]),.prop λw v=>∃g,v=.slice (some ⟨g,0,none⟩) 1 1∧w.heap[g]? =some (.cells #[.int .i64 i,str pb] 193 (0,0)),.prop λ_ _=>True,vP m 0,vP m 1]
  (λw'=>vag B w' m (.slice p S.n c) vfc PS∧vf7 B w w')
  (λv w'=>w'.ownsRow B 193 2 v (PS.pend.length+1) (vba PS.pend++[.int .i64 i,str pb]))
  (λw'=>w'.heap[m]? =some (.cells (vdh (.slice p S.n c) vfc PS) 136 (0,0))∧w'.ownsRow B 9 1 (.slice p S.n c) PS.n (aA (secs PS.n PS.iY))∧vf7 B w w')
  (λw'=>∃vdk,vag B w' m (.slice p S.n c) vdk {PS with pend:=PS.pend++[(i,pb)] }∧vf7 B w w') (by kernel_rfl) rfl rfl rfl rfl
  (λw w' h hb=>⟨h.1.below hb zr,h.2.trans (vf7.ai hb zr (Nat.le_trans Ed h.2.cV.size))⟩) (λv w w' h hb=>aT h hb zr) (λw w' h hb=>⟨ag h.1 hb,aT h.2.1 hb zr,h.2.2.trans (vf7.ai hb zr (Nat.le_trans Ed h.2.2.cV.size))⟩)
  ⟨hR.below (zb w1).drew zr,hK.trans (vf7.ai (zb w1).drew zr (Nat.le_trans Ed hK.cV.size))⟩ ⟨rfl,rfl,rfl,trivial⟩ ?_ ?_ ?_ ?_ ?_
 · refine⟨iU rfl rfl (by kernel_rfl),iU rfl rfl (by kernel_rfl),ic rfl (by kernel_rfl) rfl rfl,gQ rfl (by kernel_rfl) rfl rfl (λw=>by simp[go_sem]),dV rfl (by kernel_rfl) rfl rfl (λw hS=>by have c1:=hS.1.box;simp[go_sem,c1]),iU rfl rfl (by kernel_rfl),iU rfl rfl (by kernel_rfl),?_,?_,?_,trivial⟩
   · exact uS rfl vee (by kernel_rfl) rfl rfl λv w _ hv=>by
      subst hv;refine(ve6 w).mono ?_;rintro e w' ⟨rfl,rfl⟩;exact⟨_,rfl,rfl,zb _⟩
   · exact B5 (.tmp 33) (.tmp 35) (by kernel_rfl) rfl rfl rfl (λev w hS h1 h2=>by
      unfold execOp;simp[h1,h2,go_sem])
   · refine rQ [(.tmp 36,.eq (.agg #[.int .i64 i,str pb]))] (by kernel_rfl) rfl rfl (λa w Q hS hi next hnx=>?_)
     have h1:a.eval (.tmp 36)=.agg #[.int .i64 i,str pb]:=hi (.tmp 36,.eq (.agg #[.int .i64 i,str pb])) (by simp);have hrun:(Instr.buildSlice 134 1 #[(0,.agg #[.int .i64 i,str pb])]).run Tryz.prog w=.ok (.slice (some ⟨w.heap.size,0,none⟩) 1 1) (w.alloc (.cells #[.int .i64 i,str pb] 193)):=by
      simp[go_sem]
     refine tC rfl h1 hrun ?_;exact hnx _ _ (λw' hb=>⟨_,rfl,(hb.block _ (aj (heap_alloc_new w _))).trans (heap_alloc_new w _)⟩) ((zb w).alloc zr _)
 · refine⟨⟨_,rfl,_,.tmp 0,_,rfl,rfl,λev w h=>by unfold execOp;simp[h,go_sem]⟩,⟨_,rfl,_,.tmp 28,_,rfl,rfl,λev w h=>by unfold execOp;simp[h,go_sem]⟩,⟨_,rfl,_,.tmp 39,_,rfl,rfl,λev w h=>by unfold execOp;simp[h,go_sem]⟩,trivial⟩
 · intro IQ w2 hS hV next hn
   have K8:IQ.eval (.tmp 32)=vfc:=hV 4 _ 32 (by decide) (by decide) rfl rfl;obtain⟨g,Ot,hg⟩:=hV 9 _ 37 (by decide) (by decide) rfl rfl w2 (zb _);have hBw:B≤w2.heap.size:=Nat.le_trans Ed hS.2.cV.size;obtain⟨v',w',hr,h2,h3,h4⟩:=eG (P:=Tryz.prog) w2 B 134 134 193 i0 _ 2 24 (by kernel_rfl) kN hz0 hz1 hz2 (by kernel_rfl) (by decide) vfc PS.pend.length _ hS.1.pend ⟨g,0,none⟩ 1 1 [.int .i64 i,str pb] rfl (λj u hj=>by
    rw[eH];refine(af hg (0+j)).trans ?_
    simpa using hj) (λv hv=>by
    simp only[List.mem_cons,List.not_mem_nil,or_false] at hv;rcases hv with rfl|rfl<;>rfl) (by decide) (by rw[Pk];unfold maxLen;omega) (by rw[Pk];omega) hBw
   obtain⟨p1,p2,p3⟩:=hS.1.parts;refine mU rfl K8 Ot hr (hn _ _ h2 ⟨(h3.block m (aj hS.1.head) λe=>p2 m e.symm rfl).trans hS.1.head,aG hS.1.iY λb hb=>h3.block b (aW hS.1.iY hb) λe=>p3 b b hb e.symm rfl,hS.2.grown h3 hBw λr hr=>?_⟩);obtain⟨k1,cur,k2⟩:=vao hS.1.pend hr;exact⟨k1,cur,_,_,k2,.inr (.inr rfl)⟩
 · intro IQ w2 hS PD Ft next hn
   have NC:=PD 38 rfl;have Tp:IQ.eval (.tmp 40)=.pointer (some ⟨m,1,none⟩):=Ft 12 _ 40 rfl rfl;generalize To:IQ.eval (.tmp 38)=nv at NC;obtain⟨q,cq,rfl⟩:=aJ NC;have c1:w2.cell? ⟨m,1,none⟩=some vfc∧w2.frozen? ⟨m,1,none⟩=false:=⟨(af hS.1 1).trans rfl,au hS.1 1⟩;have hst:(Instr.storeAt 134 (.pointer (some ⟨m,1,none⟩)) (.slice q (PS.pend.length+1) cq)).run Tryz.prog w2=.ok () (w2.setCell ⟨m,1,none⟩ (.slice q (PS.pend.length+1) cq)):=by simp[go_sem,c1]
   refine aY rfl Tp To hst (hn _ _ ⟨_,⟨heap_setCell_same w2 m 1 _ _ _ hS.1,?_,?_,hR.ld,?_,hR.hn,hR.hB⟩,hS.2.2.put hS.1 (.inl rfl) hR.hB _⟩)
   · refine aG hS.2.1 λg hg=>heap_setCell_other w2 ⟨m,1,none⟩ g _ ?_
     obtain⟨_,cur,k2⟩:=vao hS.2.1 hg;exact vbb (by decide) k2 hS.1
   · have hpe:vba (PS.pend++[(i,pb)])=vba PS.pend++[.int .i64 i,str pb]:=by simp[vba]
     rw[hpe];dsimp only;rw[List.length_append,List.length_singleton];refine aG NC λg hg=>heap_setCell_other w2 ⟨m,1,none⟩ g _ ?_
     obtain⟨_,cur,k2⟩:=vao NC hg;exact vbb (by decide) k2 hS.1
   · intro x hx
     dsimp only at hx ⊢;rcases List.mem_append.1 hx with hx|hx
     · exact hR.pl x hx
     · obtain rfl:=List.mem_singleton.1 hx
       exact⟨by rw[CI];exact veg,hpk⟩
 · rintro IQ w2 ⟨vdk,vev,CG⟩
   simp only[pq,pz,pw];go_wp2_with fail;go_ret;exact⟨rfl,⟨vdk,vev.same rfl rfl (by dsimp only;rw[hpb.out]) rfl rfl⟩,CG⟩
theorem vdg {w:World} {B g i n:Nat} {t:TypeId} {v:Value} {cs:List Value} (h:w.ownsRow B t 1 v n cs) (hv:v.ownBlock=some g) (u:Value):(w.setCell ⟨g,i,none⟩ u).ownsRow B t 1 v n (cs.set i u):=by
 refine⟨by rw[List.length_set];exact h.1,?_⟩
 rcases h.2 with⟨e,_⟩|⟨g',cap,cur,e,h1,h2,h3,h4,h5,h6⟩
 · rw[e] at hv;cases hv
 · rw[e] at hv
   simp only[Value.ownBlock,Option.some.injEq] at hv;subst hv;refine .inr ⟨_,cap,cur.setIfInBounds i u,e,h1,heap_setCell_same w _ i _ _ u h2,h3,h4,by simpa using h5,?_⟩;rw[←h6];simp[List.take_set]
theorem vd5 {S:dc} {i:Nat} {s:List UInt8} (hl:S.iY.length=S.n * 64) (hi:i<S.n) (hs:s.length=64):(aA (secs S.n S.iY)).set i (str s)=aA (secs S.n (mO S.iY i s)):=by
 rw[←vd6 hl hi hs]
 unfold aA
 rw[List.map_set]
theorem vag.J1 {B:Nat} {w:World} {m g:Nat} {vd vfc:Value} {S:dc} (h:vag B w m vd vfc S) (hg:vd.ownBlock=some g) {i:Nat} {s:List UInt8} (hi:i<S.n) (hs:s.length=64):vag B (w.setCell ⟨g,i,none⟩ (str s)) m vd vfc {S with iY:=mO S.iY i s }:=by
 obtain⟨p1,p2,p3⟩:=h.parts
 have ho:∀b,b≠g→(w.setCell ⟨g,i,none⟩ (str s)).heap[b]? =w.heap[b]? :=λb hb=>heap_setCell_other w ⟨g,i,none⟩ b _ hb
 refine⟨(ho m (λe=>p1 g hg e.symm)).trans h.head,?_,aG h.pend λb hb=>ho b λe=>p3 g b hg hb e.symm,xo h.ld hi hs,h.pl,h.hn,h.hB⟩
 have:=vdg (i:=i) h.iY hg (str s)
 rw[vd5 h.ld hi hs] at this
 exact this
theorem vag.drop {B:Nat} {w:World} {m:Nat} {vd vfc:Value} {S:dc} (h:vag B w m vd vfc S):vag B (w.setCell ⟨m,1,none⟩ (.slice none 0 0)) m vd (.slice none 0 0) {S with pend:=[] }:=by
 obtain⟨p1,p2,p3⟩:=h.parts
 have ho:∀b,b≠m→(w.setCell ⟨m,1,none⟩ (.slice none 0 0)).heap[b]? =w.heap[b]? :=λb hb=>heap_setCell_other w ⟨m,1,none⟩ b _ hb
 exact⟨heap_setCell_same w m 1 _ _ _ h.head,aG h.iY λb hb=>ho b (p1 b hb),⟨by simp[vba],.inl ⟨rfl,rfl⟩⟩,h.ld,(λx hx=>absurd hx List.not_mem_nil),h.hn,h.hB⟩
section
variable {B m:Nat} {vd vfc:Value} {S:dc}
theorem vbz (w:World) (h:vag B w m vd vfc S) (hi:S.down=true):
 Calls Tryz.prog 69 #[.pointer (some ⟨m,0,none⟩)] w λe w'=>e=.returned (.int .i64 190)∧w'=w:=by
 have b:=h.box
 rw[hi] at b
 clear h hi
 go_enter Tryz.func69,Tryz.ntmps69
 go_wp2_with fail
 go_ret
 exact⟨rfl,rfl⟩
theorem vc0 (w:World) (h:vag B w m vd vfc S) (hc:S.ends=true→0≤S.calls∧S.calls≤9223372036854775807) (hi:S.down=false) (hp:zg S=false):
 Calls Tryz.prog 69 #[.pointer (some ⟨m,0,none⟩)] w λe w'=>e=.returned (.int .i64 190)∧vag B w' m vd vfc (gh S)∧vf7 B w w':=by
 have HC:=vb0 w h hc
 rw[hp] at HC
 have b:=h.box
 rw[hi] at b
 clear h hi hc hp
 go_enter Tryz.func69,Tryz.ntmps69
 go_wp2_with (go_at_call 113;refine HC.mono ?_;clear HC;rintro e w1 ⟨rfl,hR,hK⟩)
 go_ret
 exact⟨rfl,hR,hK⟩
theorem vbm (w:World) (h:vag B w m vd vfc S) (hc:S.ends=true→0≤S.calls∧S.calls≤9223372036854775807) (hi:S.down=false) (hp:zg S=true) (N2:S.pend.length≤100000):
 Calls Tryz.prog 69 #[.pointer (some ⟨m,0,none⟩)] w λe w'=>e=.returned (.int .i64 0)∧vag B w' m vd (.slice none 0 0) {gh S with iY:=lJ (gh S) S.pend.length,pend:=[] }∧vf7 B w w':=by
 have HC:=vb0 w h hc
 rw[hp] at HC
 have b:=h.box
 rw[hi] at b
 obtain⟨p,c,rfl⟩:=aJ h.iY
 obtain⟨q,c2,rfl⟩:=aJ h.pend
 have Ed:B≤w.heap.size:=by have:=(h.lt (.inl rfl));omega
 have CI:(gh S).n=S.n:=by unfold gh;split<;>rfl
 have Pk:(gh S).pend=S.pend:=by unfold gh;split<;>rfl
 have hn0:=h.hn
 generalize Kk:gh S=PS at *
 have Kk:=zh Kk
 generalize hL:S.pend.length=L at *
 have Wa:PS.pend.length=L:=by rw[Pk,hL]
 have hL:=zh hL
 clear h hi hc hp
 go_enter Tryz.func69,Tryz.ntmps69
 go_upto_region 4 with(go_at_call 113;refine HC.mono ?_;clear HC;rintro e w1 ⟨rfl,hR,hK⟩)
 clear b
 have yt:lJ PS 0=PS.iY:=A3 PS
 go_loopw [3] (λy wx=>∃k:Nat,k≤L∧y=.int .i64 k∧vag B wx m (.slice p S.n c) (.slice q L c2) {PS with iY:=lJ PS k }∧vf7 B w wx) (λy _=>L - (intOf y).toNat)
 case atStart=>exact⟨0,Nat.zero_le _,by go_num,by rw[yt];exact hR,hK⟩
 case round=>
  obtain⟨k,hk,rfl,hM,Rx⟩:=hrel;clear hR yt hK
  by_cases hlt:k<L
  case neg=>
   obtain rfl:k=L:=by omega
   have b:=hM.box;go_wp2_with fail;go_ret;have e:=hM.drop;dsimp only at e;rw[CI] at e;exact⟨rfl,e,Rx.put hM.head (.inl rfl) hM.hB _⟩
  case pos=>
   obtain⟨x,hx⟩:∃x,PS.pend[k]? =some x:=⟨_,List.getElem?_eq_getElem (by omega)⟩
   have uh:=hM.pl x (List.mem_of_getElem? hx);dsimp only at uh;have hds:=zh (A2 hx);have hrd:=hM.iY;have vdc:=hM.pend;dsimp only at hrd vdc;rw[CI] at hrd;rw[Wa] at vdc;obtain⟨gd,rfl,hgd⟩:=vau hrd (by omega);obtain⟨vf9,rfl,vdn⟩:=vau vdc (by omega);have hgc:wr.cell? ⟨gd,x.1,none⟩=some (str (van (lJ PS k) x.1)):=hgd _ _ (by unfold aA;rw[List.getElem?_map,vb6 _ (by rw[←CI];exact uh.1)];rfl);obtain⟨hc1,yp⟩:=vb4 PS.pend k x hx;have hc1:=vdn _ _ hc1;have yp:=vdn _ _ yp;clear hgd vdn;obtain⟨i,bs⟩:=x;obtain⟨hin,xS⟩:=uh;dsimp only at hin xS hc1 yp hgc hds;have Jz:(i:Int)<(S.n:Int):=by omega
   have sA:(k:Int)<(L:Int):=by omega
   have hfz:wr.frozen? ⟨gd,i,none⟩=false:=by
    obtain⟨_,cur,e⟩:=vao hrd (g:=gd) rfl;exact au e i
   have vde:B≤wr.heap.size:=Nat.le_trans Ed Rx.cV.size;generalize van (lJ PS k) i=sk at *;have b:=hM.box;go_upto_region 6 with fail;clear b;refine cF (D:=λ_=>True) (w:=wr) 21 [(0,vP m 0),(3,vI k)] [vP m 0,vP m 0,vP m 0,.eq (.slice (some ⟨gd,0,none⟩) S.n c),vP m 0,vP m 0,vP m 1,.eq (.slice (some ⟨vf9,0,none⟩) L c2),vI k,vP vf9 (k * 2),vP vf9 (k * 2),vI i,vP m 0,vP m 0,vP m 1,.eq (.slice (some ⟨vf9,0,none⟩) L c2),vI k,vP vf9 (k * 2),vP vf9 (k * 2+1),.eq (str bs),vP gd i]
    (λw'=>Below wr.heap.size wr w')
    (λw'=>vag B w' m (.slice (some ⟨gd,0,none⟩) S.n c) (.slice (some ⟨vf9,0,none⟩) L c2) {PS with iY:=lJ PS (k+1) }∧vf7 B w w') (by kernel_rfl) rfl rfl
    (λw w' h hb=>h.trans (aa hb h.size)) (zb wr).drew ⟨rfl,rfl,trivial⟩ ?_ ?_ ?_
   · exact⟨iU rfl rfl (by kernel_rfl),ic rfl (by kernel_rfl) rfl rfl,gQ rfl (by kernel_rfl) rfl rfl (λw=>by simp[go_sem]),dV rfl (by kernel_rfl) rfl rfl (λw hS=>by have c1:=(hM.below hS zr).box;simp[go_sem,c1]),iU rfl rfl (by kernel_rfl),ic rfl (by kernel_rfl) rfl rfl,gQ rfl (by kernel_rfl) rfl rfl (λw=>by simp[go_sem]),dV rfl (by kernel_rfl) rfl rfl (λw hS=>by have c1:=(hM.below hS zr).box;simp[go_sem,c1]),iU rfl rfl (by kernel_rfl),iQ rfl (by kernel_rfl) rfl rfl rfl (λw=>by simp[go_sem,sA]),gQ rfl (by kernel_rfl) rfl rfl (λw=>by simp[go_sem]),dV rfl (by kernel_rfl) rfl rfl (λw hS=>by have c1:=Below.keep hS hc1;simp[go_sem,c1]),iU rfl rfl (by kernel_rfl),ic rfl (by kernel_rfl) rfl rfl,gQ rfl (by kernel_rfl) rfl rfl (λw=>by simp[go_sem]),dV rfl (by kernel_rfl) rfl rfl (λw hS=>by have c1:=(hM.below hS zr).box;simp[go_sem,c1]),iU rfl rfl (by kernel_rfl),iQ rfl (by kernel_rfl) rfl rfl rfl (λw=>by simp[go_sem,sA]),gQ rfl (by kernel_rfl) rfl rfl (λw=>by simp[go_sem]),dV rfl (by kernel_rfl) rfl rfl (λw hS=>by have c1:=Below.keep hS yp;simp[go_sem,c1]),iQ rfl (by kernel_rfl) rfl rfl rfl (λw=>by simp[go_sem,Jz]),trivial⟩
   · intro a' wx hS hV hout next hn
     have e1:a'.eval (.tmp 42)=.pointer (some ⟨gd,i,none⟩):=hV 20 _ 42 (by decide) rfl rfl;have e2:a'.eval (.tmp 41)=str bs:=hV 19 _ 41 (by decide) rfl rfl;have Wb:=hM.below hS zr;have vdy:=Wb.iY;dsimp only at vdy;obtain⟨hgB,cur,vbu⟩:=vao vdy (g:=gd) rfl;have c1:=Below.keep hS hgc;have c2:wx.frozen? ⟨gd,i,none⟩=false:=au vbu i;have hst:(Instr.storeAt 9 (.pointer (some ⟨gd,i,none⟩)) (str bs)).run Tryz.prog wx=.ok () (wx.setCell ⟨gd,i,none⟩ (str bs)):=by simp[go_sem,c1,c2]
     refine aY rfl e1 e2 hst (hn _ _ ⟨?_,(Rx.trans (vf7.ai hS zr vde)).put vbu (.inr (.inl rfl)) hgB _⟩);have:=Wb.J1 (g:=gd) rfl hin xS;dsimp only at this;rw[hds.out];exact this
   · intro ax wx oO
     simp only[pq,pz,pw];have hk1:(k:Int)+1≤9223372036854775807:=by omega
     clear hM hrd vdc;go_wp2_with fail;exact⟨⟨k+1,hlt,by go_num,oO.1,oO.2⟩,by simp only[intOf];omega⟩
end
theorem vb3 {D:Nat→Prop} {P:Program} {ops:Array Oper} {a0:Act} {Q:Exit→Act→World→Prop} {id:Nat} {w:World} {oS:Oper} {d:Option Nat} (h:Nat) (E:List (Nat×VS)) (V:List VS) (S:World→Prop) (S3:Act→Value→World→Prop)
 (hok:AB P ops h a0.tmps.size=true) (hs:ops[h]? =some oS) (hds:oS.dst=d)
 (fR:∀w w',S w→Below w.heap.size w w'→S w') (hS:S w.drew) (hE:jG D w.drew a0 E) (hst:dJ D P S ops (h+1) V E 0 (ops.toList.take h))
 (DQ:∀a w,S w→(∀(j:Nat) (s:VS) (d:Nat),j<h→V[j]? =some s→(ops[j]?).bind (·.dst)=some d→s.holds D w (a.eval (.tmp d)))→(∀s,jI ops h s→a.eval (.tmp s)=a0.eval (.tmp s))→∀next:Act→World→Prop,(∀v w',S3 a v w'→next (a.put oS.dst v) w')→oS.wp P a w next Q)
 (hend:∀a v w,S3 a v w→Q .normal ((bD a (ops.toList.take h) a0).put d v) w):
 (Code.region id ops true).wp P Q a0 w:=by
 unfold AB at hok
 simp only[Bool.and_eq_true,decide_eq_true_eq] at hok
 obtain⟨k1,k2,k3,k4,k5,k6,k7⟩:=hok
 have hgd:∀o∈ops.toList,o.guard=none:=by
  unfold eo at k5;simp only[Bool.and_eq_true,List.all_eq_true,decide_eq_true_eq] at k5;exact λo ho=>(k5.2 o ho).1
 have steps:∀(l:List Oper) (k:Nat),(∀o∈l,o.guard=none)→dJ D P S ops (h+1) V E k l→tM P .any ops Q (AK D S E a0) (mB D V) a0 h k l:=by
  intro l
  induction l with
  | nil=>exact λ_ _ _=>trivial
  | cons o l ih=>exact λk hg hs=>⟨E4 (hg o (by simp)) hs.1 (by omega),ih (k+1) (λx hx=>hg x (by simp[hx])) hs.2⟩
 refine oV (S:=AK D S E a0) (A:=mB D V) h k1 (by omega) k2 k4 k5 (λj v w1 w2 h hb s hs=>(h s hs).below hb) (λw1 w2 h hb=>⟨fR _ _ h.1 hb,λp hp=>(h.2 p hp).below hb⟩) ⟨hS,hE.all⟩
  (xC (steps _ 0 (λo ho=>hgd o (List.mem_of_mem_take ho)) hst)) ?_
 intro a w hdf hsz hout Bb hA
 rw[show ops.size - h=1 by omega]
 refine wpAny_all (rs:=[h]) k6 (by simp) λi hi=>?_
 obtain rfl:i=h:=by simpa using hi
 unfold wpOp
 simp only[hs]
 rw[if_pos (by simp[Region.wanted,hgd oS (List.mem_of_getElem? (by rw[Array.getElem?_toList];exact hs))])]
 left
 refine DQ a w Bb.1 (λj s d hj hsj hd=>?_) (λs hs=>hout s hs) _ λv w' h3=>?_
 · rw[Option.bind_eq_some_iff] at hd
   obtain⟨oj,jt,rG⟩:=hd;exact hA j oj d hj jt rG s hsj
 · refine wpAny_done k7 ?_ 0
   have:=hend a v w' h3;rw[←ng hdf hsz hout,←hds] at this;exact this
def vdu (K:Nat) (w:World) (v:Value):Prop:=∃g,v=.pointer (some ⟨g,0,none⟩)∧K≤g∧w.heap[g]? =some (.cells (aH (List.replicate 64 0)).toArray 145 (0,0))
theorem vdq {D:Nat→Prop} {ops:Array Oper} {h:Nat} {V:List VS} {E:List (Nat×VS)} {S:World→Prop} {k:Nat} {o:Oper} {K:Nat} (ho:o.op=.alloc 145) (hw:cw ops h V o=some true) (hk:V[k]? =some (.prop (vdu K))) (hS:∀w,S w→K≤w.heap.size):bB D Tryz.prog S ops h V E k o:=by
 refine rQ [] hw hk rfl (λa w Q aF hi next hnx=>?_)
 have hrun:(execOp a.eval o).run Tryz.prog w=.ok (.value (.pointer (some ⟨w.heap.size,0,none⟩))) (w.alloc (.cells xO 145)):=by
  unfold execOp;simp only[ho]
  kernel_rfl
 refine aR hrun (hnx _ _ (λw' hb=>⟨_,rfl,hS w aF,?_⟩) ((zb w).alloc zr _))
 exact(hb.block _ (aj (heap_alloc_new w _))).trans ((heap_alloc_new w _).trans (congrArg (λz=>some (Obj.cells z 145 (0,0))) G5))
theorem vc5 {D:Nat→Prop} {ops:Array Oper} {o:Oper} {a:Act} {Q:Exit→Act→World→Prop} {w:World} {K:Act→World→Prop} (hgd:o.guard=none) (d s:Operand) (ho:o.op=.call {callee:=.builtin .copy,args:= #[d,s],argTypes:= #[38,38] }) {g f n c:Nat} {v:Value} {ds bs:List UInt8} (hd:a.eval d=.slice (some ⟨g,f,none⟩) n c) (hs:a.eval s=v)
 (hl1:ds.length=64) (hg1:w.heap[g]? =some (.cells (aH ds).toArray 145 (0,0))) (hv:CV D w v (aH bs)) (hl:bs.length≤n) (hf:f+n≤64) (h:∀w' u,w'.heap[g]? =some (.cells (aH (ds.take f++(bs++ds.drop (f+bs.length)))).toArray 145 (0,0))→Below g w w'→K (a.put o.dst u) w'):o.wp Tryz.prog a w K Q:=by
 obtain⟨p,cc,rfl,hcl,hcm,h4⟩:=hv
 have:=step_copy_splice (P:=Tryz.prog) (ops:=ops) (K:=K) (Q:=Q) (E:=True) hgd d s 38 38 ho 5 Tryz.underlying38 (by kernel_rfl) _ _ n c (aH bs).length cc hd hs g f (aH ds) 145 hg1 (aH bs) (Nat.min_eq_left (by rw[ak];exact hl)).symm (λh0=>⟨rfl,by
  rcases h4 with h4|⟨b,o',rfl,_,_,hc⟩
  · rw[h4] at h0
    simp at h0
  · exact⟨⟨b,o',none⟩,rfl,λj u hj=>by rw[eH];exact hc j u hj⟩⟩) (by rw[ak,ak,hl1];omega) (bF.u8 bs).one g w (Below.refl g w) zr λw' h5 h6=>
  h w' _ (by rw[h5.out,BZ]) h6
 rwa [if_pos (by simp[Region.wanted,hgd])] at this
theorem vbf (G o n:Nat) (hn:n≤64) (w:World):(Instr.sliceAt 145 (.pointer (some ⟨G,o,none⟩)) none (some (.int .i64 (n:Int))) none).run Tryz.prog w=.ok (.slice (some ⟨G,o,none⟩) n 64) w:=by
 have e:Tryz.prog.arrayLen 145=64:=by kernel_rfl
 have h:=run_sliceAt_array_h (P:=Tryz.prog) w 145 ⟨G,o,none⟩ (by kernel_rfl) .i64 (n:Int) (by omega) (by omega)
 rw[h,e]
 have e2:(sizeOf (Tryz.prog.elem 145)).run Tryz.prog w=.ok 1 w:=by kernel_rfl
 rw[e2]
 show Result.ok (slicedAt ⟨G,o,none⟩ 0 (n:Int).toNat 64 1) w=_
 simp[slicedAt,eH]
theorem bw.vdw {B:Nat} {w:World} {a b1 b2:Nat} {pv:Value} {S:dc} (h:bw B w a b1 b2 pv S) (i:Nat):w.rangeAt b1 (i * 64) (aH (van S.iY i)):=λj v hj=>by
 unfold aH at hj
 rw[List.getElem?_map] at hj
 obtain⟨x,hx,rfl⟩:=Option.map_eq_some_iff.1 hj
 refine(af h.iY _).trans ?_
 unfold aH
 simp[vc7 hx]
theorem vd1 (l:List UInt8):∀v∈(aH l).toArray.toList,v.oneCell'=true:=λv hv=>by
 rw[List.toList_toArray] at hv
 obtain⟨b,_,rfl⟩:=List.mem_map.1 hv
 rfl
theorem vcd (d:List UInt8) (n:Nat) {b:Nat} (w:World) (hb:w.heap[b]? =some (.cells (aH d).toArray 145 (0,0))) (hl:d.length=n * 64) (hn:0<n∧n≤65536):
 Calls Tryz.prog 82 #[.slice (some ⟨b,0,none⟩) n n] w λe w'=>∃v',e=.returned v'∧w'.ownsRow w.heap.size 145 64 v' n (aH d)∧Below w.heap.size w w':=by
 obtain⟨i0,kN,hz0,hz1,hz2⟩:=aV yJ
 have Bj:=λ(w:World) (a:Option Addr) (n c:Nat)=>Lib.run_eql_slice_nil (P:=Tryz.prog) w 130 145 a n c 0 0 (by kernel_rfl)
 obtain⟨cs,hcs⟩:∃cs,aH d=cs:=⟨_,rfl⟩
 have hcl:cs.length=n * 64:=by rw[←hcs,ak,hl]
 have hone:∀u∈cs,u.oneCell'=true:=λu hu=>by
  rw[←hcs] at hu;obtain⟨x,_,rfl⟩:=List.mem_map.1 hu
  rfl
 rw[hcs] at hb
 have hE:(w.alloc (.cells #[] 145)).ownsRow w.heap.size 145 64 (.slice (some ⟨w.heap.size,0,none⟩) 0 0) 0 []:=
  ⟨rfl,.inr ⟨w.heap.size,0,#[],rfl,nl _,heap_alloc_new w _,nl _,Nat.zero_le _,rfl,rfl⟩⟩
 have DU:∀(j:Nat) (u:Value),cs[j]? =some u→(w.alloc (.cells #[] 145)).cell? ((⟨b,0,none⟩:Addr).add j)=some u:=λj u hj=>by
  refine Below.keep ((zb w).alloc zr _) ?_;rw[eH];exact(af hb (0+j)).trans (by simpa using hj)
 clear hb hl
 rw[hcs]
 clear hcs
 go_enter Tryz.func82,Tryz.ntmps82
 go_wp2_with (at_builtin;refine wpList_append_own (w.alloc (.cells #[] 145)) rfl _ _ 130 rfl w.heap.size 145 i0 _ 64 64 (by kernel_rfl) kN hz0 hz1 hz2 rfl (by decide) (.slice (some ⟨w.heap.size,0,none⟩) 0 0) 0 [] rfl hE ⟨b,0,none⟩ n n cs rfl hcl DU hone (by unfold maxLen;omega) (by omega) (by simp) ?_;intro v' w3 ew hgr _)
 go_ret
 rw[List.nil_append,Nat.zero_add] at ew
 exact⟨v',rfl,ew,((zb w).alloc zr _).grown hgr (by simp) (λb e=>by cases e;exact nl _)⟩
