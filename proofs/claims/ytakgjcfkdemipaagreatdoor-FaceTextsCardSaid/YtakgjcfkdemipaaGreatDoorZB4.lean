/-
  Lemmas for the statement: its ways. Conditions: bounds of lengths; the variable strings.asciiSpace.
-/
import Derived.Test.YtakgjcfkdemipaaGreatDoorZBn
import Derived.Test.YtakgjcfkdemipaaGreatDoorZB2
import Derived.Test.YtakgjcfkdemipaaGreatDoorZB3
set_option maxHeartbeats 3200000
namespace Go.Proofs.YtakgjcfkdemipaaGreatDoor
open Go.RowKit
structure Env (w:World) (R Nd X rb:Nat):Prop where
 r:w.cell? ⟨R,0,none⟩=some (.pointer (some ⟨rb,0,none⟩))
 need:w.cell? ⟨Nd,0,none⟩=some (.func (.func 251) #[] #[])
 next:w.cell? ⟨X,0,none⟩=some (.func (.func 252) #[] #[.pointer (some ⟨R,0,none⟩),.pointer (some ⟨Nd,0,none⟩),.pointer (some ⟨X,0,none⟩)])
 nr:R≠rb
 nn:Nd≠rb
 nx:X≠rb
 nt:rb≠1
structure Rest (w:World) (rb:Nat) (s:List UInt8):Prop where
 cell:w.cell? ⟨rb,0,none⟩=some (str s)
 free:w.frozen? ⟨rb,0,none⟩=false
theorem Env.kept {w w':World} {R Nd X rb:Nat} (h:Env w R Nd X rb) (k:Kept rb w w'):Env w' R Nd X rb:=
 ⟨k.cell h.r h.nr,k.cell h.need h.nn,k.cell h.next h.nx,h.nr,h.nn,h.nx,h.nt⟩
theorem Rest.below {B:Nat} {w w':World} {rb:Nat} {s:List UInt8} (h:Rest w rb s) (hb:Below B w w') (hB:w.heap.size≤B):Rest w' rb s:=by
 have:=World.block_lt_of_cell? _ _ h.cell
 simp at this
 exact⟨(hb.cell (by simp;omega)).trans h.cell,(hb.frozen (by simp;omega)).trans h.free⟩
def aO (w:World) (rb:Nat) (s:List UInt8) (e:Ending) (w':World):Prop:=
 match aM s with
 | some (t,r)=>(∃v,e=.returned (.agg #[.int .u8 t.k,str t.n,v])∧dB w' (λb=>w.heap.size≤b) t.sub v)∧Rest w' rb r∧Kept rb w w'
 | none=>e=.panicked dL∧Kept rb w w'
def fH (s:List UInt8):Prop:=∀(R Nd X rb:Nat) (w:World),dW w→Env w R Nd X rb→Rest w rb s→
 Calls Tryz.prog 252 #[.pointer (some ⟨R,0,none⟩),.pointer (some ⟨Nd,0,none⟩),.pointer (some ⟨X,0,none⟩)] w (aO w rb s)
theorem dN (p r:List UInt8) (rb:Nat) (w:World) (h:Rest w rb (p++r)):
 Calls Tryz.prog 253 #[.pointer (some ⟨rb,0,none⟩),str p] w λe w'=>e=.returned (.bool true)∧Rest w' rb r∧Kept rb w w':=by
 refine(E8 p r rb w h.cell h.free).mono ?_
 rintro e w' ⟨he,rfl⟩
 exact⟨he,⟨World.cell?_setCell_same' _ _ _ (by rw[h.cell];rfl),by rw[World.frozen?_setCell];exact h.free⟩,Kept.setCell _ _ _ _⟩
theorem eC (l:List UInt8) (rb:Nat) (w:World) (hl:l.length≤maxLen) (h:Rest w rb l):
 Calls Tryz.prog 254 #[.pointer (some ⟨rb,0,none⟩)] w λe w'=>e=.returned (str (l.take (aj l)))∧Rest w' rb (l.drop (aj l))∧Kept rb w w':=by
 refine(Fl l rb w hl h.cell h.free).mono ?_
 rintro e w' ⟨he,rfl⟩
 exact⟨he,⟨World.cell?_setCell_same' _ _ _ (by rw[h.cell];rfl),by rw[World.frozen?_setCell];exact h.free⟩,Kept.setCell _ _ _ _⟩
theorem Env.alloc {w:World} {R Nd X rb:Nat} (h:Env w R Nd X rb) (o:Obj):Env (w.alloc o) R Nd X rb:=h.kept (Kept.alloc rb w o)
theorem Rest.alloc {w:World} {rb:Nat} {s:List UInt8} (h:Rest w rb s) (o:Obj):Rest (w.alloc o) rb s:=h.below (B:=w.heap.size) ((zb _).alloc zr _) zr
theorem Kept.kC {rb:Nat} {w w1:World} (h:Kept rb w w1) {B:Nat} (hB:w.heap.size≤B) (j:Nat) (u:Value):Kept rb w (w1.setCell ⟨B,j,none⟩ u):=
 ⟨h.os,h.tape,h.output,by simpa[World.setCell] using h.size,λi hi hne=>(Below.heap_setCell _ _ _ _ (by simp;omega)).trans (h.block i hi hne)⟩
theorem Rest.eU {w:World} {rb:Nat} {s:List UInt8} (h:Rest w rb s) {B:Nat} (hB:B≠rb) (j:Nat) (u:Value):Rest (w.setCell ⟨B,j,none⟩ u) rb s:=
 ⟨by rw[World.cell?_of_block (Below.heap_setCell _ _ _ _ (Ne.symm hB))];exact h.cell,by rw[World.frozen?_setCell];exact h.free⟩
theorem z7 (r:List UInt8):fH (63::116::r):=by
 intro R Nd X rb w ht he hs
 have a1:=λo=>(he.alloc o).r
 have hlt:=World.block_lt_of_cell? _ _ hs.cell
 simp only at hlt
 have hP:∀e w',aO w rb (63::116::r) e w'↔((∃v,e=.returned (.agg #[.int .u8 (8:Nat),str [],v])∧dB w' (λb=>w.heap.size≤b) .nil v)∧Rest w' rb r∧Kept rb w w'):=by
  intro e w';unfold aO;rw[kz]
 have HP:=zh hP
 clear hP
 go_enter Tryz.func252,Tryz.ntmps252
 go_wp2_with fail
 refine(dN [63,116] r rb _ (hs.alloc _)).mono ?_
 rintro e w1 ⟨rfl,hr1,hk1⟩
 have hB:=hk1.heap (heap_alloc_new w _) (by omega)
 have c0:=(ak hB 0).trans rfl
 have c1:=(ak hB 1).trans rfl
 have c2:=(ak hB 2).trans rfl
 have f0:=az hB 0
 have f1:=az hB 1
 have f2:=az hB 2
 go_wp2_with fail
 refine bodyPost_ret (v:=.agg #[.int .u8 8,.string ⟨#[]⟩,.slice none 0 0]) (by simp[results,Tryz.results252,go_sem,c0,c1,c2]) rfl ?_
 rw[HP.out]
 have hk:=((Kept.alloc rb w _).trans hk1)
 have hne:w.heap.size≠rb:=by omega
 exact⟨⟨_,rfl,dB.nil _ _⟩,((hr1.eU hne _ _).eU hne _ _).eU hne _ _,((hk.kC zr _ _).kC zr _ _).kC zr _ _⟩
theorem AG (s:List UInt8):∀c∈s.take (aj s),eG c=true:=by
 intro c hc
 have e:s.take (aj s)=s.takeWhile eG:=by
  unfold aj
  conv=>lhs;arg 2;rw[←List.takeWhile_append_dropWhile (p:=eG) (l:=s)]
  rw[List.take_left']
  rfl
 rw[e] at hc
 exact List.all_eq_true.1 List.all_takeWhile c hc
theorem kF (s:List UInt8):wk (s.take (aj s))=bW (s.take (aj s)):=by
 have h:=AG s
 generalize s.take (aj s)=w at h
 unfold wk bW mA gC jT
 have hn:∀x,w≠x++[91]:=by
  rintro x rfl;have:=h 91 (by simp);revert this;decide
 rw[if_neg (show w≠[97,114,114,97,121,91] from hn [97,114,114,97,121]),if_neg (show w≠[114,101,99,111,114,100,91] from hn [114,101,99,111,114,100]),if_neg (show w≠[111,110,101,111,102,91] from hn [111,110,101,111,102])]
theorem gP (w:List UInt8):wk (w++[91])=aW w:=by
 have hne:∀(x:List UInt8) (c:UInt8),c≠91→w++[91]≠x++[c]:=by
  intro x c hc e;have:=congrArg List.getLast? e;simp at this;exact hc this.symm
 have heq:∀x:List UInt8,(w++[91]=x++[91])↔w=x:=by intro x;simp
 unfold wk aW eB eu fK
 rw[if_neg (show w++[91]≠[105,110,116] from hne [105,110] 116 (by decide)),if_neg (show w++[91]≠[98,111,111,108] from hne [98,111,111] 108 (by decide)),if_neg (show w++[91]≠[110,117,108,108] from hne [110,117,108] 108 (by decide))]
 have e1:(w++[91]=[97,114,114,97,121,91])=(w=[97,114,114,97,121]):=propext (heq [97,114,114,97,121])
 have e2:(w++[91]=[114,101,99,111,114,100,91])=(w=[114,101,99,111,114,100]):=propext (heq [114,101,99,111,114,100])
 have e3:(w++[91]=[111,110,101,111,102,91])=(w=[111,110,101,111,102]):=propext (heq [111,110,101,111,102])
 simp only[e1,e2,e3]
theorem eP {s:List UInt8} (h:cV s):Lib.hasPrefix s [63,116]=false:=by
 unfold Lib.hasPrefix
 match s,h with
 | [],_=>rfl
 | [a],_=>simp[List.isPrefixOf]
 | a::b::r,h=>
  simp[List.isPrefixOf];rintro rfl rfl;exact h r rfl
theorem fB {s:List UInt8} {c:UInt8} (h:∀r,s≠c::r):Lib.hasPrefix s [c]=false:=by
 unfold Lib.hasPrefix
 match s,h with
 | [],_=>rfl
 | a::r,h=>
  simp[List.isPrefixOf];rintro rfl;exact h r rfl
structure St (w W:World) (R Nd X rb:Nat) (s:List UInt8):Prop where
 qF:Env w R Nd X rb
 CT:dW w
 rest:Rest W rb s
 kept:Kept rb w W
 lt:rb<w.heap.size
 res:W.heap[w.heap.size]? =some (.cells #[.int .u8 0,.string ⟨#[]⟩,.slice none 0 0] 174 (0,0))
section
variable {w W W':World} {R Nd X rb:Nat} {s s':List UInt8}
theorem St.env (h:St w W R Nd X rb s):Env W R Nd X rb:=h.qF.kept h.kept
theorem St.tab (h:St w W R Nd X rb s):dW W:=h.CT.kept h.kept h.qF.nt
theorem St.start (ht:dW w) (he:Env w R Nd X rb) (hs:Rest w rb s):St w (w.alloc (.cells #[.int .u8 0,.string ⟨#[]⟩,.slice none 0 0] 174)) R Nd X rb s:=
 ⟨he,ht,hs.alloc _,Kept.alloc rb w _,by have:=World.block_lt_of_cell? _ _ hs.cell;simpa using this,heap_alloc_new w _⟩
theorem St.next (h:St w W R Nd X rb s) (k:Kept rb W W') (hr:Rest W' rb s'):St w W' R Nd X rb s':=
 ⟨h.qF,h.CT,hr,h.kept.trans k,h.lt,k.heap h.res (by have:=h.lt;omega)⟩
theorem St.quiet (h:St w W R Nd X rb s) (hb:Below W.heap.size W W'):St w W' R Nd X rb s:=
 h.next (Kept.ey hb zr) (h.rest.below hb zr)
theorem St.alloc (h:St w W R Nd X rb s) (o:Obj):St w (W.alloc o) R Nd X rb s:=h.next (Kept.alloc _ _ _) (h.rest.alloc o)
theorem St.size (h:St w W R Nd X rb s):w.heap.size<W.heap.size:=(Array.getElem?_eq_some_iff.1 h.res).1
theorem St.drew (h:St w W R Nd X rb s):St w W.drew R Nd X rb s:=⟨h.qF,h.CT,⟨h.rest.cell,h.rest.free⟩,h.kept.drew,h.lt,h.res⟩
theorem St.drewN (h:St w W R Nd X rb s) (n:Nat):St w (W.drewN n) R Nd X rb s:=
 ⟨h.qF,h.CT,⟨h.rest.cell,h.rest.free⟩,⟨h.kept.os,h.kept.tape,h.kept.output,h.kept.size,h.kept.block⟩,h.lt,h.res⟩
theorem St.set (h:St w W R Nd X rb s) {B:Nat} (hB:w.heap.size<B) (j:Nat) (u:Value):St w (W.setCell ⟨B,j,none⟩ u) R Nd X rb s:=
 ⟨h.qF,h.CT,h.rest.eU (by have:=h.lt;omega) j u,h.kept.kC (by omega) j u,h.lt,by rw[Below.heap_setCell _ _ _ _ (by simp;omega)];exact h.res⟩
theorem St.grown (h:St w W R Nd X rb s) {row:Option Nat} (hg:W.grownBy W' row) (hrow:∀b,row=some b→w.heap.size<b):St w W' R Nd X rb s:=by
 have hl:=h.lt
 have hz:=h.size
 refine⟨h.qF,h.CT,⟨?_,?_⟩,⟨hg.os.trans h.kept.os,hg.tape.trans h.kept.tape,hg.output.trans h.kept.output,Nat.le_trans h.kept.size hg.size,λi hi hne=>(hg.block i (by omega) (λe=>by have:=hrow i e.symm;omega)).trans (h.kept.block i hi hne)⟩,h.lt,?_⟩
 · rw[World.cell?_of_block (hg.block rb (by omega) (λe=>by have:=hrow rb e.symm;omega))];exact h.rest.cell
 · rw[World.frozen?_of_block (hg.block rb (by omega) (λe=>by have:=hrow rb e.symm;omega))];exact h.rest.free
 · rw[hg.block _ hz (λe=>by have:=hrow _ e.symm;omega)];exact h.res
end
theorem St.sN {w W:World} {R Nd X rb:Nat} {s:List UInt8} (h:St w W R Nd X rb s):
 (W.cell? ⟨w.heap.size,0,none⟩=some (.int .u8 0)∧W.cell? ⟨w.heap.size,1,none⟩=some (.string ⟨#[]⟩)∧W.cell? ⟨w.heap.size,2,none⟩=some (.slice none 0 0))∧
 W.frozen? ⟨w.heap.size,0,none⟩=false∧W.frozen? ⟨w.heap.size,1,none⟩=false∧W.frozen? ⟨w.heap.size,2,none⟩=false:=
 ⟨⟨ak h.res 0,ak h.res 1,ak h.res 2⟩,az h.res 0,az h.res 1,az h.res 2⟩
theorem St.done {w W:World} {R Nd X rb:Nat} {s:List UInt8} (h:St w W R Nd X rb s) (a b c:Value):
 Rest (((W.setCell ⟨w.heap.size,0,none⟩ a).setCell ⟨w.heap.size,1,none⟩ b).setCell ⟨w.heap.size,2,none⟩ c) rb s∧Kept rb w (((W.setCell ⟨w.heap.size,0,none⟩ a).setCell ⟨w.heap.size,1,none⟩ b).setCell ⟨w.heap.size,2,none⟩ c):=by
 have hne:w.heap.size≠rb:=by have:=h.lt;omega
 exact⟨((h.rest.eU hne _ _).eU hne _ _).eU hne _ _,((h.kept.kC zr _ _).kC zr _ _).kC zr _ _⟩
theorem cK {w:World} {b:Nat} {cs:Array Value} {t:TypeId} {z:Nat×Nat} (h:w.heap[b]? =some (.cells cs t z)) (j:Nat) (u:Value):(w.setCell ⟨b,j,none⟩ u).heap[b]? =some (.cells (cs.setIfInBounds j u) t z):=by
 simp[World.setCell,Array.getElem?_modify,h]
theorem vA {w:World} {g:Nat} {cs:List Value} {e:TypeId} {n:Nat} (h:w.heap[g]? =some (.cells cs.toArray e (0,0))) (hl:cs.length=n * 4) (hn:n≤maxLen):w.ownsRow 0 e 4 (.slice (some ⟨g,0,none⟩) n n) n cs:=
 ⟨hl,.inr ⟨g,n,cs.toArray,rfl,Nat.zero_le _,h,nl _,hn,by simpa using hl,by rw[←hl];simp⟩⟩
theorem dB.yC {w W:World} {D:Nat→Prop} {fo:Fo} {v:Value} (h:dB W D fo v) (hD:∀b,D b→b≠w.heap.size) (a b c:Value):dB (((W.setCell ⟨w.heap.size,0,none⟩ a).setCell ⟨w.heap.size,1,none⟩ b).setCell ⟨w.heap.size,2,none⟩ c) D fo v:=
 h.kept λk hk _=>by rw[Below.heap_setCell _ _ _ _ (hD k hk),Below.heap_setCell _ _ _ _ (hD k hk),Below.heap_setCell _ _ _ _ (hD k hk)]
theorem Cs (s:List UInt8) (hm:s.length≤maxLen) (hp:cV s) (h0:bW (s.take (aj s))≠0):fH s:=by
 intro R Nd X rb w ht he hs
 have hP:∀e w',aO w rb s e w'↔((∃v,e=.returned (.agg #[.int .u8 (bW (s.take (aj s))),str [],v])∧dB w' (λb=>w.heap.size≤b) .nil v)∧Rest w' rb (s.drop (aj s))∧Kept rb w w'):=by
  intro e w';unfold aO;rw[lC hp h0]
 have HP:=zh hP
 have hpre:=eP hp
 have HK:=zh (kF s)
 have hk0:((wk (s.take (aj s)):Int) != 0)=true:=by rw[HK.out,bne_iff_ne];omega
 clear hP h0 hp
 have h1:=St.start ht he hs
 have a1:=h1.env.r
 go_enter Tryz.func252,Tryz.ntmps252
 go_wp2_with fail
 generalize w.alloc (.cells #[.int .u8 0,.string ⟨#[]⟩,.slice none 0 0] 174)=W1 at *
 refine(cL s [63,116] rb _ h1.rest.cell hpre).mono ?_
 rintro e w1 ⟨rfl,rfl⟩
 go_wp2_with fail
 refine(eC s rb _ hm h1.rest).mono ?_
 rintro e w2 ⟨rfl,hr2,hk2⟩
 have h2:=h1.next hk2 hr2
 have b1:=h2.env.r
 obtain⟨⟨c0,c1,c2⟩,f0,f1,f2⟩:=h2.sN
 go_wp2_with (go_at_call 255;refine(jD _ _).mono ?_;rintro e w3 ⟨rfl,rfl⟩)
 refine bodyPost_ret (v:=.agg #[.int .u8 (wk (s.take (aj s))),.string ⟨#[]⟩,.slice none 0 0]) (by simp[results,Tryz.results252,go_sem,c0,c1,c2]) rfl ?_
 rw[HP.out,HK.out]
 obtain⟨g1,g2⟩:=h2.done (.int .u8 (bW (s.take (aj s)))) (.string ⟨#[]⟩) (.slice none 0 0)
 exact⟨⟨_,rfl,dB.nil _ _⟩,g1,g2⟩
theorem dB.shape {w:World} {D:Nat→Prop} {fo:Fo} {v:Value} (h:dB w D fo v):∃p c,v=.slice p fo.len c∧(fo.len≠0→∃g,p=some ⟨g,0,none⟩∧D g∧g<w.heap.size∧fo.len≤c∧w.cell? ⟨g,(fo.len - 1) * 4,none⟩=some (str fo.last)):=by
 obtain⟨sc,h1,h2,h3⟩:=h
 rcases h1.2 with⟨rfl,hz⟩|⟨g,cap,cur,rfl,_,_,h4,_⟩
 · exact⟨none,0,by rw[hz],λhne=>absurd hz hne⟩
 · refine⟨some ⟨g,0,none⟩,cap,rfl,λhne=>⟨g,rfl,h2 g rfl,aK h1 rfl,h4,?_⟩⟩
   have:=h1.cells (g:=g) rfl _ _ (jE.last fo sc h3 hne);simp only[Addr.add] at this;split at this
   · rename_i e;rw[e];exact this
   · simpa using this
theorem Ec {n:Nat} (h:n=0):((n:Int)==0)=true:=by subst h;rfl
theorem iB {n:Nat} (h:n≠0):((n:Int)==0)=false:=by rw[beq_eq_false_iff_ne];omega
theorem uI {n:Nat} (h:n≠0) (hm:n≤1000):IntKind.i64.wrap ((n:Int) - 1)=((n - 1:Nat):Int):=by rw[IntKind.wrap_i64];omega
def yZ (w:World) (D:Nat→Prop) (fo:Fo) (v:Value):Prop:=∃sc,w.ownsRow 0 192 4 v fo.len sc∧(∀b,v.ownBlock=some b→D b)∧jE w (λb=>D b∧v.ownBlock≠some b) fo sc
theorem yZ.Kc {w:World} {D:Nat→Prop} {fo:Fo} {v:Value} (h:yZ w D fo v):dB w D fo v:=by
 obtain⟨sc,h1,h2,h3⟩:=h
 exact⟨sc,h1,h2,h3.mono λb hb _=>hb.1⟩
theorem yZ.nil (w:World) (D:Nat→Prop):yZ w D .nil (.slice none 0 0):=⟨[],World.ownsRow_nil _ _ _ _,by intro b h;simp[Value.ownBlock] at h,rfl⟩
theorem yZ.kept {w w':World} {D:Nat→Prop} (hb:∀b,D b→b<w.heap.size→w'.heap[b]? =w.heap[b]?) {fo:Fo} {v:Value} (h:yZ w D fo v):yZ w' D fo v:=by
 obtain⟨sc,h1,h2,h3⟩:=h
 exact⟨sc,cB h1 (λb e=>hb b (h2 b e) (aK h1 e)),h2,h3.kept λb hD=>hb b hD.1⟩
theorem yZ.mono {w:World} {D D':Nat→Prop} (hD:∀b,D b→b<w.heap.size→D' b) {fo:Fo} {v:Value} (h:yZ w D fo v):yZ w D' fo v:=by
 obtain⟨sc,h1,h2,h3⟩:=h
 exact⟨sc,h1,λb e=>hD b (h2 b e) (aK h1 e),h3.mono λb hb hlt=>⟨hD b hb.1 hlt,hb.2⟩⟩
theorem yZ.grow {W W':World} {D:Nat→Prop} {fo sub:Fo} {v v' vt:Value} {sc:List Value} {pn n:List UInt8} {k:Nat} (h2:∀b,v.ownBlock=some b→D b) (h3:jE W (λb=>D b∧v.ownBlock≠some b) fo sc)
 (ht:dB W (λb=>D b∧v.ownBlock≠some b) sub vt) (hN:D W.heap.size) (h':W'.ownsRow 0 192 4 v' (fo.len+1) (sc++[str pn,.int .u8 k,str n,vt])) (hg:W.grownBy W' v.ownBlock)
 (ho:v'.ownBlock=v.ownBlock∨v'.ownBlock=some W.heap.size):yZ W' D (fo.app (.cons pn k n sub .nil)) v':=by
 refine⟨_,by rw[Fo.vk];exact h',?_,?_⟩
 · intro b hb
   rcases ho with ho|ho
   · exact h2 b (ho▸hb)
   · rw[ho] at hb
     injection hb with hb;exact hb▸hN
 · have hall:=(jE.single (pn:=pn) (k:=k) (n:=n) ht).app fo sc h3
   refine((hall.mono (D':=λb=>D b∧v'.ownBlock≠some b∧v.ownBlock≠some b) λb hb hlt=>⟨hb.1,?_,hb.2⟩).kept (w':=W') λb hb hlt=>hg.block b hlt (λe=>hb.2.2 e.symm)).mono λb hb _=>⟨hb.1,hb.2.1⟩
   rcases ho with ho|ho
   · rw[ho];exact hb.2
   · rw[ho]
     intro e;injection e with e;omega
theorem xy:(Tryz.prog.info? 192).map (λi=>(i.zero,i.size,i.bytes))=some (some (.agg #[.string ⟨#[]⟩,.int .u8 0,.string ⟨#[]⟩,.slice none 0 0]),4,64):=by kernel_rfl
theorem mg:Tryz.prog.underlying 172=some (.slice 192):=by kernel_rfl
theorem A2 {fo:Fo} (h:fo.len=0):fo=.nil:=by
 cases fo with
 | nil=>rfl
 | cons=>simp[Fo.len] at h
structure Lp (w:World) (R Nd X rb B1 KN:Nat) (nm s2:List UInt8) (wr:World) (dn:Fo) (u:List UInt8):Prop where
 st:St w wr R Nd X rb u
 lo:w.heap.size<B1
 len:dn.len+u.length≤s2.length
 row:∃v,wr.heap[B1]? =some (.cells #[.int .u8 KN,str nm,v] 174 (0,0))∧yZ wr (λb=>B1<b) dn v
 eq:Hid (bU [] s2=(bU dn.last u).map λp=>(dn.app p.1,p.2))
section
variable {w wr:World} {R Nd X rb B1 KN:Nat} {nm s2:List UInt8} {dn:Fo} {u:List UInt8}
theorem Lp.nQ (h:Lp w R Nd X rb B1 KN nm s2 wr dn u) (hn:bU dn.last u=none):bU [] s2=none:=by
 rw[h.eq.out,hn];rfl
theorem Lp.start (h:St w wr R Nd X rb s2) (hB:w.heap.size<B1) (hx:wr.heap[B1]? =some (.cells #[.int .u8 KN,str nm,.slice none 0 0] 174 (0,0))):Lp w R Nd X rb B1 KN nm s2 wr .nil s2:=by
 refine⟨h,hB,by simp[Fo.len],⟨_,hx,yZ.nil wr _⟩,?_⟩
 show bU [] s2=(bU [] s2).map _
 rcases bU [] s2 with _|⟨a,b⟩
 · rfl
 · rfl
def mY (dn:Fo) (n:List UInt8):Prop:=isName n=true∧(dn.len=0∨Op.bytesLess dn.last n=true)
theorem mZ {dn:Fo} {n:List UInt8}:mY dn n↔(isName n=true∧Op.bytesLess dn.last n=true):=by
 unfold mY
 constructor
 · rintro⟨h1,h2⟩
   refine⟨h1,?_⟩;rcases h2 with h2|h2
   · rw[A2 h2]
     have:=rD h1;cases n with
     | nil=>simp at this
     | cons=>rfl
   · exact h2
 · rintro⟨h1,h2⟩
   exact⟨h1,.inr h2⟩
theorem uy (h:¬mY dn (u.take (aj u))):bU dn.last u=none:=ni λe=>h (mZ.2 e)
theorem rS (h:mY dn (u.take (aj u))) {u2:List UInt8} (hb:u.drop (aj u)=58::u2):
 bU dn.last u=match aM u2 with
  | some (t,r)=>match r with
   | 44::r2=>match bU (u.take (aj u)) r2 with
    | some (fo,r3)=>some (.cons (u.take (aj u)) t.k t.n t.sub fo,r3)
    | none=>none
   | _=>some (.cons (u.take (aj u)) t.k t.n t.sub .nil,r)
  | none=>none:=l6 (mZ.1 h).1 (mZ.1 h).2 hb
def Fo.snoc (dn:Fo) (n:List UInt8) (t:Tr):Fo:=dn.app (.cons n t.k t.n t.sub .nil)
theorem Fo.ry (dn:Fo) (n:List UInt8) (t:Tr):(dn.snoc n t).len=dn.len+1:=by unfold Fo.snoc;rw[Fo.vk];rfl
theorem Fo.zV (dn:Fo) (n:List UInt8) (t:Tr):(dn.snoc n t).last=n:=Fo.ud _ _ _ _ _
theorem Lp.Ii (h:Lp w R Nd X rb B1 KN nm s2 wr dn u) (hn:mY dn (u.take (aj u))) {u2 r:List UInt8} {t:Tr} (hb:u.drop (aj u)=58::u2) (hq:aM u2=some (t,r)) (hr:∀r',r≠44::r'):bU [] s2=some (dn.snoc (u.take (aj u)) t,r):=by
 rw[h.eq.out,rS hn hb,hq]
 simp only
 rfl
theorem Lp.step_eq (h:Lp w R Nd X rb B1 KN nm s2 wr dn u) (hn:mY dn (u.take (aj u))) {u2 r:List UInt8} {t:Tr} (hb:u.drop (aj u)=58::u2) (hq:aM u2=some (t,44::r)):bU [] s2=(bU (dn.snoc (u.take (aj u)) t).last r).map λp=>((dn.snoc (u.take (aj u)) t).app p.1,p.2):=by
 rw[h.eq.out,rS hn hb,hq,Fo.zV]
 simp only
 rcases bU (u.take (aj u)) r with _|⟨fo,r3⟩
 · rfl
 · simp only[Option.map_some,Option.some.injEq,Prod.mk.injEq,and_true]
   unfold Fo.snoc;rw[Fo.sS]
   rfl
end
theorem dB.at {w:World} {D:Nat→Prop} {fo:Fo} {v:Value} (h:dB w D fo v) {i:Nat} (hi:i<fo.len):∃g c pn t u,v=.slice (some ⟨g,0,none⟩) fo.len c∧D g∧g<w.heap.size∧fo.at i=some (pn,t)∧
 w.cell? ⟨g,i * 4,none⟩=some (str pn)∧w.cell? ⟨g,i * 4+1,none⟩=some (.int .u8 t.k)∧w.cell? ⟨g,i * 4+2,none⟩=some (str t.n)∧w.cell? ⟨g,i * 4+3,none⟩=some u∧dB w D t.sub u:=by
 obtain⟨sc,h1,h2,h3⟩:=h
 obtain⟨pn,t,u,a,b0,b1,b2,b3,c⟩:=h3.at fo sc i hi
 rcases h1.2 with⟨rfl,hz⟩|⟨g,cap,cur,rfl,_,_,h4,_⟩
 · omega
 · have hc:∀j x,sc[j]? =some x→w.cell? ⟨g,j,none⟩=some x:=by
    intro j x hx;have:=h1.cells (g:=g) rfl _ _ hx;simp only[Addr.add] at this;split at this
    · rename_i e;rw[e];exact this
    · simpa using this
   exact⟨g,cap,pn,t,u,rfl,h2 g rfl,aK h1 rfl,a,hc _ _ b0,hc _ _ b1,hc _ _ b2,hc _ _ b3,c⟩
theorem dB.vn {w:World} {D:Nat→Prop} {fo:Fo} {v:Value} (h:dB w D fo v):fo.len≤maxLen:=by
 obtain⟨sc,h1,h2,h3⟩:=h
 rcases h1.2 with⟨rfl,hz⟩|⟨g,cap,cur,rfl,_,_,h4,h5,_⟩
 · omega
 · omega
set_option maxRecDepth 4000 in
theorem oD:∀(m:Nat) (fo:Fo),fo.level≤m→m≤1000→∀(w:World) (D:Nat→Prop) (v:Value) (k:Nat) (n:List UInt8),dB w D fo v→Calls Tryz.prog 212 #[.agg #[.int .u8 k,str n,v]] w λe w'=>e=.returned (.int .i64 ((fo.level+1:Nat):Int))∧Below w.heap.size w w':=by
 intro m
 induction m with
 | zero=>
  intro fo hl hm w D v k n hv;have hz:fo=.nil:=by
   cases fo with
   | nil=>rfl
   | cons pn k n sub rest=>simp only[Fo.level] at hl;omega
  subst hz;obtain⟨p,c,rfl,_⟩:=hv.shape;go_enter Tryz.func212,Tryz.ntmps212;go_wp2_with fail;have jx:=(Below.refl w.heap.size w).alloc zr (.cells #[.int .u8 k,str n,.slice p Fo.nil.len c] 174);generalize w.alloc (.cells #[.int .u8 k,str n,.slice p Fo.nil.len c] 174)=W1 at *;go_loopw [3,9] (λa b wr=>a=.int .i64 0∧b=.int .i64 0∧wr=W1) (λ_ _ _=>0)
  case atStart=>exact⟨rfl,rfl,rfl⟩
  case round=>
   obtain⟨rfl,rfl,rfl⟩:=hrel;go_wp2_with fail;exact bodyPost_ret (v:=.int .i64 1) (by simp[results,Tryz.results212]) rfl ⟨rfl,jx⟩
 | succ m ih=>
  intro fo hl hm w D v k n hv;have hlen:=hv.vn;obtain⟨p,c,rfl,_⟩:=hv.shape;have IH:=zh ih;clear ih;go_enter Tryz.func212,Tryz.ntmps212;go_wp2_with fail;have jx:=(Below.refl w.heap.size w).alloc zr (.cells #[.int .u8 k,str n,.slice p fo.len c] 174);generalize w.alloc (.cells #[.int .u8 k,str n,.slice p fo.len c] 174)=W1 at *;go_loopw [3,9] (λa b wr=>∃i:Nat,i≤fo.len∧a=.int .i64 (fo.jm i)∧b=.int .i64 i∧Below w.heap.size w wr) (λ_ b _=>fo.len - (intOf b).toNat)
  case atStart=>exact⟨0,Nat.zero_le _,by cases fo<;>rfl,rfl,jx⟩
  case round=>
   obtain⟨i,hi,rfl,rfl,hb⟩:=hrel
   by_cases hlt:i<fo.len
   case pos=>
    obtain⟨g,c',pn,t,u,e,_,hg,hat,x0,x1,x2,x3,hu⟩:=hv.at hlt;injection e with e1 _ e2;subst e1 e2;obtain⟨p',c',rfl,_⟩:=hu.shape;have y0:=(hb.cell (by exact hg)).trans x0;have y1:=(hb.cell (by exact hg)).trans x1;have y2:=(hb.cell (by exact hg)).trans x2;have y3:=(hb.cell (by exact hg)).trans x3;clear x0 x1 x2 x3;have hlv:=fo.jG i pn t hat;have HS:=zh (fo.rA i pn t hat);have hle:=fo.xK i;have mT:=hb.alloc hb.size (.cells #[.string ⟨pn.toArray⟩,.int .u8 t.k,.string ⟨t.n.toArray⟩,.slice p' t.sub.len c'] 192);go_wp2_with fail;refine(IH.out t.sub (by omega) (by omega) _ D _ t.k t.n (hu.below mT zr)).mono ?_;rintro e w2 ⟨rfl,aC⟩;have aH:=mT.trans (⟨aC.os,aC.tape,aC.output,aC.size,λk hk=>aC.block k (by have:=mT.size;omega)⟩:Below w.heap.size _ _);clear y0 y1 y2 y3 aC mT;go_wp2_with fail;have hwi:wrap64 ((i:Int)+1)=((i+1:Nat):Int):=by unfold wrap64;unfold maxLen at hlen;omega
    rw[hwi];refine⟨⟨i+1,hlt,?_,rfl,aH⟩,?_⟩
    · rw[HS.out];congr 1;omega
    · simp only[intOf,Int.toNat_natCast];omega
   case neg=>
    have hie:i=fo.len:=by omega
    have HL:=zh (show fo.jm i=fo.level by rw[hie];exact fo.ue);clear hie;go_wp2_with fail;refine bodyPost_ret (v:=.int .i64 (wrap64 ((fo.jm i:Int)+1))) (by simp[results,Tryz.results212]) rfl ⟨?_,hb⟩;rw[HL.out];have:wrap64 ((fo.level:Int)+1)=((fo.level+1:Nat):Int):=by unfold wrap64;omega
    rw[this]
set_option maxRecDepth 4000 in
theorem tZ (k:Nat) (n:List UInt8) (p:Option Addr) (l c:Nat) (w:World):Calls Tryz.prog 235 #[.agg #[.int .u8 k,str n,.slice p l c]] w λe w'=>e=.returned (str (b8 k n))∧Below w.heap.size w w':=by
 have jx:=(Below.refl w.heap.size w).alloc zr (.cells #[.int .u8 k,str n,.slice p l c] 174)
 have e1:((k:Int)==1)=decide (k=1):=by rw[Bool.eq_iff_iff];simp;omega
 have e2:((k:Int)==2)=decide (k=2):=by rw[Bool.eq_iff_iff];simp;omega
 have e3:((k:Int)==3)=decide (k=3):=by rw[Bool.eq_iff_iff];simp;omega
 have e4:((k:Int)==4)=decide (k=4):=by rw[Bool.eq_iff_iff];simp;omega
 have e5:((k:Int)==5)=decide (k=5):=by rw[Bool.eq_iff_iff];simp;omega
 have e6:((k:Int)==6)=decide (k=6):=by rw[Bool.eq_iff_iff];simp;omega
 have e8:((k:Int)==8)=decide (k=8):=by rw[Bool.eq_iff_iff];simp;omega
 go_enter Tryz.func235,Tryz.ntmps235
 go_wp2_with fail
 all_goals refine bodyPost_ret (v:=str (b8 k n)) ?_ rfl ⟨rfl,jx⟩
 all_goals simp[results,Tryz.results235,b8,mA,gC,jT,eB,eu,fK, *]
theorem join_eq:∀ss:List (List UInt8),Lib.join ss [44]=cH ss
 | []=>rfl
 | [a]=>by simp[Lib.join,cH]
 | a::b::l=>by
  have:=join_eq (b::l);rw[cH,←this];simp[Lib.join,List.intercalate]
theorem Ef (ss:List (List UInt8)) (v:Value) (w:World) (base:Nat) (h:w.ownsRow base 9 1 v ss.length (aB ss)) (hlen:(cH ss).length<140737488355328):
 Calls Tryz.prog 165 #[v,str [44]] w λe w'=>e=.returned (str (cH ss))∧Below w.heap.size w w':=by
 rcases h.2 with⟨rfl,h0⟩|⟨g,cap,cur,rfl,hg,hh,h1,h2,h3,h4⟩
 · rw[List.length_eq_zero_iff] at h0
   subst h0;refine(Tryz.strings_Join_none none 0 ⟨#[44]⟩ w).mono ?_;rintro e w' ⟨rfl,rfl⟩;exact⟨rfl,zb _⟩
 · have hm:(ss.map λs=>(⟨s.toArray⟩:ByteArray)).map (·.data.toList)=ss:=by
    rw[List.map_map];exact(List.map_congr_left λ_ _=>rfl).trans (List.map_id ss)
   have hj:Lib.join ((ss.map λs=>(⟨s.toArray⟩:ByteArray)).map (·.data.toList)) (⟨#[44]⟩:ByteArray).data.toList=cH ss:=by
    rw[hm];exact join_eq ss
   have hn:ss.length≤140737488355328:=by
    have:=lX ss;omega
   have hcell:=h.cells (g:=g) rfl;have:=Tryz.strings_Join g 0 cap (ss.map λs=>⟨s.toArray⟩) ⟨#[44]⟩ w ?_ (Array.getElem?_eq_some_iff.1 hh).1 (by simpa using hn) (by simpa using h1) (by rw[hj];omega)
   · rw[hj,List.length_map] at this
     exact this
   · intro j x hx
     rw[List.getElem?_map,Option.map_eq_some_iff] at hx;obtain⟨s,hs,rfl⟩:=hx;have:=hcell j (str s) (by simp[aB,hs])
     rwa [show(⟨g,0,none⟩:Addr).add j=⟨g,0+j,none⟩ from by unfold Addr.add;simp;omega] at this
theorem Fo.EC (a:Tr) (pn:List UInt8) (k:Nat) (n:List UInt8) (sub rest:Fo):(Fo.cons pn k n sub rest).put a=.cons pn ((Tr.mk k n sub).put a).k ((Tr.mk k n sub).put a).n ((Tr.mk k n sub).put a).sub (rest.put a):=by
 rw[Fo.put]
 unfold Tr.put
 split<;>rfl
def Fo.iz (a:Tr):Fo→Nat→Fo
 | fo,0=>fo
 | .nil,_+1=>.nil
 | .cons pn k n sub rest,i+1=>.cons pn ((Tr.mk k n sub).put a).k ((Tr.mk k n sub).put a).n ((Tr.mk k n sub).put a).sub (rest.iz a i)
theorem Fo.ur (a:Tr):∀fo:Fo,fo.iz a fo.len=fo.put a
 | .nil=>rfl
 | .cons pn k n sub rest=>by rw[Fo.len,Fo.iz,Fo.ur a rest,Fo.EC]
theorem Fo.iH (a:Tr):∀(fo:Fo) (i:Nat),(fo.iz a i).len=fo.len
 | .nil,0=>rfl
 | .nil,_+1=>rfl
 | .cons pn k n sub rest,0=>rfl
 | .cons pn k n sub rest,i+1=>by rw[Fo.iz,Fo.len,Fo.iH a rest i,Fo.len]
theorem Fo.yh (a:Tr):∀(fo:Fo) (i:Nat),(fo.iz a i).at i=fo.at i
 | .nil,0=>rfl
 | .nil,_+1=>rfl
 | .cons pn k n sub rest,0=>rfl
 | .cons pn k n sub rest,i+1=>by rw[Fo.iz,Fo.at,Fo.yh a rest i,Fo.at]
def Fo.setAt (t:Tr):Fo→Nat→Fo
 | .nil,_=>.nil
 | .cons pn _ _ _ rest,0=>.cons pn t.k t.n t.sub rest
 | .cons pn k n sub rest,i+1=>.cons pn k n sub (rest.setAt t i)
theorem Fo.rM (a:Tr):∀(fo:Fo) (i:Nat) (pn:List UInt8) (t:Tr),fo.at i=some (pn,t)→fo.iz a (i+1)=(fo.iz a i).setAt (t.put a) i
 | .nil,_,_,_,h=>by simp[Fo.at] at h
 | .cons sL k n sub rest,0,pn,t,h=>by
  simp only[Fo.at,Option.some.injEq,Prod.mk.injEq] at h;obtain⟨rfl,rfl⟩:=h;simp only[Fo.iz,Fo.setAt]
 | .cons sL k n sub rest,i+1,pn,t,h=>by
  rw[Fo.iz,Fo.rM a rest i pn t h,Fo.iz,Fo.setAt]
theorem jE.setAt {w:World} {D:Nat→Prop} {t:Tr} {v:Value} (ht:dB w D t.sub v):∀(fo:Fo) (cs:List Value) (i:Nat),jE w D fo cs→i<fo.len→
 jE w D (fo.setAt t i) (((cs.set (i * 4+1) (.int .u8 t.k)).set (i * 4+2) (str t.n)).set (i * 4+3) v)
 | .nil,_,_,_,h=>by simp[Fo.len] at h
 | .cons pn k n sub rest,_,0,⟨v',cs',sc,e,h1,h2,h3,h4⟩,_=>by
  obtain⟨Tv,g1,g2,g3⟩:=ht;rw[e];exact⟨v,cs',Tv,rfl,g1,g2,g3,h4⟩
 | .cons pn k n sub rest,_,i+1,⟨v',cs',sc,e,h1,h2,h3,h4⟩,hi=>by
  have:=jE.setAt ht rest cs' i h4 (by simp only[Fo.len] at hi;omega);refine⟨v',_,sc,?_,h1,h2,h3,this⟩;rw[e];rw[show(i+1) * 4+1=(i * 4+1)+1+1+1+1 from by omega,show(i+1) * 4+2=(i * 4+2)+1+1+1+1 from by omega,show(i+1) * 4+3=(i * 4+3)+1+1+1+1 from by omega];simp only[List.set_cons_succ]
def fZ (wr:World) (base:Nat) (D:Nat→Prop) (fo:Fo) (v:Value):Prop:=
 ∃cs,wr.ownsRow base 192 4 v fo.len cs∧jE wr (λb=>D b∧v.ownBlock≠some b) fo cs
theorem fZ.kept {w w':World} {base:Nat} {D:Nat→Prop} {fo:Fo} {v:Value} (h:fZ w base D fo v) (hb:∀b,(D b∨base≤b)→b<w.heap.size→w'.heap[b]? =w.heap[b]?):fZ w' base D fo v:=by
 obtain⟨cs,h1,h2⟩:=h
 exact⟨cs,cB h1 (λb e=>hb b (.inr (h1.lt b e).1) (aK h1 e)),h2.kept λb hb' hlt=>hb b (.inl hb'.1) hlt⟩
theorem fZ.below {B:Nat} {w w':World} {base:Nat} {D:Nat→Prop} {fo:Fo} {v:Value} (h:fZ w base D fo v) (hb:Below B w w') (hB:w.heap.size≤B):fZ w' base D fo v:=
 h.kept λb _ hlt=>hb.block b (by omega)
theorem fZ.shape {w:World} {base:Nat} {D:Nat→Prop} {fo:Fo} {v:Value} (h:fZ w base D fo v):∃p c,v=.slice p fo.len c:=by
 obtain⟨cs,h1,h2⟩:=h
 exact bu h1
theorem fZ.at {w:World} {base:Nat} {D:Nat→Prop} {fo:Fo} {v:Value} (h:fZ w base D fo v) {i:Nat} (hi:i<fo.len):∃g c pn t u,v=.slice (some ⟨g,0,none⟩) fo.len c∧base≤g∧g<w.heap.size∧fo.at i=some (pn,t)∧
 w.cell? ⟨g,i * 4,none⟩=some (str pn)∧w.cell? ⟨g,i * 4+1,none⟩=some (.int .u8 t.k)∧w.cell? ⟨g,i * 4+2,none⟩=some (str t.n)∧w.cell? ⟨g,i * 4+3,none⟩=some u∧dB w (λb=>D b∧b≠g) t.sub u∧(∀j,w.frozen? ⟨g,j,none⟩=false):=by
 obtain⟨cs,h1,h2⟩:=h
 obtain⟨pn,t,u,a,b0,b1,b2,b3,c⟩:=h2.at fo cs i hi
 rcases h1.2 with⟨rfl,hz⟩|⟨g,cap,cur,rfl,hb,hh,_,_⟩
 · omega
 · have hc:∀j x,cs[j]? =some x→w.cell? ⟨g,j,none⟩=some x:=by
    intro j x hx;have:=h1.cells (g:=g) rfl _ _ hx;simp only[Addr.add] at this;split at this
    · rename_i e;rw[e];exact this
    · simpa using this
   exact⟨g,cap,pn,t,u,rfl,hb,aK h1 rfl,a,hc _ _ b0,hc _ _ b1,hc _ _ b2,hc _ _ b3,c.mono (λb hb _=>⟨hb.1,λe=>hb.2 (by rw[e];rfl)⟩),λj=>az hh j⟩
theorem fZ.set {w:World} {base:Nat} {D:Nat→Prop} {fo:Fo} {g c:Nat} (h:fZ w base D fo (.slice (some ⟨g,0,none⟩) fo.len c)) {i:Nat} (hi:i<fo.len) {t:Tr} {v:Value} (ht:dB w (λb=>D b∧b≠g) t.sub v) (_hn:base≤g):
 fZ (((w.setCell ⟨g,i * 4+1,none⟩ (.int .u8 t.k)).setCell ⟨g,i * 4+2,none⟩ (str t.n)).setCell ⟨g,i * 4+3,none⟩ v) base D (fo.setAt t i) (.slice (some ⟨g,0,none⟩) fo.len c):=by
 obtain⟨cs,h1,h2⟩:=h
 have hl:(fo.setAt t i).len=fo.len:=by
  have:∀(fo:Fo) (i:Nat),(fo.setAt t i).len=fo.len:=by
   intro fo
   induction fo with
   | nil=>intro i;rfl
   | cons pn k n sub rest _ ih=>
    intro i;cases i with
    | zero=>rfl
    | succ i=>rw[Fo.setAt,Fo.len,ih,Fo.len]
  exact this fo i
 refine⟨_,by rw[hl];exact(((h1.stored (i * 4+1) (.int .u8 t.k)).1.stored (i * 4+2) (str t.n)).1.stored (i * 4+3) v).1,?_⟩
 have h3:=jE.setAt (t:=t) (v:=v) (ht.mono (D':=λb=>D b∧(Value.slice (some ⟨g,0,none⟩) fo.len c).ownBlock≠some b) λb hb _=>⟨hb.1,λe=>hb.2 (by simpa[Value.ownBlock] using e.symm)⟩) fo cs i h2 hi
 refine h3.kept λb hb _=>?_
 have hne:b≠g:=λe=>hb.2 (by rw[e];rfl)
 rw[Below.heap_setCell _ _ _ _ hne,Below.heap_setCell _ _ _ _ hne,Below.heap_setCell _ _ _ _ hne]
set_option maxRecDepth 4000 in
theorem qx (pb qb:Nat) (x0 x1 x2 y:Value) (tq:TypeId) (older:List PanicEntry) (w:World) (hP:w.heap[pb]? =some (.cells #[x0,x1,x2] 174 (0,0))) (hQ:w.heap[qb]? =some (.cells #[y] tq (0,0))) (hne:pb≠qb):
 CallsD Tryz.prog 250 #[.pointer (some ⟨pb,0,none⟩),.pointer (some ⟨qb,0,none⟩)] (.panicking ({v:=.iface 250 (.agg #[]),recovered:=false }::older)) w λe u' w'=>
  e=.returned (.tuple #[])∧u'=.panicking ({v:=.iface 250 (.agg #[]),recovered:=true }::older)∧w'=((((w.setCell ⟨pb,0,none⟩ (.int .u8 0)).setCell ⟨pb,1,none⟩ (str [])).setCell ⟨pb,2,none⟩ (.slice none 0 0)).setCell ⟨qb,0,none⟩ (.bool false)).alloc (.cells #[] 250):=by
 have Uk:=(Array.getElem?_eq_some_iff.1 hP).1
 have Ul:=(Array.getElem?_eq_some_iff.1 hQ).1
 have c0:=(ak hP 0).trans rfl
 have c1:=(ak hP 1).trans rfl
 have c2:=(ak hP 2).trans rfl
 have d0:=(ak hQ 0).trans rfl
 have f0:=az hP 0
 have f1:=az hP 1
 have f2:=az hP 2
 have g0:=az hQ 0
 clear hP hQ
 have Ur:∀w:World,Sem.run Tryz.prog (Instr.typeAssert (.iface 250 (.agg #[])) 20 250 true) w=.ok (.tuple #[.agg #[],.bool true]) w:=λ_=>rfl
 refine callsD_of_wpS Tryz.func250 rfl λc₀ cs hu=>?_
 apply wpS_seq
 apply wpS_region
 simp[wpOpsS,go_sem,recoverD,hu,Tryz.ntmps250,Exit.thenS]
 refine wpS_of_wp ?_
 simp only[List.replicate,Array.replicate,List.append_toArray,List.cons_append,List.nil_append,List.setIfInBounds_toArray,List.set_cons_zero,List.set_cons_succ]
 go_wp2
 exact⟨rfl,_,rfl,_,by simp[results,Tryz.results250],rfl,rfl,rfl⟩
theorem zl (pb qb:Nat) (w:World):
 CallsD Tryz.prog 250 #[.pointer (some ⟨pb,0,none⟩),.pointer (some ⟨qb,0,none⟩)] .returning w λe u' w'=>e=.returned (.tuple #[])∧u'=.returning∧w'=w:=by
 refine callsD_of_wpS Tryz.func250 rfl λc₀ cs hu=>?_
 apply wpS_seq
 apply wpS_region
 simp[wpOpsS,go_sem,recoverD,hu,Tryz.ntmps250,Exit.thenS]
 refine wpS_of_wp ?_
 simp only[List.replicate,Array.replicate,List.append_toArray,List.cons_append,List.nil_append,List.setIfInBounds_toArray,List.set_cons_zero,List.set_cons_succ]
 go_wp2
 exact⟨rfl,_,by cases c₀;simp_all,_,by simp[results,Tryz.results250],rfl,rfl,rfl⟩
end Go.Proofs.YtakgjcfkdemipaaGreatDoor
