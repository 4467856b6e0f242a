/-
  Lemmas for the statement: contracts: the program's tree.String and tree.inner: the text of a type, and of its parts. Conditions: bounds of lengths; the variable strings.asciiSpace.
-/
import Derived.Test.YtakgjcfkdemipaaGreatDoorZBn
import Derived.Test.YtakgjcfkdemipaaGreatDoorZB4
import Derived.Test.YtakgjcfkdemipaaGreatDoorZB6
set_option maxHeartbeats 6400000
namespace Go.Proofs.YtakgjcfkdemipaaGreatDoor
open Go.RowKit
def Dh (m:Nat):Prop:=∀(fo:Fo),fo.level≤m→∀(k:Nat) (n:List UInt8) (w:World) (D:Nat→Prop) (v:Value),dB w D fo v→(Tr.txt ⟨k,n,fo⟩).length≤1000000→
 Calls Tryz.prog 175 #[.agg #[.int .u8 k,str n,v]] w λe w'=>e=.returned (str (Tr.txt ⟨k,n,fo⟩))∧Below w.heap.size w w'
def GJ (m:Nat):Prop:=∀(fo:Fo),fo.level≤m→∀(k:Nat) (n:List UInt8) (w:World) (D:Nat→Prop) (v:Value),dB w D fo v→fo.tx.length≤1000000→
 Calls Tryz.prog 236 #[.agg #[.int .u8 k,str n,v]] w λe w'=>e=.returned (str fo.tx)∧Below w.heap.size w w'
theorem uZ:(Tryz.prog.info? 9).map (λi=>(i.zero,i.size,i.bytes))=some (some (.string ⟨#[]⟩),1,16):=by kernel_rfl
set_option maxRecDepth 4000 in
theorem zI (m:Nat) (hS:∀m',m'<m→Dh m'):GJ m:=by
 intro fo hl k n w D v hv C7
 have hlen:=hv.vn
 have hfl:fo.len≤1000001:=by
  have h1:=lX fo.txt;rw[Fo.qi] at h1;unfold Fo.tx at C7;omega
 obtain⟨p,c,rfl,_⟩:=hv.shape
 obtain⟨i0,gw,hz0,hz1,hz2⟩:=info_parts uZ
 have IH:=zh hS
 clear hS
 have LO:=zh C7
 clear C7
 go_enter Tryz.func236,Tryz.ntmps236
 go_wp2_with fail
 have jx:=(Below.refl w.heap.size w).alloc zr (.cells #[.int .u8 k,str n,.slice p fo.len c] 174)
 have Lb:w.heap.size+1≤(w.alloc (.cells #[.int .u8 k,str n,.slice p fo.len c] 174)).heap.size:=by simp
 generalize w.alloc (.cells #[.int .u8 k,str n,.slice p fo.len c] 174)=W1 at *
 go_loopw [3,10] (λa b wr=>∃i:Nat,i≤fo.len∧b=.int .i64 i∧wr.ownsRow w.heap.size 9 1 a i (aB (fo.txt.take i))∧Below w.heap.size w wr) (λ_ b _=>fo.len - (intOf b).toNat)
 case atStart=>exact⟨0,Nat.zero_le _,rfl,by simpa[aB] using World.ownsRow_nil _ _ _ _,jx⟩
 case round =>
  obtain⟨i,hi,rfl,hown,hb⟩:=hrel
  by_cases hlt:i<fo.len
  case pos=>
   obtain⟨g,c',pn,t,u,e,_,hg,hat,x0,x1,x2,x3,hu⟩:=hv.at hlt;injection e with e1 _ e2;subst e1 e2;obtain⟨p',c',rfl,_⟩:=hu.shape;have y0:=(hb.cell (by exact hg)).trans x0;have y1:=(hb.cell (by exact hg)).trans x1;have y2:=(hb.cell (by exact hg)).trans x2;have y3:=(hb.cell (by exact hg)).trans x3;clear x0 x1 x2 x3;have hlv:=fo.jG i pn t hat;have JN:=fo.qv i pn t hat;have hle:=iF _ _ _ JN;have hle2:(kO pn++t.txt).length≤1000000:=Nat.le_trans hle LO.out;have OS:=zh (show aB (fo.txt.take (i+1))=aB (fo.txt.take i)++[str (kO pn++t.txt)] by rw[nC _ _ _ JN];simp[aB]);rw[List.length_append] at hle2;have PO:pn.length≤(kO pn).length:=by unfold kO;split<;>simp_all
   clear hle JN;have mT:=hb.alloc hb.size (.cells #[.string ⟨pn.toArray⟩,.int .u8 t.k,.string ⟨t.n.toArray⟩,.slice p' t.sub.len c'] 192);have mH:=hown.alloc (.cells #[.string ⟨pn.toArray⟩,.int .u8 t.k,.string ⟨t.n.toArray⟩,.slice p' t.sub.len c'] 192);go_wp2_with fail;refine(IH.out t.sub.level (by omega) t.sub zr t.k t.n _ D _ (hu.below mT zr) (by show t.txt.length≤_;omega)).mono ?_;rintro e w2 ⟨rfl,aC⟩;have r4:=(aC.block wr.heap.size (by simp)).trans (heap_alloc_new wr _);have d0:=(ak r4 0).trans rfl;have aH:=mT.trans (af aC mT.size);have aP:=ay mH aC zr;clear y0 y1 y2 y3 aC mT r4 mH;have bL:pn.length+1+(Tr.txt ⟨t.k,t.n,t.sub⟩).length≤9223372036854775807:=by show pn.length+1+t.txt.length≤_;omega
   by_cases hp:pn=[]
   case pos=>
    subst hp;go_wp2_with (at_builtin;refine wpList_append_own _ rfl _ _ 34 rfl w.heap.size 9 i0 (.string ⟨#[]⟩) 1 16 Tryz.underlying34 gw hz0 hz1 hz2 rfl (by decide) _ _ _ rfl (aP.alloc _) ⟨w2.heap.size,0,none⟩ 1 1 [str (Tr.txt ⟨t.k,t.n,t.sub⟩)] rfl rfl (cell_one_new _ _ _) (λx hx=>by simp at hx;subst hx;rfl) (by unfold maxLen;omega) (by omega) (by have:=aH.size;simp;omega) ?_;intro v' w3 bB hgr _);refine⟨⟨i+1,hlt,by go_num,?_,?_⟩,by simp only[intOf];omega⟩
    · rw[OS.out]
      exact bB
    · exact(aH.alloc aH.size _).grown hgr (by have:=aH.size;simp;omega) (λb e=>(aP.lt b e).1)
   case neg=>
    have hpe:(!pn.isEmpty)=true:=by simpa using hp
    go_wp2_with (at_builtin;refine wpList_append_own _ rfl _ _ 34 rfl w.heap.size 9 i0 (.string ⟨#[]⟩) 1 16 Tryz.underlying34 gw hz0 hz1 hz2 rfl (by decide) _ _ _ rfl (aP.alloc _) ⟨w2.heap.size,0,none⟩ 1 1 [str (pn++58::(Tr.txt ⟨t.k,t.n,t.sub⟩))] rfl rfl (cell_one_new _ _ _) (λx hx=>by simp at hx;subst hx;rfl) (by unfold maxLen;omega) (by omega) (by have:=aH.size;simp;omega) ?_;intro v' w3 bB hgr _);refine⟨⟨i+1,hlt,by go_num,?_,?_⟩,by simp only[intOf];omega⟩
    · rw[OS.out]
      rw[show kO pn++t.txt=pn++58::(Tr.txt ⟨t.k,t.n,t.sub⟩) from by unfold kO;rw[if_neg hp];simp];exact bB
    · exact(aH.alloc aH.size _).grown hgr (by have:=aH.size;simp;omega) (λb e=>(aP.lt b e).1)
  case neg=>
   have hie:i=fo.txt.length:=by rw[Fo.qi];omega
   rw[hie,List.take_of_length_le zr] at hown;have HJ:=zh hie;clear hie;go_wp2_with (go_at_call 165;refine(Ef fo.txt _ _ w.heap.size hown (by have:=LO.out;unfold Fo.tx at this;omega)).mono ?_;rintro e w2 ⟨rfl,aC⟩);go_ret;exact⟨rfl,hb.trans (af aC hb.size)⟩
def BD (w:World) (b k:Nat) (n:List UInt8) (v:Value) (W:World):Prop:=
 (W.cell? ⟨b,0,none⟩=some (.int .u8 k)∧W.cell? ⟨b,1,none⟩=some (str n)∧W.cell? ⟨b,2,none⟩=some v)∧Below w.heap.size w W
theorem BD.keep {w W w2:World} {b k:Nat} {n:List UInt8} {v:Value} (h:BD w b k n v W) (hb:Below W.heap.size W w2):BD w b k n v w2:=
 ⟨⟨Below.keep hb h.1.1,Below.keep hb h.1.2.1,Below.keep hb h.1.2.2⟩,h.2.trans (af hb h.2.size)⟩
theorem vR {k:Nat} {n:List UInt8} {fo:Fo} (h:fo.len≠0):Tr.txt ⟨k,n,fo⟩=b8 k n++91::(fo.tx++[93]):=by
 cases fo with
 | nil=>exact absurd rfl h
 | cons=>rfl
set_option maxRecDepth 4000 in
theorem E2 (m:Nat) (hI:GJ m):Dh m:=by
 intro fo hl k n w D v hv C7
 have hlen:=hv.vn
 obtain⟨p,c,rfl,_⟩:=hv.shape
 by_cases hz:fo.len=0
 case pos=>
  obtain rfl:=A2 hz;go_enter Tryz.func175,Tryz.ntmps175;go_wp2_with (go_at_call 235;refine(tZ k n _ _ _ _).mono ?_;rintro e w2 ⟨rfl,aC⟩);go_ret;exact⟨rfl,((Below.refl w.heap.size w).alloc zr _).trans (af aC (by simp))⟩
 case neg=>
  have h0:=iB hz;have HT:=zh (vR (k:=k) (n:=n) hz);rw[HT.out] at C7;simp only[List.length_append,List.length_cons,List.length_nil] at C7;have HI:=zh hI;clear hI;go_enter Tryz.func175,Tryz.ntmps175;go_wp2_with fail;have jx:=(Below.refl w.heap.size w).alloc zr (.cells #[.int .u8 k,str n,.slice p fo.len c] 174);have hrow:=heap_alloc_new w (.cells #[.int .u8 k,str n,.slice p fo.len c] 174);generalize w.alloc (.cells #[.int .u8 k,str n,.slice p fo.len c] 174)=W1 at *;have hT:BD w w.heap.size k n (.slice p fo.len c) W1.drew:=⟨⟨(ak hrow 0).trans rfl,(ak hrow 1).trans rfl,(ak hrow 2).trans rfl⟩,jx.drew⟩;unfold BD at hT;have b1:¬9223372036854775807<(b8 k n).length+1:=by omega
  have b2:¬9223372036854775807<(b8 k n).length+1+fo.tx.length:=by omega
  have b3:¬9223372036854775807<(b8 k n).length+(fo.tx.length+1)+1:=by omega
  clear jx hrow
  go_region_held3 (λW=>(W.cell? ⟨w.heap.size,0,none⟩=some (.int .u8 k)∧W.cell? ⟨w.heap.size,1,none⟩=some (str n)∧W.cell? ⟨w.heap.size,2,none⟩=some (.slice p fo.len c))∧Below w.heap.size w W)
   (first |exact hT|assumption|exact BD.keep (by assumption) aC)
   (first |(go_at_call 235;refine(tZ k n _ _ _ _).mono ?_;rintro e w2 ⟨rfl,aC⟩)|(go_at_call 236;refine(HI.out fo hl k n _ D _ (hv.below (And.right (by assumption)) zr) (by omega)).mono ?_;rintro e w2 ⟨rfl,aC⟩))
  all_goals go_wp2
  all_goals go_ret
  all_goals exact⟨by rw[HT.out];rfl,And.right (by assumption)⟩
theorem Gy:∀m,Dh m:=by
 intro m
 induction m using Nat.strongRecOn with
 | _ m ih=>exact E2 m (zI m ih)
theorem fq (t:Tr) (w:World) (D:Nat→Prop) (v:Value) (hv:dB w D t.sub v) (hl:t.txt.length≤1000000):
 Calls Tryz.prog 175 #[.agg #[.int .u8 t.k,str t.n,v]] w λe w'=>e=.returned (str t.txt)∧Below w.heap.size w w':=
 Gy _ t.sub zr t.k t.n w D v hv hl
theorem jE.one {w:World} {D:Nat→Prop}:∀(fo:Fo) (cs:List Value),jE w D fo cs→∀u∈cs,u.oneCell'=true
 | .nil,_,h=>by rw[show _=[] from h];simp
 | .cons _ _ _ _ rest, _, ⟨v, cs', sc, e, h1, _, _, h4⟩ => by
  intro u hu;rw[e] at hu;simp only[List.mem_cons] at hu;rcases hu with rfl|rfl|rfl|rfl|hu
  · rfl
  · rfl
  · rfl
  · obtain⟨p,c,rfl⟩:=bu h1
    rfl
  · exact jE.one rest cs' h4 u hu
set_option maxRecDepth 4000 in
theorem BI (v:Value) (n:Nat) (xs:List Value) (w:World) (h:w.ownsRow 0 192 4 v n xs) (hn:n≤2000000) (hx1:∀u∈xs,u.oneCell'=true):
 Calls Tryz.prog 242 #[v] w λe w'=>∃v',e=.returned v'∧w'.ownsRow w.heap.size 192 4 v' n xs∧Below w.heap.size w w':=by
 obtain⟨i0,gw,hz0,hz1,hz2⟩:=info_parts xy
 rcases h.2 with⟨rfl,hz⟩|⟨g,cap,cur,rfl,hg,hh,h1,h2,h3,h4⟩
 · have hxs:xs=[]:=by have:=h.1;rw[hz] at this;simpa using this
   subst hz hxs;have FX:=λ(w:World) (a:Option Addr) (n c:Nat)=>Lib.run_eql_slice_nil (P:=Tryz.prog) w 172 192 a n c 0 0 mg
   go_enter Tryz.func242,Tryz.ntmps242;go_wp2_with fail;go_ret;exact⟨_,rfl,World.ownsRow_nil _ _ _ _,zb _⟩
 · have hnew:=h.cells (g:=g) rfl
   have hl:=h.1;have hE:(w.alloc (.cells #[] 192)).ownsRow w.heap.size 192 4 (.slice (some ⟨w.heap.size,0,none⟩) 0 0) 0 []:=
    ⟨rfl,.inr ⟨w.heap.size,0,#[],rfl,nl _,heap_alloc_new w _,nl _,Nat.zero_le _,rfl,rfl⟩⟩
   have DU:∀(j:Nat) (u:Value),xs[j]? =some u→(w.alloc (.cells #[] 192)).cell? ((⟨g,0,none⟩:Addr).add j)=some u:=λj u hj=>by
    have:=hnew j u hj;exact Below.keep ((zb w).alloc zr _) this
   clear hnew;have FX:=λ(w:World) (a:Option Addr) (n c:Nat)=>Lib.run_eql_slice_nil (P:=Tryz.prog) w 172 192 a n c 0 0 mg
   go_enter Tryz.func242,Tryz.ntmps242;go_wp2_with (at_builtin;refine wpList_append_own (w.alloc (.cells #[] 192)) rfl _ _ 172 rfl w.heap.size 192 i0 _ 4 64 mg gw hz0 hz1 hz2 rfl (by decide) (.slice (some ⟨w.heap.size,0,none⟩) 0 0) 0 [] rfl hE ⟨g,0,none⟩ n cap xs rfl hl DU hx1 (by unfold maxLen;omega) (by omega) (by simp) ?_;intro v' w3 bB hgr _);go_ret;rw[List.nil_append,Nat.zero_add] at bB;exact⟨v',rfl,bB,((zb w).alloc zr _).grown hgr (by simp) (λb e=>by cases e;exact nl _)⟩
def kR (w:World) (D:Nat→Prop) (t a:Tr) (e:Ending) (w':World):Prop:=
 ∃v',e=.returned (.agg #[.int .u8 (t.put a).k,str (t.put a).n,v'])∧dB w' (λb=>D b∨w.heap.size≤b) (t.put a).sub v'∧Below w.heap.size w w'
def zf (m:Nat):Prop:=∀(t a:Tr),t.sub.level≤m→t.txt.length≤1000000→∀(w:World) (D:Nat→Prop) (v va:Value),dB w D t.sub v→dB w D a.sub va→
 Calls Tryz.prog 187 #[.agg #[.int .u8 t.k,str t.n,v],.agg #[.int .u8 a.k,str a.n,va]] w (kR w D t a)
theorem GC {t:Tr} (hl:t.txt.length≤1000000):t.sub.tx.length≤1000000∧t.sub.len≤2000000:=by
 have h:t.sub.tx.length≤t.txt.length:=by
  obtain⟨k,n,sub⟩:=t;cases sub with
  | nil=>simp[Fo.tx,Fo.txt,cH]
  | cons=>rw[Tr.eA,Fo.one,Fo.cN,Fo.ji (by simp)];simp;omega
 have h2:=lX t.sub.txt
 rw[Fo.qi] at h2
 unfold Fo.tx at h
 unfold Fo.tx
 omega
set_option maxRecDepth 4000 in
theorem Fi (t a:Tr) (hk:t.k=8) (w:World) (D:Nat→Prop) (v va:Value) (hv:dB w D t.sub v) (xu:dB w D a.sub va):
 Calls Tryz.prog 187 #[.agg #[.int .u8 t.k,str t.n,v],.agg #[.int .u8 a.k,str a.n,va]] w (kR w D t a):=by
 have hput:=zh (show t.put a=a by unfold Tr.put;rw[if_pos hk])
 obtain⟨p,c,rfl,_⟩:=hv.shape
 obtain⟨pa,ca,rfl,_⟩:=xu.shape
 have h8:((t.k:Int)==8)=true:=by rw[hk];rfl
 clear hk
 have hb:=(((Below.refl w.heap.size w).alloc zr (.cells #[.int .u8 t.k,str t.n,.slice p t.sub.len c] 174)).alloc (by simp) (.cells #[.int .u8 a.k,str a.n,.slice pa a.sub.len ca] 174)).alloc (by simp;omega) (.cells #[.int .u8 a.k,str a.n,.slice pa a.sub.len ca] 174)
 go_enter Tryz.func187,Tryz.ntmps187
 go_wp2_with fail
 refine bodyPost_ret (v:=.agg #[.int .u8 a.k,str a.n,.slice pa a.sub.len ca]) (by simp[results,Tryz.results187,go_sem]) rfl ?_
 unfold kR
 rw[hput.out]
 exact⟨_,rfl,(xu.below hb zr).mono λb hb _=>.inl hb,hb⟩
structure ze (w:World) (D:Nat→Prop) (t a:Tr) (v va:Value) (p':Option Addr) (c':Nat) (wr:World) (i:Nat):Prop where
 row:fZ wr (w.heap.size+3) (λb=>(D b∧b<w.heap.size)∨w.heap.size+3≤b) (t.sub.iz a i) (.slice p' t.sub.len c')
 nD:Below w.heap.size w wr
 r2:wr.heap[w.heap.size]? =some (.cells #[.int .u8 t.k,str t.n,v] 174 (0,0))
 r3:wr.heap[w.heap.size+1]? =some (.cells #[.int .u8 a.k,str a.n,va] 174 (0,0))
 r4:wr.heap[w.heap.size+1+1]? =some (.cells #[.int .u8 0,.string ⟨#[]⟩,.slice none 0 0] 174 (0,0))
theorem ze.step {w wr w2:World} {D:Nat→Prop} {t a tt:Tr} {v va v2:Value} {c' g i:Nat} {pn:List UInt8} (h:ze w D t a v va (some ⟨g,0,none⟩) c' wr i) (hi:i<t.sub.len) (hat:t.sub.at i=some (pn,tt)) (hb:Below wr.heap.size wr w2)
 (hv:dB w2 (λb=>((D b∧b<w.heap.size∨w.heap.size+3≤b)∧b≠g)∨wr.heap.size≤b) (tt.put a).sub v2) (hg:w.heap.size+3≤g) (cM:g<wr.heap.size):
 ze w D t a v va (some ⟨g,0,none⟩) c' (((w2.setCell ⟨g,i * 4+1,none⟩ (.int .u8 (tt.put a).k)).setCell ⟨g,i * 4+2,none⟩ (str (tt.put a).n)).setCell ⟨g,i * 4+3,none⟩ v2) (i+1):=by
 have hsz:=h.nD.size
 have hw:=h.nD
 have Up:w.heap.size+1+1<wr.heap.size:=(Array.getElem?_eq_some_iff.1 h.r4).1
 have hne:∀b,b≠g→(((w2.setCell ⟨g,i * 4+1,none⟩ (.int .u8 (tt.put a).k)).setCell ⟨g,i * 4+2,none⟩ (str (tt.put a).n)).setCell ⟨g,i * 4+3,none⟩ v2).heap[b]? =w2.heap[b]? :=λb hne=>by
  rw[Below.heap_setCell _ _ _ _ hne,Below.heap_setCell _ _ _ _ hne,Below.heap_setCell _ _ _ _ hne]
 refine⟨?_,?_,?_,?_,?_⟩
 · have h1:=h.row.below hb zr
   have h2:=fZ.set (fo:=t.sub.iz a i) (i:=i) (t:=tt.put a) (v:=v2) (by rw[Fo.iH];exact h1) (by rw[Fo.iH];exact hi) (hv.mono λb hb _=>by
    rcases hb with hb|hb
    · exact hb
    · exact⟨.inr (by omega),by omega⟩) hg
   rw[Fo.iH] at h2;rw[Fo.rM a t.sub i pn tt hat];exact h2
 · exact(((h.nD.trans (af hb hsz)).setCell (p:=⟨g,_,none⟩) (by simp only;omega) _).setCell (p:=⟨g,_,none⟩) (by simp only;omega) _).setCell (p:=⟨g,_,none⟩) (by simp only;omega) _
 · rw[hne _ (by omega)];exact(hb.block _ (by omega)).trans h.r2
 · rw[hne _ (by omega)];exact(hb.block _ (by omega)).trans h.r3
 · rw[hne _ (by omega)];exact(hb.block _ (by omega)).trans h.r4
theorem sK {w:World} {base:Nat} {e:TypeId} {size n:Nat} {v:Value} {xs:List Value} (h:w.ownsRow base e size v n xs):w.ownsRow 0 e size v n xs:=by
 refine⟨h.1,?_⟩
 rcases h.2 with h2|⟨g,cap,cur,rfl,_,h4⟩
 · exact .inl h2
 · exact .inr ⟨g,cap,cur,rfl,Nat.zero_le _,h4⟩
theorem fZ.Kc {w:World} {base:Nat} {D:Nat→Prop} {fo:Fo} {v:Value} (h:fZ w base D fo v):dB w (λb=>D b∨base≤b) fo v:=by
 obtain⟨cs,h1,h2⟩:=h
 exact⟨cs,sK h1,λb hb=>.inr (h1.lt b hb).1,h2.mono λb hb _=>.inl hb.1⟩
theorem ze.last {w wr:World} {D:Nat→Prop} {t a:Tr} {v va:Value} {p':Option Addr} {c' i:Nat} (h:ze w D t a v va p' c' wr i) (hi:i=t.sub.len):
 dB ((((wr.setCell ⟨w.heap.size,2,none⟩ (.slice p' t.sub.len c')).setCell ⟨w.heap.size+1+1,0,none⟩ (.int .u8 t.k)).setCell ⟨w.heap.size+1+1,1,none⟩ (str t.n)).setCell ⟨w.heap.size+1+1,2,none⟩ (.slice p' t.sub.len c')) (λb=>D b∨w.heap.size≤b) (t.sub.put a) (.slice p' t.sub.len c')∧
 Below w.heap.size w ((((wr.setCell ⟨w.heap.size,2,none⟩ (.slice p' t.sub.len c')).setCell ⟨w.heap.size+1+1,0,none⟩ (.int .u8 t.k)).setCell ⟨w.heap.size+1+1,1,none⟩ (str t.n)).setCell ⟨w.heap.size+1+1,2,none⟩ (.slice p' t.sub.len c')):=by
 subst hi
 have h1:=h.row.Kc
 rw[Fo.ur] at h1
 refine⟨(h1.kept (λb hb _=>?_)).mono λb hb _=>?_,?_⟩
 · have hne:b≠w.heap.size∧b≠w.heap.size+1+1:=by
    rcases hb with(hb|hb)|hb<;>omega
   rw[Below.heap_setCell _ _ _ _ hne.2,Below.heap_setCell _ _ _ _ hne.2,Below.heap_setCell _ _ _ _ hne.2,Below.heap_setCell _ _ _ _ hne.1]
 · rcases hb with(hb|hb)|hb
   · exact .inl hb.1
   · exact .inr (by omega)
   · exact .inr (by omega)
 · exact(((h.nD.setCell (p:=⟨w.heap.size,2,none⟩) zr _).setCell (p:=⟨w.heap.size+1+1,0,none⟩) (by simp only;omega) _).setCell (p:=⟨w.heap.size+1+1,1,none⟩) (by simp only;omega) _).setCell (p:=⟨w.heap.size+1+1,2,none⟩) (by simp only;omega) _
theorem uH {W w2:World} {k' B:Nat} {n':List UInt8} {u':Value} (h:W.cell? ⟨B,0,none⟩=some (.int .u8 k')∧W.cell? ⟨B,1,none⟩=some (str n')∧W.cell? ⟨B,2,none⟩=some u') (hb:Below W.heap.size W w2):
 w2.cell? ⟨B,0,none⟩=some (.int .u8 k')∧w2.cell? ⟨B,1,none⟩=some (str n')∧w2.cell? ⟨B,2,none⟩=some u':=
 ⟨Below.keep hb h.1,Below.keep hb h.2.1,Below.keep hb h.2.2⟩
theorem Fj {W:World} {k' B g:Nat} {n':List UInt8} {u':Value} (hg:g≠B) (h:W.cell? ⟨B,0,none⟩=some (.int .u8 k')∧W.cell? ⟨B,1,none⟩=some (str n')∧W.cell? ⟨B,2,none⟩=some u') (i j l:Nat) (x y z:Value):
 (((W.setCell ⟨g,i,none⟩ x).setCell ⟨g,j,none⟩ y).setCell ⟨g,l,none⟩ z).cell? ⟨B,0,none⟩=some (.int .u8 k')∧(((W.setCell ⟨g,i,none⟩ x).setCell ⟨g,j,none⟩ y).setCell ⟨g,l,none⟩ z).cell? ⟨B,1,none⟩=some (str n')∧(((W.setCell ⟨g,i,none⟩ x).setCell ⟨g,j,none⟩ y).setCell ⟨g,l,none⟩ z).cell? ⟨B,2,none⟩=some u':=by
 have hne:∀o o':Nat,(⟨g,o,none⟩:Addr)≠⟨B,o',none⟩:=λo o' e=>hg (by injection e)
 refine⟨?_,?_,?_⟩
 · rw[World.cell?_setCell_other _ _ _ _ (hne _ _),World.cell?_setCell_other _ _ _ _ (hne _ _),World.cell?_setCell_other _ _ _ _ (hne _ _)];exact h.1
 · rw[World.cell?_setCell_other _ _ _ _ (hne _ _),World.cell?_setCell_other _ _ _ _ (hne _ _),World.cell?_setCell_other _ _ _ _ (hne _ _)];exact h.2.1
 · rw[World.cell?_setCell_other _ _ _ _ (hne _ _),World.cell?_setCell_other _ _ _ _ (hne _ _),World.cell?_setCell_other _ _ _ _ (hne _ _)];exact h.2.2
theorem oK {wr W w2:World} {g j:Nat} (h:Below wr.heap.size wr W) (hb:Below W.heap.size W w2) (hg:g<wr.heap.size) (hf:wr.frozen? ⟨g,j,none⟩=false):w2.frozen? ⟨g,j,none⟩=false:=
 (hb.frozen (by have:=h.size;exact Nat.lt_of_lt_of_le hg this)).trans ((h.frozen hg).trans hf)
theorem Fo.Am (a:Tr) (fo:Fo):fo.iz a 0=fo:=by cases fo<;>rfl
set_option maxRecDepth 4000 in
theorem CZ (m:Nat) (hS:∀m',m'<m→zf m'):zf m:=by
 intro t a hl C7 w D v va hv xu
 by_cases hk:t.k=8
 · exact Fi t a hk w D v va hv xu
 have hput:=zh (show t.put a=⟨t.k,t.n,t.sub.put a⟩ by unfold Tr.put;rw[if_neg hk])
 obtain⟨Ld,hlen⟩:=GC C7
 obtain⟨sc,tN,oc,F5⟩:=hv
 obtain⟨p,c,rfl⟩:=bu tN
 obtain⟨pa,ca,rfl,_⟩:=xu.shape
 have h8:((t.k:Int)==8)=false:=by rw[beq_eq_false_iff_ne];omega
 have HS:=zh hS
 have LO:=zh Ld
 clear hk hS C7 Ld
 go_enter Tryz.func187,Tryz.ntmps187
 have hz1:(w.alloc (.cells #[.int .u8 t.k,str t.n,.slice p t.sub.len c] 174)).heap.size=w.heap.size+1:=by simp
 have hz2:((w.alloc (.cells #[.int .u8 t.k,str t.n,.slice p t.sub.len c] 174)).alloc (.cells #[.int .u8 a.k,str a.n,.slice pa a.sub.len ca] 174)).heap.size=w.heap.size+1+1:=by simp
 have hb:=(((Below.refl w.heap.size w).alloc zr (.cells #[.int .u8 t.k,str t.n,.slice p t.sub.len c] 174)).alloc (by simp) (.cells #[.int .u8 a.k,str a.n,.slice pa a.sub.len ca] 174)).alloc (by simp;omega) (.cells #[.int .u8 0,.string ⟨#[]⟩,.slice none 0 0] 174)
 have hr2:=aD (.cells #[.int .u8 0,.string ⟨#[]⟩,.slice none 0 0] 174) (aD (.cells #[.int .u8 a.k,str a.n,.slice pa a.sub.len ca] 174) (heap_alloc_new w (.cells #[.int .u8 t.k,str t.n,.slice p t.sub.len c] 174)))
 have hr3:=aD (.cells #[.int .u8 0,.string ⟨#[]⟩,.slice none 0 0] 174) (cI hz1 #[.int .u8 a.k,str a.n,.slice pa a.sub.len ca] 174)
 have hr4:=cI hz2 #[.int .u8 0,.string ⟨#[]⟩,.slice none 0 0] 174
 have hzs:(((w.alloc (.cells #[.int .u8 t.k,str t.n,.slice p t.sub.len c] 174)).alloc (.cells #[.int .u8 a.k,str a.n,.slice pa a.sub.len ca] 174)).alloc (.cells #[.int .u8 0,.string ⟨#[]⟩,.slice none 0 0] 174)).heap.size=w.heap.size+3:=by simp
 clear hz1 hz2
 go_wp2_with fail
 generalize ((w.alloc (.cells #[.int .u8 t.k,str t.n,.slice p t.sub.len c] 174)).alloc (.cells #[.int .u8 a.k,str a.n,.slice pa a.sub.len ca] 174)).alloc (.cells #[.int .u8 0,.string ⟨#[]⟩,.slice none 0 0] 174)=W3 at *
 refine(BI _ _ sc _ (ay tN hb zr) hlen (jE.one _ _ F5)).mono ?_
 rintro e w1 ⟨v',rfl,hrow,au⟩
 have hz:=au.size
 have yU:=hb.trans (af au (by omega))
 have Mg:=(au.block w.heap.size (by omega)).trans hr2
 have PT:=(au.block (w.heap.size+1) (by omega)).trans hr3
 have PU:=(au.block (w.heap.size+1+1) (by omega)).trans hr4
 have hR:fZ w1 (w.heap.size+3) (λb=>(D b∧b<w.heap.size)∨w.heap.size+3≤b) t.sub v':=by
  refine⟨sc,by rw[←hzs];exact hrow,?_⟩;refine(F5.mono (D':=λb=>D b∧b<w.heap.size) λb hb hlt=>⟨hb,hlt⟩).kept (w':=w1) (λb hb _=>yU.block b hb.2) |>.mono λb hb _=>⟨.inl hb,λe=>?_⟩
  have:=(hrow.lt b e).1;omega
 clear hrow tN oc F5 hr2 hr3 hr4 hb au hzs
 obtain⟨p',c',rfl⟩:=hR.shape
 have Pk:fZ w1 (w.heap.size+3) (λb=>(D b∧b<w.heap.size)∨w.heap.size+3≤b) (t.sub.iz a 0) (.slice p' t.sub.len c'):=by rw[Fo.Am];exact hR
 have zF:=(xu.below yU zr)
 have Kl:ze w D t a (.slice p t.sub.len c) (.slice pa a.sub.len ca) p' c' w1 0:=⟨Pk,yU,Mg,PT,PU⟩
 clear hR Pk yU Mg PT PU zF
 go_wp2_with fail
 go_loopw [16] (λb wr=>∃i:Nat,i≤t.sub.len∧b=.int .i64 i∧ze w D t a (.slice p t.sub.len c) (.slice pa a.sub.len ca) p' c' wr i) (λb _=>t.sub.len - (intOf b).toNat)
 case atStart=>exact⟨0,Nat.zero_le _,rfl,Kl⟩
 case round=>
  obtain⟨i,hi,rfl,hI⟩:=hrel
  by_cases hlt:i<t.sub.len
  case pos=>
   obtain⟨g,c2,pn,tt,u,e,hg,cM,hat,x0,x1,x2,x3,hu,hfz⟩:=hI.row.at (i:=i) (by rw[Fo.iH];exact hlt);rw[Fo.yh] at hat;rw[Fo.iH] at e;injection e with e1 _ e2;subst e1 e2;obtain⟨pu,cu,rfl,_⟩:=hu.shape;have hlv:=t.sub.jG i pn tt hat;have SE:tt.txt.length≤1000000:=by
    have h1:=iF _ _ _ (t.sub.qv i pn tt hat);have h2:=LO.out;unfold Fo.tx at h2;rw[List.length_append] at h1;omega
   have Oh:dB wr (λb=>((D b∧b<w.heap.size)∨w.heap.size+3≤b)∧b≠g) a.sub (.slice pa a.sub.len ca):=
    ((xu.mono (D':=λb=>D b∧b<w.heap.size) λb hb hlt=>⟨hb,hlt⟩).below hI.nD zr).mono λb hb _=>⟨.inl hb,by omega⟩
   have C4:wr.drew.cell? ⟨w.heap.size+1,0,none⟩=some (.int .u8 a.k)∧wr.drew.cell? ⟨w.heap.size+1,1,none⟩=some (str a.n)∧wr.drew.cell? ⟨w.heap.size+1,2,none⟩=some (.slice pa a.sub.len ca):=
    ⟨(ak hI.r3 0).trans rfl,(ak hI.r3 1).trans rfl,(ak hI.r3 2).trans rfl⟩
   have KC:Below wr.heap.size wr wr.drew:=(zb _).drew;have hgB:g≠w.heap.size+1:=by omega
   have hlt':(i:Int)<(t.sub.len:Int):=by omega
   have hge:(0:Int)≤(i:Int):=by omega
   have HI:=zh hI;clear x0 hI;go_wp2_with fail;refine wp_region_held_drew (S:=(λW:World=>W.cell? ⟨w.heap.size+1,0,none⟩=some (.int .u8 a.k)∧W.cell? ⟨w.heap.size+1,1,none⟩=some (str a.n)∧W.cell? ⟨w.heap.size+1,2,none⟩=some (.slice pa a.sub.len ca))) (by kernel_rfl) ?_ (λdg=>?_)
   · exact C4
   refine iA (i:=0) (d:=some 19) (v:=?_) rfl (by kernel_rfl) (by kernel_rfl) (by kernel_rfl) (by kernel_rfl) (λ_ _ _ h=>h) (by assumption) (by kernel_rfl) ?_ ?_;rotate_left
   · intro w aI
     try dsimp only at aI
     go_simp;try with_reducible rfl
   try simp only[pz,pw]
   refine iA (i:=1) (d:=some 20) (v:=?_) rfl (by kernel_rfl) (by kernel_rfl) (by kernel_rfl) (by kernel_rfl) (λ_ _ _ h=>h) (by assumption) (by kernel_rfl) ?_ ?_;rotate_left
   · intro w aI
     try dsimp only at aI
     go_simp;try with_reducible rfl
   try simp only[pz,pw]
   refine iA (i:=2) (d:=some 21) (v:=?_) rfl (by kernel_rfl) (by kernel_rfl) (by kernel_rfl) (by kernel_rfl) (λ_ _ _ h=>h) (by assumption) (by kernel_rfl) ?_ ?_;rotate_left
   · intro w aI
     try dsimp only at aI
     go_simp;try with_reducible rfl
   try simp only[pz,pw]
   refine iA (i:=3) (d:=some 22) (v:=?_) rfl (by kernel_rfl) (by kernel_rfl) (by kernel_rfl) (by kernel_rfl) (λ_ _ _ h=>h) (by assumption) (by kernel_rfl) ?_ ?_;rotate_left
   · intro w aI
     try dsimp only at aI
     go_simp;try with_reducible rfl
   try simp only[pz,pw]
   refine iA (i:=4) (d:=some 23) (v:=?_) rfl (by kernel_rfl) (by kernel_rfl) (by kernel_rfl) (by kernel_rfl) (λ_ _ _ h=>h) (by assumption) (by kernel_rfl) ?_ ?_;rotate_left
   · intro w aI
     try dsimp only at aI
     go_simp;try with_reducible rfl
   try simp only[pz,pw]
   refine iA (i:=5) (d:=some 24) (v:=?_) rfl (by kernel_rfl) (by kernel_rfl) (by kernel_rfl) (by kernel_rfl) (λ_ _ _ h=>h) (by assumption) (by kernel_rfl) ?_ ?_;rotate_left
   · intro w aI
     try dsimp only at aI
     go_simp;try with_reducible rfl
   try simp only[pz,pw]
   refine iA (i:=7) (d:=some 26) (v:=?_) rfl (by kernel_rfl) (by kernel_rfl) (by kernel_rfl) (by kernel_rfl) (λ_ _ _ h=>h) (by assumption) (by kernel_rfl) ?_ ?_;rotate_left
   · intro w aI
     try dsimp only at aI
     go_simp;try with_reducible rfl
   try simp only[pz,pw]
   refine wpAnyH_ready (rs:=[6]) (by kernel_rfl) (by simp) ?_;refine AllReadyH.cons rfl (λK hK=>?_) AllReadyH.nil;go_simp;go_wp2_with (fail);refine hK.out _ _ ?_ (λdg=>?_)
   · exact C4
   clear hK K;try simp only[pz,pw]
   refine wpAnyH_ready (rs:=[8]) (by kernel_rfl) (by simp) ?_;refine AllReadyH.cons rfl (λK hK=>?_) AllReadyH.nil;go_simp;go_wp2_with (go_at_call 187;refine(HS.out tt.sub.level (by omega) tt a zr SE _ (λb=>((D b∧b<w.heap.size)∨w.heap.size+3≤b)∧b≠g) _ _ (hu.below KC zr) (Oh.below KC zr)).mono ?_;rintro e w2 ⟨v2,rfl,oc,aC⟩;obtain⟨p2,c2,rfl,_⟩:=oc.shape;have R3:=oK KC aC cM (hfz (i * 4+1));have Ug:=oK KC aC cM (hfz (i * 4+2));have Uh:=oK KC aC cM (hfz (i * 4+3));have y1:=Below.keep aC x1;have y2:=Below.keep aC x2;have y3:=Below.keep aC x3);refine hK.out _ _ ?_ (λdg=>?_)
   · exact uH C4 aC
   clear hK K;try simp only[pz,pw]
   refine iA (i:=9) (d:=some 28) (v:=?_) rfl (by kernel_rfl) (by kernel_rfl) (by kernel_rfl) (by kernel_rfl) (λ_ _ _ h=>h) (by assumption) (by kernel_rfl) ?_ ?_;rotate_left
   · intro w aI
     try dsimp only at aI
     go_simp;try with_reducible rfl
   try simp only[pz,pw]
   refine iA (i:=10) (d:=some 29) (v:=?_) rfl (by kernel_rfl) (by kernel_rfl) (by kernel_rfl) (by kernel_rfl) (λ_ _ _ h=>h) (by assumption) (by kernel_rfl) ?_ ?_;rotate_left
   · intro w aI
     try dsimp only at aI
     go_simp;try with_reducible rfl
   try simp only[pz,pw]
   refine wpAnyH_ready (rs:=[11]) (by kernel_rfl) (by simp) ?_;refine AllReadyH.cons rfl (λK hK=>?_) AllReadyH.nil;go_simp;go_wp2_with (fail);refine hK.out _ _ ?_ (λdg=>?_)
   · exact Fj hgB (uH C4 aC) _ _ _ _ _ _
   clear hK K;try simp only[pz,pw]
   refine wpAnyH_done (by kernel_rfl) ?_ _;go_wp2_with fail;refine⟨⟨i+1,hlt,by go_num,HI.out.step hlt hat ((zb _).drew.trans (af aC zr)) oc hg cM⟩,by simp only[intOf];omega⟩
  case neg=>
   have HF:=zh (hI.last (by omega));have c0:=(ak hI.r2 0).trans rfl;have c1:=(ak hI.r2 1).trans rfl;have c2:=(ak hI.r2 2).trans rfl;have f2:=az hI.r2 2;have d0:=(ak hI.r4 0).trans rfl;have d1:=(ak hI.r4 1).trans rfl;have d2:=(ak hI.r4 2).trans rfl;have e0:=az hI.r4 0;have e1:=az hI.r4 1;have e2:=az hI.r4 2;clear hI Kl;go_wp2_with fail;refine bodyPost_ret (v:=.agg #[.int .u8 t.k,str t.n,.slice p' t.sub.len c']) (by simp[results,Tryz.results187,go_sem,d0,d1,d2]) rfl ?_;unfold kR;rw[hput.out];exact⟨_,rfl,HF.out.1,HF.out.2⟩
theorem Fg:∀m,zf m:=by
 intro m
 induction m using Nat.strongRecOn with
 | _ m ih=>exact CZ m ih
theorem Fh (t a:Tr) (hl:t.txt.length≤1000000) (w:World) (D:Nat→Prop) (v va:Value) (hv:dB w D t.sub v) (xu:dB w D a.sub va):
 Calls Tryz.prog 187 #[.agg #[.int .u8 t.k,str t.n,v],.agg #[.int .u8 a.k,str a.n,va]] w (kR w D t a):=
 Fg _ t a zr hl w D v va hv xu
theorem leave {S:World→Prop} {Y:Act→World→Prop} {K:Act→World→Prop} {G:Prop} (_:Shut (∀a w,S w→(S w→Y a w)→K a w)) (hG:G) (a:Act) (w:World) (_:Hid False→K a w):G:=hG
theorem Cr (s:List UInt8) (G0:s.length≤1000) (hp:cV s) (h0:bW (s.take (aj s))=0) (hkk:aW (s.take (aj s))=0) (hn:isName (s.take (aj s))=true) (hb:∀r,s.drop (aj s)≠91::r):fH s:=by
 have hm:s.length≤maxLen:=by unfold maxLen;omega
 intro R Nd X rb w ht he hs
 have HP:Hid (∀e w',aO w rb s e w'↔((∃v,e=.returned (.agg #[.int .u8 (7:Nat),str (s.take (aj s)),v])∧dB w' (λb=>w.heap.size≤b) .nil v)∧Rest w' rb (s.drop (aj s))∧Kept rb w w')):=by
  intro e w';unfold aO;rw[jr hp h0 hkk hn hb]
 have hpre:=eP hp
 have HK:=zh (kF s)
 have nI:=zh (gP (s.take (aj s)))
 have hk0:((wk (s.take (aj s)):Int) != 0)=false:=by rw[HK.out,h0];rfl
 have qP:=bX s
 have qW:(s.take (aj s)).length≤maxLen:=by simp;omega
 have qV:=fB hb
 have hk1:((wk (s.take (aj s)++[91]):Int)==0)=true:=by rw[nI.out,hkk];rfl
 clear h0 hp hkk hb
 have h1:=St.start ht he hs
 have a1:=h1.env.r
 go_enter Tryz.func252,Tryz.ntmps252
 go_wp2_with fail
 generalize w.alloc (.cells #[.int .u8 0,.string ⟨#[]⟩,.slice none 0 0] 174)=W1 at *
 refine(cL s [63,116] rb _ h1.rest.cell hpre).mono ?_
 rintro e w1 ⟨rfl,rfl⟩
 go_wp2_with fail
 refine(eC s rb _ hm h1.rest).mono ?_
 rintro e w2 ⟨rfl,hr2,lq⟩
 have h2:=h1.next lq hr2
 have b1:=h2.env.r
 have b2:=h2.env.need
 go_wp2_with (first|(go_at_call 255;refine(jD _ _).mono ?_;rintro e w0 ⟨rfl,rfl⟩)|(go_at_call 253;refine(cL _ [91] rb _ h2.rest.cell qV).mono ?_;rintro e w0 ⟨rfl,rfl⟩))
 go_region_held3 (λW=>W.cell? ⟨Nd,0,none⟩=some (.func (.func 251) #[] #[])) (first|exact h2.drew.env.need|exact(h2.drew.quiet aH).env.need)
  (first |(go_at_call 88;refine(cC _ _ h2.drew.tab qW).mono ?_;rintro e w3 ⟨rfl,aH⟩)|(go_at_call 251;refine(dS _).mono ?_;rintro e w0 ⟨rfl,rfl⟩))
 have h3:=h2.drew.quiet aH
 have b3:=λo=>(h3.alloc o).env.need
 go_wp2_with (go_at_call 251;refine(dS _).mono ?_;rintro e w0 ⟨rfl,rfl⟩)
 go_quiet ((go_at_call 251;exact Calls.quiet_of_same ((dS _).mono λ_ _ h=>⟨h.1,h.2.symm⟩)))
 have c0:=λo=>(h3.alloc o).sN.1.1
 have c1:=λo=>(h3.alloc o).sN.1.2.1
 have c2:=λo=>(h3.alloc o).sN.1.2.2
 have f0:=λo=>(h3.alloc o).sN.2.1
 have f1:=λo=>(h3.alloc o).sN.2.2.1
 have f2:=λo=>(h3.alloc o).sN.2.2.2
 go_wp2_with fail
 refine bodyPost_ret (v:=.agg #[.int .u8 7,str (s.take (aj s)),.slice none 0 0]) (by simp[results,Tryz.results252,go_sem,c0,c1,c2]) rfl ?_
 rw[HP.out]
 obtain⟨g1,g2⟩:=((h3.alloc _).drewN nq).done (.int .u8 7) (str (s.take (aj s))) (.slice none 0 0)
 exact⟨⟨_,rfl,dB.nil _ _⟩,g1,g2⟩
theorem rG (s:List UInt8) (G0:s.length≤1000) (hp:cV s) (h0:bW (s.take (aj s))=0) (hkk:aW (s.take (aj s))=0) (hn:isName (s.take (aj s))=false):fH s:=by
 have hnone:=rJ hp h0 hkk hn
 have hm:s.length≤maxLen:=by unfold maxLen;omega
 intro R Nd X rb w ht he hs
 have HP:Hid (∀e w',aO w rb s e w'↔(e=.panicked dL∧Kept rb w w')):=by
  intro e w';unfold aO;rw[hnone]
 have hpre:=eP hp
 have HK:=zh (kF s)
 have nI:=zh (gP (s.take (aj s)))
 have hk0:((wk (s.take (aj s)):Int) != 0)=false:=by rw[HK.out,h0];rfl
 have qP:=bX s
 have qW:(s.take (aj s)).length≤maxLen:=by simp;omega
 have hk1:((wk (s.take (aj s)++[91]):Int)==0)=true:=by rw[nI.out,hkk];rfl
 by_cases tH:∃s2,s.drop (aj s)=91::s2
 · obtain⟨s2,hb⟩:=tH
   clear h0 hp hkk hnone;have h1:=St.start ht he hs;have a1:=h1.env.r;go_enter Tryz.func252,Tryz.ntmps252;go_wp2_with fail;generalize w.alloc (.cells #[.int .u8 0,.string ⟨#[]⟩,.slice none 0 0] 174)=W1 at *;refine(cL s [63,116] rb _ h1.rest.cell hpre).mono ?_;rintro e w1 ⟨rfl,rfl⟩;go_wp2_with fail;refine(eC s rb _ hm h1.rest).mono ?_;rintro e w2 ⟨rfl,hr2,lq⟩;have h2:=h1.next lq hr2
   have b1:=h2.env.r;have b2:=h2.env.need;rw[hb] at h2;go_wp2_with (first|(go_at_call 255;refine(jD _ _).mono ?_;rintro e w0 ⟨rfl,rfl⟩)|(go_at_call 253;refine(dN [91] s2 rb _ h2.rest).mono ?_;rintro e w3 ⟨rfl,hr3,xg⟩;have h3:=h2.next xg hr3;have b3:=h3.env.need))
   go_region_held2 (λW=>W.cell? ⟨Nd,0,none⟩=some (.func (.func 251) #[] #[])) (first|exact h3.drew.env.need|exact(h3.drew.quiet hb4).env.need|exact hfalse.out.elim)
    (first |(go_at_call 88;refine(cC _ _ h3.drew.tab qW).mono ?_;rintro e w4 ⟨rfl,hb4⟩)|(go_at_call 251;refine(fF _).mono ?_;rintro e w0 ⟨rfl,rfl⟩;refine leave (by assumption) (show _∧_ from⟨rfl,(HP.out _ _).2 ⟨rfl,(h3.drew.quiet hb4).kept⟩⟩) {tmps:= #[],defers:=[] } w4 (λhfalse=>?_)))
   all_goals exact hfalse.out.elim
 · have qV:=fB (s:=s.drop (aj s)) (c:=91) (λr e=>tH ⟨r,e⟩)
   clear h0 hp hkk hnone tH;have h1:=St.start ht he hs;have a1:=h1.env.r;go_enter Tryz.func252,Tryz.ntmps252;go_wp2_with fail;generalize w.alloc (.cells #[.int .u8 0,.string ⟨#[]⟩,.slice none 0 0] 174)=W1 at *;refine(cL s [63,116] rb _ h1.rest.cell hpre).mono ?_;rintro e w1 ⟨rfl,rfl⟩;go_wp2_with fail;refine(eC s rb _ hm h1.rest).mono ?_;rintro e w2 ⟨rfl,hr2,lq⟩;have h2:=h1.next lq hr2
   have b1:=h2.env.r;have b2:=h2.env.need;go_wp2_with (first|(go_at_call 255;refine(jD _ _).mono ?_;rintro e w0 ⟨rfl,rfl⟩)|(go_at_call 253;refine(cL _ [91] rb _ h2.rest.cell qV).mono ?_;rintro e w0 ⟨rfl,rfl⟩))
   go_region_held2 (λW=>W.cell? ⟨Nd,0,none⟩=some (.func (.func 251) #[] #[])) (first|exact h2.drew.env.need|exact(h2.drew.quiet hb4).env.need|exact hfalse.out.elim)
    (first |(go_at_call 88;refine(cC _ _ h2.drew.tab qW).mono ?_;rintro e w4 ⟨rfl,hb4⟩)|(go_at_call 251;refine(fF _).mono ?_;rintro e w0 ⟨rfl,rfl⟩;refine leave (by assumption) (show _∧_ from⟨rfl,(HP.out _ _).2 ⟨rfl,(h2.drew.quiet hb4).kept⟩⟩) {tmps:= #[],defers:=[] } w4 (λhfalse=>?_)))
   all_goals exact hfalse.out.elim
theorem pY (s:List UInt8) (G0:s.length≤1000) (hp:cV s) (h0:bW (s.take (aj s))=0) (hk:aW (s.take (aj s))≠0) (hb:∀r,s.drop (aj s)≠91::r):fH s:=by
 have hkk:aW (s.take (aj s))=4∨aW (s.take (aj s))=5∨aW (s.take (aj s))=6:=by
  rcases dy (w:=s.take (aj s)) with⟨k1,k2⟩|⟨k1,k2⟩|⟨k1,k2⟩|⟨k1,k2⟩<;>omega
 have hnone:aM s=none:=by
  rcases hkk with h|h|h
  · exact jB hp h0 h hb
  · exact gT hp h0 (.inl h) hb
  · exact gT hp h0 (.inr h) hb
 have hm:s.length≤maxLen:=by unfold maxLen;omega
 intro R Nd X rb w ht he hs
 have HP:Hid (∀e w',aO w rb s e w'↔(e=.panicked dL∧Kept rb w w')):=by
  intro e w';unfold aO;rw[hnone]
 have hpre:=eP hp
 have HK:=zh (kF s)
 have nI:=zh (gP (s.take (aj s)))
 have hk0:((wk (s.take (aj s)):Int) != 0)=false:=by rw[HK.out,h0];rfl
 have qP:=bX s
 have qW:(s.take (aj s)).length≤maxLen:=by simp;omega
 have qV:=fB hb
 rcases hkk with hkk|hkk|hkk
 · have hk1:((wk (s.take (aj s)++[91]):Int)==0)=false:=by rw[nI.out,hkk];rfl
   have uX:((wk (s.take (aj s)++[91]):Int)==7)=false:=by rw[nI.out,hkk];rfl
   have IE:((wk (s.take (aj s)++[91]):Int)==5)=false:=by rw[nI.out,hkk];rfl
   have mF:((wk (s.take (aj s)++[91]):Int)==6)=false:=by rw[nI.out,hkk];rfl
   clear h0 hp hb hnone hk hkk;have h1:=St.start ht he hs;have a1:=h1.env.r;go_enter Tryz.func252,Tryz.ntmps252;go_wp2_with fail;generalize w.alloc (.cells #[.int .u8 0,.string ⟨#[]⟩,.slice none 0 0] 174)=W1 at *;refine(cL s [63,116] rb _ h1.rest.cell hpre).mono ?_;rintro e w1 ⟨rfl,rfl⟩;go_wp2_with fail;refine(eC s rb _ hm h1.rest).mono ?_;rintro e w2 ⟨rfl,hr2,lq⟩;have h2:=h1.next lq hr2
   have b1:=h2.env.r;have b2:=h2.env.need;have b3:=λo=>(h2.alloc o).env.need
   go_wp2_with (first|(go_at_call 255;refine(jD _ _).mono ?_;rintro e w0 ⟨rfl,rfl⟩)|(go_at_call 253;refine(cL _ [91] rb _ h2.rest.cell qV).mono ?_;rintro e w0 ⟨rfl,rfl⟩)|(go_at_call 251;refine(fF _).mono ?_;rintro e w0 ⟨rfl,rfl⟩));exact⟨rfl,(HP.out _ _).2 ⟨rfl,(h2.alloc _).kept⟩⟩
 · have hk1:((wk (s.take (aj s)++[91]):Int)==0)=false:=by rw[nI.out,hkk];rfl
   have uX:((wk (s.take (aj s)++[91]):Int)==7)=false:=by rw[nI.out,hkk];rfl
   have IE:((wk (s.take (aj s)++[91]):Int)==5)=true:=by rw[nI.out,hkk];rfl
   have mF:((wk (s.take (aj s)++[91]):Int)==6)=false:=by rw[nI.out,hkk];rfl
   clear h0 hp hb hnone hk hkk;have h1:=St.start ht he hs;have a1:=h1.env.r;go_enter Tryz.func252,Tryz.ntmps252;go_wp2_with fail;generalize w.alloc (.cells #[.int .u8 0,.string ⟨#[]⟩,.slice none 0 0] 174)=W1 at *;refine(cL s [63,116] rb _ h1.rest.cell hpre).mono ?_;rintro e w1 ⟨rfl,rfl⟩;go_wp2_with fail;refine(eC s rb _ hm h1.rest).mono ?_;rintro e w2 ⟨rfl,hr2,lq⟩;have h2:=h1.next lq hr2
   have b1:=h2.env.r;have b2:=h2.env.need;have b3:=λo=>(h2.alloc o).env.need
   go_wp2_with (first|(go_at_call 255;refine(jD _ _).mono ?_;rintro e w0 ⟨rfl,rfl⟩)|(go_at_call 253;refine(cL _ [91] rb _ h2.rest.cell qV).mono ?_;rintro e w0 ⟨rfl,rfl⟩)|(go_at_call 251;refine(fF _).mono ?_;rintro e w0 ⟨rfl,rfl⟩));exact⟨rfl,(HP.out _ _).2 ⟨rfl,(h2.alloc _).kept⟩⟩
 · have hk1:((wk (s.take (aj s)++[91]):Int)==0)=false:=by rw[nI.out,hkk];rfl
   have uX:((wk (s.take (aj s)++[91]):Int)==7)=false:=by rw[nI.out,hkk];rfl
   have IE:((wk (s.take (aj s)++[91]):Int)==5)=false:=by rw[nI.out,hkk];rfl
   have mF:((wk (s.take (aj s)++[91]):Int)==6)=true:=by rw[nI.out,hkk];rfl
   clear h0 hp hb hnone hk hkk;have h1:=St.start ht he hs;have a1:=h1.env.r;go_enter Tryz.func252,Tryz.ntmps252;go_wp2_with fail;generalize w.alloc (.cells #[.int .u8 0,.string ⟨#[]⟩,.slice none 0 0] 174)=W1 at *;refine(cL s [63,116] rb _ h1.rest.cell hpre).mono ?_;rintro e w1 ⟨rfl,rfl⟩;go_wp2_with fail;refine(eC s rb _ hm h1.rest).mono ?_;rintro e w2 ⟨rfl,hr2,lq⟩;have h2:=h1.next lq hr2
   have b1:=h2.env.r;have b2:=h2.env.need;have b3:=λo=>(h2.alloc o).env.need
   go_wp2_with (first|(go_at_call 255;refine(jD _ _).mono ?_;rintro e w0 ⟨rfl,rfl⟩)|(go_at_call 253;refine(cL _ [91] rb _ h2.rest.cell qV).mono ?_;rintro e w0 ⟨rfl,rfl⟩)|(go_at_call 251;refine(fF _).mono ?_;rintro e w0 ⟨rfl,rfl⟩));exact⟨rfl,(HP.out _ _).2 ⟨rfl,(h2.alloc _).kept⟩⟩
theorem sJ (s s2 : List UInt8) (G0 : s.length ≤ 1000) (hp : cV s) (h0 : bW (s.take (aj s)) = 0) (hkk : aW (s.take (aj s)) = 0) (hn : isName (s.take (aj s)) = true) (hb : s.drop (aj s) = 91 :: s2) (ih : fH s2) : fH s := by
 have hm:s.length≤maxLen:=by unfold maxLen;omega
 intro R Nd X rb w ht he hs
 have hE:=iY hp h0 (.inr ⟨hkk,hn⟩) hb
 have hpre:=eP hp
 have HK:=zh (kF s)
 have nI:=zh (gP (s.take (aj s)))
 have hk0:((wk (s.take (aj s)):Int) != 0)=false:=by rw[HK.out,h0];rfl
 have qP:=bX s
 have qW:(s.take (aj s)).length≤maxLen:=by simp;omega
 have hk1:((wk (s.take (aj s)++[91]):Int)==0)=true:=by rw[nI.out,hkk];rfl
 have mG:(if aW (s.take (aj s))=4 then 4 else 7)=7:=by rw[hkk];rfl
 rw[mG] at hE
 have HB:=zh hb
 have HE:=zh hE
 clear hE
 clear h0 hp hkk mG
 have h1:=St.start ht he hs
 have a1:=h1.env.r
 go_enter Tryz.func252,Tryz.ntmps252
 go_wp2_with fail
 generalize w.alloc (.cells #[.int .u8 0,.string ⟨#[]⟩,.slice none 0 0] 174)=W1 at *
 refine(cL s [63,116] rb _ h1.rest.cell hpre).mono ?_
 rintro e w1 ⟨rfl,rfl⟩
 go_wp2_with fail
 refine(eC s rb _ hm h1.rest).mono ?_
 rintro e w2 ⟨rfl,hr2,lq⟩
 have h2:=h1.next lq hr2
 have b1:=h2.env.r
 have b2:=h2.env.need
 rw[hb] at h2
 go_wp2_with (first|(go_at_call 255;refine(jD _ _).mono ?_;rintro e w0 ⟨rfl,rfl⟩)|(go_at_call 253;refine(dN [91] s2 rb _ h2.rest).mono ?_;rintro e w3 ⟨rfl,hr3,xg⟩;have h3:=h2.next xg hr3;have b3:=h3.env.need))
 go_region_held3 (λW=>W.cell? ⟨Nd,0,none⟩=some (.func (.func 251) #[] #[])) (first|exact h3.drew.env.need|exact(h3.drew.quiet hb4).env.need)
  (first |(go_at_call 88;refine(cC _ _ h3.drew.tab qW).mono ?_;rintro e w4 ⟨rfl,hb4⟩)|(go_at_call 251;refine(dS _).mono ?_;rintro e w0 ⟨rfl,rfl⟩))
 have h4:=h3.drew.quiet hb4
 have b4:=λo=>(h4.alloc o).env.need
 have b5:=λo=>(h4.alloc o).env.next
 go_wp2_with (go_at_call 251;refine(dS _).mono ?_;rintro e w0 ⟨rfl,rfl⟩)
 have hx:=heap_alloc_new w4 (.cells #[.int .u8 7,.string ⟨(s.take (aj s)).toArray⟩,.slice none 0 0] 174)
 have h5:=h4.alloc (.cells #[.int .u8 7,.string ⟨(s.take (aj s)).toArray⟩,.slice none 0 0] 174)
 have bL:=h4.size
 have cD:w4.heap.size≠rb:=by have:=h4.lt;omega
 generalize Ku:w4.alloc (.cells #[.int .u8 7,.string ⟨(s.take (aj s)).toArray⟩,.slice none 0 0] 174)=W5 at *
 have dx:w4.heap.size<W5.heap.size:=(Array.getElem?_eq_some_iff.1 hx).1
 clear Ku
 rcases hq:aM s2 with _|⟨t,r⟩
 · have hnone:aM s=none:=by rw[HE.out,hq]
   have ih5:=ih R Nd X rb W5 h5.tab h5.env h5.rest;refine ih5.mono ?_;intro e w6 hpost;unfold aO at hpost;rw[hq] at hpost;obtain⟨rfl,mF⟩:=hpost;exact⟨rfl,by unfold aO;rw[hnone];exact⟨rfl,h5.kept.trans mF⟩⟩
 · have ih5 := ih R Nd X rb W5 h5.tab h5.env h5.rest
   have HQ:=zh hq;refine ih5.mono ?_;intro e w6 hpost;unfold aO at hpost;rw[hq] at hpost;obtain⟨⟨v,rfl,hv⟩,JS,mF⟩:=hpost;clear hq ih5 ih;have h6:=h5.next mF JS
   have C8:=mF.heap hx cD;have d2:=λo=>(ak ((Kept.alloc rb w6 o).heap C8 cD) 2).trans rfl
   have MK:=λo=>az ((Kept.alloc rb w6 o).heap C8 cD) 2
   go_wp2_with fail;have hG:=heap_alloc_new w6 (.cells #[.string ⟨#[]⟩,.int .u8 t.k,.string ⟨t.n.toArray⟩,v] 192);have M8:w6.heap.size<(w6.alloc (.cells #[.string ⟨#[]⟩,.int .u8 t.k,.string ⟨t.n.toArray⟩,v] 192)).heap.size:=by simp
   have Fz:=hv.below (B:=w6.heap.size) ((zb w6).alloc zr (.cells #[.string ⟨#[]⟩,.int .u8 t.k,.string ⟨t.n.toArray⟩,v] 192)) zr;have D5:=(Kept.alloc rb w6 (.cells #[.string ⟨#[]⟩,.int .u8 t.k,.string ⟨t.n.toArray⟩,v] 192)).heap C8 cD;have h7:=(h6.alloc (.cells #[.string ⟨#[]⟩,.int .u8 t.k,.string ⟨t.n.toArray⟩,v] 192)).set (B:=w4.heap.size) bL 2 (.slice (some ⟨w6.heap.size,0,none⟩) 1 1);have G7:=mF.size;generalize Nx:w6.alloc (.cells #[.string ⟨#[]⟩,.int .u8 t.k,.string ⟨t.n.toArray⟩,v] 192)=W7 at *;clear Nx;have F7:=cK D5 2 (.slice (some ⟨w6.heap.size,0,none⟩) 1 1);have M6:(W7.setCell ⟨w4.heap.size,2,none⟩ (.slice (some ⟨w6.heap.size,0,none⟩) 1 1)).heap[w6.heap.size]? =_:=(Below.heap_setCell _ _ _ _ (by simp;omega)).trans hG;have Og:dB (W7.setCell ⟨w4.heap.size,2,none⟩ (.slice (some ⟨w6.heap.size,0,none⟩) 1 1)) (λb=>W5.heap.size≤b) t.sub v:=Fz.kept λb hb _=>Below.heap_setCell _ _ _ _ (by simp;omega)
   simp only[List.setIfInBounds_toArray,List.set_cons_zero,List.set_cons_succ] at F7;generalize W7.setCell ⟨w4.heap.size,2,none⟩ (.slice (some ⟨w6.heap.size,0,none⟩) 1 1)=W8 at *;clear D5 hG Fz C8 hx d2 MK b3 b5 b4
   by_cases hr:∃r',r=93::r'
   · obtain⟨r',rfl⟩:=hr
     have HP:Hid (aM s=some (⟨7,s.take (aj s),.one t⟩,r')):=by show _=_;rw[HE.out,HQ.out];rfl
     have g1:=h7.drew.env.need
     go_region_held3 (λW=>W.cell? ⟨Nd,0,none⟩=some (.func (.func 251) #[] #[])∧W.cell? ⟨R,0,none⟩=some (.pointer (some ⟨rb,0,none⟩))) (first|exact⟨h7.drew.env.need,h7.drew.env.r⟩|exact⟨h9.env.need,h9.env.r⟩)
      (first |(go_at_call 253;refine(dN [93] r' rb _ h7.drew.rest).mono ?_;rintro e w9 ⟨rfl,C6,mG⟩;have h9:=h7.drew.next mG C6)|(go_at_call 251;refine(dS _).mono ?_;rintro e w0 ⟨rfl,rfl⟩))
     have h9:=h7.drew.next mG C6
     have D6:=mG.heap (w:=W8.drew) F7 cD;have M7:=mG.heap (w:=W8.drew) M6 (by have:=h7.lt;omega);have He:dB w9 (λb=>W5.heap.size≤b) t.sub v:=(Og.kept (w:=W8) (w':=W8.drew) (λ_ _ _=>rfl)).kept (w:=W8.drew) (w':=w9) λb hb hlt=>mG.block b hlt (by have:=h7.lt;intro e;injection e with e;omega)
     have x0:=(ak D6 0).trans rfl;have x1:=(ak D6 1).trans rfl;have x2:=(ak D6 2).trans rfl;obtain⟨⟨c0,c1,c2⟩,f0,f1,f2⟩:=h9.sN;go_wp2_with fail;refine bodyPost_ret (v:=.agg #[.int .u8 7,str (s.take (aj s)),.slice (some ⟨w6.heap.size,0,none⟩) 1 1]) (by simp[results,Tryz.results252,go_sem,c0,c1,c2]) rfl ?_;unfold aO;rw[HP.out];obtain⟨q1,q2⟩:=h9.done (.int .u8 7) (str (s.take (aj s))) (.slice (some ⟨w6.heap.size,0,none⟩) 1 1);refine⟨⟨_,rfl,?_⟩,q1,q2⟩;refine dB.yC ⟨_,vA (n:=1) M7 rfl (by decide),?_,jE.single (He.mono λb hb _=>?_)⟩ (D:=λb=>w.heap.size<b) ?_ _ _ _ |>.mono (λb hb _=>Nat.le_of_lt hb)
     · intro b hb
       have hb:some w6.heap.size=some b:=hb;injection hb with hb;show w.heap.size<b;omega
     · have hb:W5.heap.size≤b:=hb
       show w.heap.size<b;omega
     · intro b hb;exact Nat.ne_of_gt hb
   · have DW:=fB (s:=r) (c:=93) (λr' e=>hr ⟨r',e⟩)
     have hnone:aM s=none:=by
      rw[HE.out,HQ.out];rcases r with _|⟨c,r⟩
      · rfl
      · split
        · rename_i h;simp only[Option.some.injEq,Prod.mk.injEq,List.cons.injEq] at h;exact absurd ⟨_,by rw[h.2.1]⟩ hr
        · rfl
     have HP:Hid (∀e w',aO w rb s e w'↔(e=.panicked dL∧Kept rb w w')):=by
      intro e w';unfold aO;rw[hnone]
     clear hnone hr
     go_region_held2 (λW=>W.cell? ⟨Nd,0,none⟩=some (.func (.func 251) #[] #[])∧W.cell? ⟨R,0,none⟩=some (.pointer (some ⟨rb,0,none⟩))) (first|exact⟨h7.drew.env.need,h7.drew.env.r⟩|exact hfalse.out.elim)
      (first |(go_at_call 253;refine(cL r [93] rb _ h7.drew.rest.cell DW).mono ?_;rintro e w9 ⟨rfl,rfl⟩)|(go_at_call 251;refine(fF _).mono ?_;rintro e w0 ⟨rfl,rfl⟩;refine leave (by assumption) (show _∧_ from⟨rfl,(HP.out _ _).2 ⟨rfl,h7.drew.kept⟩⟩) {tmps:= #[],defers:=[] } W8.drew (λhfalse=>?_)))
     all_goals exact hfalse.out.elim
theorem vv (s s2 : List UInt8) (G0 : s.length ≤ 1000) (hp : cV s) (h0 : bW (s.take (aj s)) = 0) (hkk : aW (s.take (aj s)) = 4) (hb : s.drop (aj s) = 91 :: s2) (ih : fH s2) : fH s := by
 have hm:s.length≤maxLen:=by unfold maxLen;omega
 intro R Nd X rb w ht he hs
 have hE:=iY hp h0 (.inl hkk) hb
 have hpre:=eP hp
 have HK:=zh (kF s)
 have nI:=zh (gP (s.take (aj s)))
 have hk0:((wk (s.take (aj s)):Int) != 0)=false:=by rw[HK.out,h0];rfl
 have qP:=bX s
 have qW:(s.take (aj s)).length≤maxLen:=by simp;omega
 have hk1:((wk (s.take (aj s)++[91]):Int)==0)=false:=by rw[nI.out,hkk];rfl
 have uX:((wk (s.take (aj s)++[91]):Int)==7)=false:=by rw[nI.out,hkk];rfl
 have IE:((wk (s.take (aj s)++[91]):Int)==5)=false:=by rw[nI.out,hkk];rfl
 have mF:((wk (s.take (aj s)++[91]):Int)==6)=false:=by rw[nI.out,hkk];rfl
 have mG:(if aW (s.take (aj s))=4 then 4 else 7)=wk (s.take (aj s)++[91]):=by rw[nI.out,hkk];rfl
 rw[mG] at hE
 have HB:=zh hb
 have HE:=zh hE
 clear hE
 clear h0 hp hkk mG
 have h1:=St.start ht he hs
 have a1:=h1.env.r
 go_enter Tryz.func252,Tryz.ntmps252
 go_wp2_with fail
 generalize w.alloc (.cells #[.int .u8 0,.string ⟨#[]⟩,.slice none 0 0] 174)=W1 at *
 refine(cL s [63,116] rb _ h1.rest.cell hpre).mono ?_
 rintro e w1 ⟨rfl,rfl⟩
 go_wp2_with fail
 refine(eC s rb _ hm h1.rest).mono ?_
 rintro e w2 ⟨rfl,hr2,lq⟩
 have h2:=h1.next lq hr2
 have b1:=h2.env.r
 have b2:=h2.env.need
 rw[hb] at h2
 go_wp2_with (first|(go_at_call 255;refine(jD _ _).mono ?_;rintro e w0 ⟨rfl,rfl⟩)|(go_at_call 253;refine(dN [91] s2 rb _ h2.rest).mono ?_;rintro e w3 ⟨rfl,hr3,xg⟩;have h3:=h2.next xg hr3;have b3:=λo=>(h3.alloc o).env.need;have b5:=λo=>(h3.alloc o).env.next)|(go_at_call 251;refine(dS _).mono ?_;rintro e w0 ⟨rfl,rfl⟩))
 have h4:=h3
 have hx:=heap_alloc_new w3 (.cells #[.int .u8 (wk (s.take (aj s)++[91])),.string ⟨(s.take (aj s)).toArray⟩,.slice none 0 0] 174)
 have h5:=h4.alloc (.cells #[.int .u8 (wk (s.take (aj s)++[91])),.string ⟨(s.take (aj s)).toArray⟩,.slice none 0 0] 174)
 have bL:=h4.size
 have cD:w3.heap.size≠rb:=by have:=h4.lt;omega
 generalize Ku:w3.alloc (.cells #[.int .u8 (wk (s.take (aj s)++[91])),.string ⟨(s.take (aj s)).toArray⟩,.slice none 0 0] 174)=W5 at *
 have dx:w3.heap.size<W5.heap.size:=(Array.getElem?_eq_some_iff.1 hx).1
 clear Ku
 rcases hq:aM s2 with _|⟨t,r⟩
 · have hnone:aM s=none:=by rw[HE.out,hq]
   have ih5:=ih R Nd X rb W5 h5.tab h5.env h5.rest;refine ih5.mono ?_;intro e w6 hpost;unfold aO at hpost;rw[hq] at hpost;obtain⟨rfl,mF⟩:=hpost;exact⟨rfl,by unfold aO;rw[hnone];exact⟨rfl,h5.kept.trans mF⟩⟩
 · have ih5 := ih R Nd X rb W5 h5.tab h5.env h5.rest
   have HQ:=zh hq;refine ih5.mono ?_;intro e w6 hpost;unfold aO at hpost;rw[hq] at hpost;obtain⟨⟨v,rfl,hv⟩,JS,mF⟩:=hpost;clear hq ih5 ih;have h6:=h5.next mF JS
   have C8:=mF.heap hx cD;have d2:=λo=>(ak ((Kept.alloc rb w6 o).heap C8 cD) 2).trans rfl
   have MK:=λo=>az ((Kept.alloc rb w6 o).heap C8 cD) 2
   go_wp2_with fail;have hG:=heap_alloc_new w6 (.cells #[.string ⟨#[]⟩,.int .u8 t.k,.string ⟨t.n.toArray⟩,v] 192);have M8:w6.heap.size<(w6.alloc (.cells #[.string ⟨#[]⟩,.int .u8 t.k,.string ⟨t.n.toArray⟩,v] 192)).heap.size:=by simp
   have Fz:=hv.below (B:=w6.heap.size) ((zb w6).alloc zr (.cells #[.string ⟨#[]⟩,.int .u8 t.k,.string ⟨t.n.toArray⟩,v] 192)) zr;have D5:=(Kept.alloc rb w6 (.cells #[.string ⟨#[]⟩,.int .u8 t.k,.string ⟨t.n.toArray⟩,v] 192)).heap C8 cD;have h7:=(h6.alloc (.cells #[.string ⟨#[]⟩,.int .u8 t.k,.string ⟨t.n.toArray⟩,v] 192)).set (B:=w3.heap.size) bL 2 (.slice (some ⟨w6.heap.size,0,none⟩) 1 1);have G7:=mF.size;generalize Nx:w6.alloc (.cells #[.string ⟨#[]⟩,.int .u8 t.k,.string ⟨t.n.toArray⟩,v] 192)=W7 at *;clear Nx;have F7:=cK D5 2 (.slice (some ⟨w6.heap.size,0,none⟩) 1 1);have M6:(W7.setCell ⟨w3.heap.size,2,none⟩ (.slice (some ⟨w6.heap.size,0,none⟩) 1 1)).heap[w6.heap.size]? =_:=(Below.heap_setCell _ _ _ _ (by simp;omega)).trans hG;have Og:dB (W7.setCell ⟨w3.heap.size,2,none⟩ (.slice (some ⟨w6.heap.size,0,none⟩) 1 1)) (λb=>W5.heap.size≤b) t.sub v:=Fz.kept λb hb _=>Below.heap_setCell _ _ _ _ (by simp;omega)
   simp only[List.setIfInBounds_toArray,List.set_cons_zero,List.set_cons_succ] at F7;generalize W7.setCell ⟨w3.heap.size,2,none⟩ (.slice (some ⟨w6.heap.size,0,none⟩) 1 1)=W8 at *;clear D5 hG Fz C8 hx d2 MK b3 b5
   by_cases hr:∃r',r=93::r'
   · obtain⟨r',rfl⟩:=hr
     have HP:Hid (aM s=some (⟨(wk (s.take (aj s)++[91])),s.take (aj s),.one t⟩,r')):=by show _=_;rw[HE.out,HQ.out];rfl
     have g1:=h7.drew.env.need
     go_region_held3 (λW=>W.cell? ⟨Nd,0,none⟩=some (.func (.func 251) #[] #[])∧W.cell? ⟨R,0,none⟩=some (.pointer (some ⟨rb,0,none⟩))) (first|exact⟨h7.drew.env.need,h7.drew.env.r⟩|exact⟨h9.env.need,h9.env.r⟩)
      (first |(go_at_call 253;refine(dN [93] r' rb _ h7.drew.rest).mono ?_;rintro e w9 ⟨rfl,C6,mG⟩;have h9:=h7.drew.next mG C6)|(go_at_call 251;refine(dS _).mono ?_;rintro e w0 ⟨rfl,rfl⟩))
     have h9:=h7.drew.next mG C6
     have D6:=mG.heap (w:=W8.drew) F7 cD;have M7:=mG.heap (w:=W8.drew) M6 (by have:=h7.lt;omega);have He:dB w9 (λb=>W5.heap.size≤b) t.sub v:=(Og.kept (w:=W8) (w':=W8.drew) (λ_ _ _=>rfl)).kept (w:=W8.drew) (w':=w9) λb hb hlt=>mG.block b hlt (by have:=h7.lt;intro e;injection e with e;omega)
     have x0:=(ak D6 0).trans rfl;have x1:=(ak D6 1).trans rfl;have x2:=(ak D6 2).trans rfl;obtain⟨⟨c0,c1,c2⟩,f0,f1,f2⟩:=h9.sN;go_wp2_with fail;refine bodyPost_ret (v:=.agg #[.int .u8 (wk (s.take (aj s)++[91])),str (s.take (aj s)),.slice (some ⟨w6.heap.size,0,none⟩) 1 1]) (by simp[results,Tryz.results252,go_sem,c0,c1,c2]) rfl ?_;unfold aO;rw[HP.out];obtain⟨q1,q2⟩:=h9.done (.int .u8 (wk (s.take (aj s)++[91]))) (str (s.take (aj s))) (.slice (some ⟨w6.heap.size,0,none⟩) 1 1);refine⟨⟨_,rfl,?_⟩,q1,q2⟩;refine dB.yC ⟨_,vA (n:=1) M7 rfl (by decide),?_,jE.single (He.mono λb hb _=>?_)⟩ (D:=λb=>w.heap.size<b) ?_ _ _ _ |>.mono (λb hb _=>Nat.le_of_lt hb)
     · intro b hb
       have hb:some w6.heap.size=some b:=hb;injection hb with hb;show w.heap.size<b;omega
     · have hb:W5.heap.size≤b:=hb
       show w.heap.size<b;omega
     · intro b hb;exact Nat.ne_of_gt hb
   · have DW:=fB (s:=r) (c:=93) (λr' e=>hr ⟨r',e⟩)
     have hnone:aM s=none:=by
      rw[HE.out,HQ.out];rcases r with _|⟨c,r⟩
      · rfl
      · split
        · rename_i h;simp only[Option.some.injEq,Prod.mk.injEq,List.cons.injEq] at h;exact absurd ⟨_,by rw[h.2.1]⟩ hr
        · rfl
     have HP:Hid (∀e w',aO w rb s e w'↔(e=.panicked dL∧Kept rb w w')):=by
      intro e w';unfold aO;rw[hnone]
     clear hnone hr
     go_region_held2 (λW=>W.cell? ⟨Nd,0,none⟩=some (.func (.func 251) #[] #[])∧W.cell? ⟨R,0,none⟩=some (.pointer (some ⟨rb,0,none⟩))) (first|exact⟨h7.drew.env.need,h7.drew.env.r⟩|exact hfalse.out.elim)
      (first |(go_at_call 253;refine(cL r [93] rb _ h7.drew.rest.cell DW).mono ?_;rintro e w9 ⟨rfl,rfl⟩)|(go_at_call 251;refine(fF _).mono ?_;rintro e w0 ⟨rfl,rfl⟩;refine leave (by assumption) (show _∧_ from⟨rfl,(HP.out _ _).2 ⟨rfl,h7.drew.kept⟩⟩) {tmps:= #[],defers:=[] } W8.drew (λhfalse=>?_)))
     all_goals exact hfalse.out.elim
end Go.Proofs.YtakgjcfkdemipaaGreatDoor
