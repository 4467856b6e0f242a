/-
  Lemmas: the law StoreDisk of arguslaw19. Conditions: bounds of lengths; the variable strings.asciiSpace.
-/
import Derived.Test.YtemjidmkolfgnaaGreatDoorSB42
import Derived.Test.YtemjidmkolfgnaaGreatDoorSBn
import Derived.Test.YtemjidmkolfgnaaGreatDoorSD1
set_option maxHeartbeats 12800000
set_option maxRecDepth 8000
namespace Go.Proofs.YtemjidmkolfgnaaGreatDoor
open Go Go.RowKit
structure vca where
 kd:Nat
 sec:Int
 n:Int
 data:List UInt8
 keep:List Int
def vdt (D:Nat→Prop) (w:World) (v:Value) (o:vca):Prop:=∃a b,v=.agg #[.int .u8 (o.kd:Int),.int .i64 o.sec,.int .i64 o.n,a,b]∧CV D w a (aH o.data)∧CV D w b (vay o.keep)
def vbc (B:Nat) (w:World) (a m n c:Nat):Prop:=∃b1 b2 pv vd vfc S,bw B w a b1 b2 pv S∧vag B w m vd vfc S∧vas S c∧S.n=n
theorem vag.kd {B m a b1 b2:Nat} {pv vd vfc:Value} {S T:dc} {X:Nat→Prop} {w w':World} (h:vag B w m vd vfc S) (_hM:bw B w a b1 b2 pv T) (hk:KD X B w w'):vag B w' m vd vfc S:=by
 have key:∀(b:Nat) (cs:Array Value) (t:TypeId),w.heap[b]? =some (.cells cs t (0,0))→t≠133∧t≠145∧t≠147→w'.heap[b]? =w.heap[b]? :=λb cs t e ht=>by
  rw[e];exact hk.keep b _ e (.inl λver t2 f2 e2=>by cases e2;exact ht)
 refine h.agree λb hb=>?_
 rcases hb with rfl|hb|hb
 · exact key _ _ _ h.head (by decide)
 · obtain⟨_,cur,e⟩:=vao h.iY hb
   exact key _ _ _ e (by decide)
 · obtain⟨_,cur,e⟩:=vao h.pend hb
   exact key _ _ _ e (by decide)
theorem bw.vfa {B a b1 b2:Nat} {pv:Value} {S:dc} {w w':World} (h:bw B w a b1 b2 pv S) (hk:vf7 B w w'):bw B w' a b1 b2 pv S:=by
 have key:∀(b:Nat) (cs:Array Value) (t:TypeId),w.heap[b]? =some (.cells cs t (0,0))→t≠136∧t≠9∧t≠193→w'.heap[b]? =w.heap[b]? :=λb cs t e ht=>by
  rw[e];exact hk.keep b _ e λver t2 f2 e2=>by cases e2;exact ht
 refine h.agree λb hb=>?_
 rcases hb with rfl|rfl|rfl|hb
 · exact key _ _ _ h.head (by decide)
 · exact key _ _ _ h.iY (by decide)
 · exact key _ _ _ h.now (by decide)
 · rcases h.pend.2 with⟨e,_⟩|⟨g',cap,cur,e,bO,tZ,_⟩
   · rw[e] at hb;cases hb
   · rw[e] at hb
     simp only[Value.ownBlock,Option.some.injEq] at hb;subst hb;exact key _ _ _ tZ (by decide)
theorem vbg (S:dc):(gh S).n=S.n:=by unfold gh;split<;>rfl
theorem vcj (S:dc) (i:Int) (bs:List UInt8):(vah S i bs).n=S.n:=by
 unfold vah
 split
 · rfl
 · split
   · exact vbg S
   · exact vbg S
theorem vcf (S:dc):(vak S).n=S.n:=by
 unfold vak
 split
 · rfl
 · split
   · exact vbg S
   · exact vbg S
theorem vdj (S:dc) (n:Int):(vaq S n).n=S.n:=by unfold vaq;split<;>rfl
theorem vas.vdv (S:dc) (d:List UInt8) (c:Nat) (h0:0≤(c:Int)) (h1:S.iY=d) (h2:S.now=d) (h3:S.pend=[]) (h4:S.ends=false) (h5:S.calls=0):vas S c:=
 ⟨by rw[h3,h2];exact((A3 S).trans h1).symm,by rw[h3];exact Nat.zero_le _,by rw[h5];omega,by rw[h5];decide,λh=>by rw[h4] at h;cases h⟩
theorem vbq {B a m n c:Nat} {D:Nat→Prop} {v:Value} (o:vca) (w:World) (h:vbc B w a m n c) (hc:c≤999) (hv:vdt D w v o) (hD:∀b,D b→b<B) (_hpos:0<B) (hk:o.kd<256) (hn:o.n≤9223372036854775807):
 Calls Tryz.prog 33 #[.pointer (some ⟨a,0,none⟩),.pointer (some ⟨m,0,none⟩),v] w λe w'=>e=.returned (.bool true)∧vbc B w' a m n (c+1)∧Below B w w':=by
 obtain⟨va,vb,rfl,vdd,hvb⟩:=hv
 obtain⟨b1,b2,pv,vd,vfc,S,hM,hR,hI,RU⟩:=h
 have hBw:B≤w.heap.size:=by have:=hM.lt (.inl rfl);omega
 obtain⟨pa,ca,rfl,hac,vex⟩:=vdd.shape
 obtain⟨pb,cb,rfl,hbc,vez⟩:=hvb.shape
 rw[ak] at hac vex
 have hil:(vay o.keep).length=o.keep.length:=by simp[vay]
 rw[hil] at hbc vez
 have vei:=vdd
 have vdp:=hvb
 rw[ak] at *
 rw[hil] at *
 obtain⟨kd,sec,nn,data,keep⟩:=o
 dsimp only at *
 go_enter Tryz.func33,Tryz.ntmps33
 go_upto_region 2 with fail
 have fc:Below w.heap.size w (w.alloc (.cells #[.int .u8 (kd:Int),.int .i64 sec,.int .i64 nn,.slice pa data.length ca,.slice pb keep.length cb] 72)):=(zb w).alloc zr _
 have vda:=heap_alloc_new w (.cells #[.int .u8 (kd:Int),.int .i64 sec,.int .i64 nn,.slice pa data.length ca,.slice pb keep.length cb] 72)
 generalize w.alloc (.cells #[.int .u8 (kd:Int),.int .i64 sec,.int .i64 nn,.slice pa data.length ca,.slice pb keep.length cb] 72)=W1 at *
 have hM1:=hM.below fc zr
 have vds:=hR.below fc zr
 have ve3:=vei.below fc zr
 have ve4:=vdp.below fc zr
 have veb:vG (.cells #[.int .u8 (kd:Int),.int .i64 sec,.int .i64 nn,.slice pa data.length ca,.slice pb keep.length cb] 72 (0,0)):=λcs t fl e=>by cases e;decide
 have c5:=vda
 clear vda
 generalize hG:w.heap.size=G at *
 have b5:W1.cell? ⟨G,0,none⟩=some (.int .u8 (kd:Int))∧W1.cell? ⟨G,1,none⟩=some (.int .i64 sec)∧W1.cell? ⟨G,2,none⟩=some (.int .i64 nn)∧W1.cell? ⟨G,3,none⟩=some (.slice pa data.length ca)∧W1.cell? ⟨G,4,none⟩=some (.slice pb keep.length cb):=⟨(af c5 0).trans rfl,(af c5 1).trans rfl,(af c5 2).trans rfl,(af c5 3).trans rfl,(af c5 4).trans rfl⟩
 have vdr:Below B w W1:=aa fc hBw
 go_upto_block 0 with fail
 have oo:∀W:World,W.heap[G]? =some (.cells #[.int .u8 (kd:Int),.int .i64 sec,.int .i64 nn,.slice pa data.length ca,.slice pb keep.length cb] 72 (0,0))→W.cell? ⟨G,0,none⟩=some (.int .u8 (kd:Int))∧W.cell? ⟨G,1,none⟩=some (.int .i64 sec)∧W.cell? ⟨G,2,none⟩=some (.int .i64 nn)∧W.cell? ⟨G,3,none⟩=some (.slice pa data.length ca)∧W.cell? ⟨G,4,none⟩=some (.slice pb keep.length cb):=λW c5=>⟨(af c5 0).trans rfl,(af c5 1).trans rfl,(af c5 2).trans rfl,(af c5 3).trans rfl,(af c5 4).trans rfl⟩
 have oo:=zh oo
 go_cut [7] from 15 to 88 (λs wx=>s=.bool true∧vbc B wx a m n (c+1)∧Below B w wx)
 case first=>
  have h5:kd % 5=0∨kd % 5=1∨kd % 5=2∨kd % 5=3∨kd % 5=4:=by omega
  rcases h5 with h5|h5|h5|h5|h5
  · have hr:(kd:Int) % 5=0:=by omega
    go_wp2_with (first
     | (go_at_call 42;refine(vcg _ hM1 sec).mono ?_;rintro e w2 ⟨⟨rv,rfl,vf1⟩,bO⟩;have b6:=oo.out _ (ag c5 bO);have hcv:=FM vf1)
     | (go_at_call 67;refine(vco _ (vds.below bO zr) hI (by omega) sec).mono ?_;rintro e w3 ⟨rfl,rfl⟩))
    go_meet
    case rel=>exact⟨rfl,⟨b1,b2,pv,vd,vfc,S,hM1.below bO zr,vds.below bO zr,hI.mono (by omega),RU⟩,vdr.trans (aa bO (by have:=vdr.size;omega))⟩
  · have hr:(kd:Int) % 5=1:=by omega
    go_wp2_with (first
     | (go_at_call 43;refine(vbt _ hM1 hI (by omega) sec _ data ve3 hD).mono ?_;rintro e w2 ⟨rfl,⟨Vz,hM2⟩,hk2⟩;have b6:=oo.out _ (hk2.keep G _ c5 (.inl veb));have LZ:=vds.kd hM1 hk2;have hcv:=FM (ve3.agree λb hb _=>hk2.cV.block b (hD b hb)))
     | (go_at_call 68;refine(vc1 _ LZ hI (by omega) sec data).mono ?_;rintro e w3 ⟨rfl,⟨vf3,NS⟩,vV⟩))
    go_meet
    case rel=>exact⟨rfl,⟨b1,b2,_,vd,_,_,hM2.vfa vV,NS,hI.write sec data,(vcj S sec data).trans RU⟩,vdr.trans (hk2.cV.trans vV.cV)⟩
  · have hr:(kd:Int) % 5=2:=by omega
    go_wp2_with (first
     | (go_at_call 44;refine(vbs _ hM1 hI (by omega)).mono ?_;rintro e w2 ⟨rfl,⟨Vz,hM2⟩,hk2⟩;have LZ:=vds.kd hM1 hk2)
     | (go_at_call 69;refine(vby _ LZ hI (by omega)).mono ?_;rintro e w3 ⟨rfl,⟨vf3,NS⟩,vV⟩))
    go_meet
    case rel=>exact⟨rfl,⟨b1,b2,_,vd,_,_,hM2.vfa vV,NS,hI.flush,(vcf S).trans RU⟩,vdr.trans (hk2.cV.trans vV.cV)⟩
  · have hr:(kd:Int) % 5=3:=by omega
    go_wp2_with (first
     | (go_at_call 37;refine(vd7 (X:=λ_=>False) _ hM1 id nn).mono ?_;rintro e w2 ⟨rfl,hM2,hk2⟩;have b6:=oo.out _ (hk2.keep G _ c5 (.inl veb));have LZ:=vds.kd hM1 hk2)
     | (go_at_call 70;refine(vcr _ LZ nn).mono ?_;rintro e w3 ⟨rfl,NS,vV⟩))
    go_meet
    case rel=>exact⟨rfl,⟨b1,b2,_,vd,_,_,hM2.vfa vV,NS,hI.stop nn hn,(vdj S nn).trans RU⟩,vdr.trans (hk2.cV.trans vV.cV)⟩
  · have hr:(kd:Int) % 5=4:=by omega
    go_wp2_with (first
     | (go_at_call 38;refine(vce (X:=λ_=>False) _ hM1 keep ve4 (by have:=hI.pl;omega) (λb hb=>hb.elim) (λb hb=>by have:=hD b hb;have:=hM1.hB;omega)).mono ?_;rintro e w2 ⟨rfl,⟨b3,nc,sl,hM2⟩,hk2⟩;have b6:=oo.out _ (hk2.keep G _ c5 (.inl veb));have LZ:=vds.kd hM1 hk2;have vdp:=(ve4.agree λb hb _=>hk2.cV.block b (hD b hb)))
     | (go_at_call 71;refine(vbx _ LZ keep vdp (by have:=hI.pl;omega) hD).mono ?_;rintro e w3 ⟨rfl,NS,vV⟩))
    go_meet
    case rel=>exact⟨rfl,⟨b1,b3,_,vd,_,_,hM2.vfa vV,NS.same rfl rfl rfl rfl rfl,vas.vdv _ _ _ (by omega) rfl rfl rfl rfl rfl,RU⟩,vdr.trans (hk2.cV.trans vV.cV)⟩
 case rest=>
  obtain⟨rfl,vet,hBl⟩:=hcut;obtain⟨b1,b2,pv,vd,vfc,S,hM,hR,hI,RU⟩:=vet;have vea:∀W,Below wc.heap.size wc W→vbc B W a m n (c+1):=λW hW=>⟨b1,b2,pv,vd,vfc,S,hM.below hW zr,hR.below hW zr,hI,RU⟩
  have veu:=enters_of Tryz.func40 (by kernel_rfl) rfl;go_upto_region 18 with fail;refine u5 (D:=λ_=>True) (w:=wc) (d:=some 6) 10 [(0,vP a 0),(1,vP m 0),(7,.eq (.bool true))] [.eq (.bool true),.eq (.bool true),vP a 0,.eq (.bool S.down),vP m 0,vP m 0,vP m 3,.eq (.bool S.down),.eq (.bool true),.eq (.bool true),.eq (.bool true)]
   (λw'=>Below wc.heap.size wc w') (by kernel_rfl) rfl rfl (λ_ _ h hb=>h.trans (aa hb h.size)) (zb wc).drew ⟨rfl,rfl,rfl,trivial⟩ ?_ ?_
  · refine⟨iU rfl rfl (by kernel_rfl),iU rfl rfl (by kernel_rfl),iU rfl rfl (by kernel_rfl),?_,iU rfl rfl (by kernel_rfl),ic rfl (by kernel_rfl) rfl rfl,gQ rfl (by kernel_rfl) rfl rfl (λw=>by simp[go_sem]),dV rfl (by kernel_rfl) rfl rfl (λw hS=>by have c1:=(hR.below hS zr).box;simp[go_sem,c1]),gJ rfl (by kernel_rfl) rfl rfl rfl (λw=>by simp[go_sem]),iU rfl rfl (by kernel_rfl),iU rfl rfl (by kernel_rfl),trivial⟩
    exact uS rfl veu (by kernel_rfl) rfl rfl λv w hS hv=>by
     subst hv;refine(vH w (hM.below hS zr)).mono ?_;rintro e w' ⟨rfl,rfl⟩;exact⟨_,rfl,rfl,zb _⟩
  intro av W4 Hu _ _;simp only[pq,pz,pw];go_wp2_with fail;go_ret;exact⟨rfl,vea _ Hu,hBl.trans (aa Hu (by have:=hBl.size;omega))⟩
def vbh (D:Nat→Prop) (w:World) (b o:Nat) (x:vca):Prop:=∃va vb,CV D w va (aH x.data)∧CV D w vb (vay x.keep)∧w.rangeAt b o [.int .u8 (x.kd:Int),.int .i64 x.sec,.int .i64 x.n,va,vb]∧x.kd<256∧x.n≤9223372036854775807
def vcx (D:Nat→Prop) (w:World) (v:Value) (l:List vca):Prop:=
 ∃p c,v=.slice p l.length c∧l.length≤c∧l.length≤maxLen∧(l=[]∨∃b o,p=some ⟨b,o,none⟩∧D b∧b<w.heap.size∧∀j x,l[j]? =some x→vbh D w b (o+j * 5) x)
theorem vbh.agree {D:Nat→Prop} {w w':World} {b o:Nat} {x:vca} (h:vbh D w b o x) (hb:D b) (hl:b<w.heap.size) (hk:∀b,D b→b<w.heap.size→w'.heap[b]? =w.heap[b]?):vbh D w' b o x:=by
 obtain⟨va,vb,h1,h2,h3,h4⟩:=h
 refine⟨va,vb,h1.agree hk,h2.agree hk,λj v hj=>?_,h4⟩
 rw[World.cell?_of_block (w:=w) (a:=⟨b,o+j,none⟩) (hk b hb hl)]
 exact h3 j v hj
def vat (x:vca):Bool:=decide (x.data.length≤200)&&decide (x.keep.length≤200)
def vav (l:List vca):Bool:=(l.take 300).all vat&&decide (l.length≤200)
theorem vbv {l:List vca} (h:vav l=true):l.length≤200:=by
 unfold vav at h
 rw[Bool.and_eq_true,decide_eq_true_eq] at h
 exact h.2
theorem vbw {D : Nat → Prop} (l : List vca) (v : Value) (w : World) (hv : vcx D w v l) :
 Calls Tryz.prog 30 #[v] w λe w'=>e=.returned (.bool (vav l))∧w'=w:=by
 obtain⟨p,c,rfl,hc,hm,h4⟩:=hv
 have hall:∀(j:Nat),(∀i x,i<j→l[i]? =some x→vat x=true)→(300≤j∨l.length≤j)→(l.take 300).all vat=true:=λj h1 h2=>by
  rw[List.all_eq_true];intro x hx;obtain⟨i,hi⟩:=List.getElem?_of_mem hx;rw[List.getElem?_take] at hi;split at hi
  · exact h1 i x (by have:=(List.getElem?_eq_some_iff.1 hi).1;omega) hi
  · cases hi
 have hno:∀(j:Nat) x,j<300→l[j]? =some x→vat x=false→vav l=false:=λj x h1 h2 h3=>by
  unfold vav;rw[Bool.and_eq_false_iff]
  left
  rw[List.all_eq_false];exact⟨x,List.mem_of_getElem? (by rw[List.getElem?_take,if_pos h1];exact h2),by rw[h3];decide⟩
 go_enter Tryz.func30,Tryz.ntmps30
 go_upto_region 2 with fail
 go_loopw [3] (λy wx=>∃k:Nat,k≤l.length∧k≤300∧y=.int .i64 k∧(∀i x,i<k→l[i]? =some x→vat x=true)∧wx=w) (λy _=>300 - (intOf y).toNat)
 case atStart=>exact⟨0,Nat.zero_le _,by decide,by go_num,λi x h=>by omega,rfl⟩
 case round=>
  obtain⟨k,hk,vV,rfl,vZ,rfl⟩:=hrel
  by_cases hq:k<l.length∧k<300
  case neg=>
   have hL:vav l=decide (l.length≤200):=by
    unfold vav;rw[hall k vZ (by omega)]
    rfl
   have hL:=zh hL;clear hall hno vZ
   by_cases h1:k<l.length
   · have h3:¬k<300:=λh=>hq ⟨h1,h⟩
     have g1:(k:Int)<(l.length:Int):=by omega
     have g2:¬(k:Int)<300:=by omega
     have g3:decide ((l.length:Int)≤200)=decide (l.length≤200):=decide_eq_decide.2 (by omega);go_wp2_with fail;go_ret
     first |exact⟨rfl,rfl⟩|exact⟨by rw[hL.out,←g3];rfl,rfl⟩
   · have g1:¬(k:Int)<(l.length:Int):=by omega
     have g3:decide ((l.length:Int)≤200)=decide (l.length≤200):=decide_eq_decide.2 (by omega);go_wp2_with fail;go_ret
     first |exact⟨rfl,rfl⟩|exact⟨by rw[hL.out,←g3];rfl,rfl⟩
  case pos =>
   obtain⟨hlt,vdx⟩:=hq;obtain⟨x,hx⟩:∃x,l[k]? =some x:=⟨_,List.getElem?_eq_getElem hlt⟩
   rcases h4 with h4|⟨b,o,rfl,hD,hb,h4⟩
   · rw[h4] at hlt
     exact absurd hlt (Nat.not_lt_zero _)
   obtain⟨va,vb,vdd,hvb,xU,_,_⟩:=h4 k x hx;obtain⟨pa,ca,rfl,_,_⟩:=vdd.shape;obtain⟨pb,cb,rfl,_,_⟩:=hvb.shape;have c3:wr.cell? ⟨b,o+k * 5+3,none⟩=some (.slice pa x.data.length ca):=by
    have:=xU 3 _ rfl
    rwa [ak] at this
   have c4:wr.cell? ⟨b,o+k * 5+4,none⟩=some (.slice pb x.keep.length cb):=by
    have:=xU 4 _ rfl
    rwa [show(vay x.keep).length=x.keep.length by simp[vay]] at this
   have g1:(k:Int)<(l.length:Int):=by omega
   have g2:(k:Int)<300:=by omega
   have vcz:=hno k x vdx hx;clear xU vdd hvb h4 hno hall
   by_cases h1:x.data.length≤200
   · have q1 : ¬ (200 : Int) < (x.data.length : Int) := by omega
     by_cases h2:x.keep.length≤200
     · have q2:¬(200:Int)<(x.keep.length:Int):=by omega
       have hk1:(k:Int)+1≤9223372036854775807:=by omega
       have hxl:vat x=true:=by unfold vat;simp[h1,h2]
       have vdz:=zh (show ∀i y,i<k+1→l[i]? =some y→vat y=true from λi y hi hy=>by
        rcases Nat.lt_succ_iff_lt_or_eq.1 hi with h|rfl
        · exact vZ i y h hy
        · rw[hx] at hy
          cases hy;exact hxl)
       clear vZ vcz hxl;go_wp2_with fail;exact⟨⟨k+1,hlt,vdx,by go_num,vdz.out,trivial⟩,by simp only[intOf];omega⟩
     · have q2:(200:Int)<(x.keep.length:Int):=by omega
       have hL:=zh (vcz (by unfold vat;simp;omega));clear vZ vcz;go_wp2_with fail;go_ret
       first |exact⟨rfl,rfl⟩|exact⟨by rw[hL.out];rfl,rfl⟩
   · have q1:(200:Int)<(x.data.length:Int):=by omega
     have hL:=zh (vcz (by unfold vat;simp;omega));clear vZ vcz;go_wp2_with fail;go_ret
     first |exact⟨rfl,rfl⟩|exact⟨by rw[hL.out];rfl,rfl⟩
theorem vbl (n:Int) (hn:¬(64≤n∧n≤65536)) (w:World):Calls Tryz.prog 31 #[.int .i64 n] w λe w'=>e=.returned (.tuple #[.pointer none,.int .i64 1])∧w'=w:=by
 have HW:=λW=>qX n 64 65536 W
 rw[show(decide ((64:Int)≤n)&&decide (n≤65536))=false by simpa using hn] at HW
 clear hn
 go_enter Tryz.func31,Tryz.ntmps31
 go_wp2_with (go_at_call 65;refine(HW _).mono ?_;rintro e w1 ⟨rfl,rfl⟩)
 go_ret2
 exact⟨rfl,rfl⟩
theorem vag.mono {B B':Nat} {w:World} {m:Nat} {vd vfc:Value} {S:dc} (h:vag B w m vd vfc S) (hB:B'≤B):vag B' w m vd vfc S:=⟨h.head,ef h.iY hB,ef h.pend hB,h.ld,h.pl,h.hn,Nat.le_trans hB h.hB⟩
theorem vbc.below {B:Nat} {w w':World} {a m n c:Nat} (h:vbc B w a m n c) (hb:Below w.heap.size w w'):vbc B w' a m n c:=by
 obtain⟨b1,b2,pv,vd,vfc,S,hM,hR,hI,RU⟩:=h
 exact⟨b1,b2,pv,vd,vfc,S,hM.below hb zr,hR.below hb zr,hI,RU⟩
theorem vas.new (n:Nat):vas (oZ n) 0:=⟨by show(oZ n).iY=lJ (oZ n) 0;rw[A3],nl _,by show -((0:Nat):Int)≤0;decide,by show(0:Int)≤9223372036854775807;decide,λh=>by cases h⟩
theorem vdi (s:Int):∃n:Nat,64≤n∧n≤128∧wrap64 (64+wrap64 ((IntKind.u64.wrap s).tmod 65))=(n:Int):=by
 have hw:IntKind.u64.wrap s=s % 18446744073709551616:=by simp[IntKind.wrap,IntKind.bits,IntKind.signed]
 have h0:0≤IntKind.u64.wrap s:=by rw[hw];exact Int.emod_nonneg _ (by decide)
 have wn:∀j:Nat,j≤1000→wrap64 (j:Int)=j:=λj hj=>by unfold wrap64;omega
 obtain⟨u,hu⟩:∃u:Nat,IntKind.u64.wrap s=(u:Int):=⟨(IntKind.u64.wrap s).toNat,by omega⟩
 rw[hu]
 have e1:((u:Int).tmod 65)=((u % 65:Nat):Int):=by
  rw[Int.tmod_eq_emod_of_nonneg (by omega)];omega
 rw[e1]
 have hr:u % 65<65:=Nat.mod_lt _ (by decide)
 generalize u % 65=r at *
 have e2:wrap64 (r:Int)=r:=wn r (by omega)
 rw[e2,show(64:Int)+(r:Int)=((64+r:Nat):Int) by omega]
 exact⟨64+r,by omega,by omega,wn _ (by omega)⟩
theorem vbd (vai : Int) (l : List vca) (v : Value) (w : World) (hs : -9223372036854775808 ≤ vai ∧ vai ≤ 9223372036854775807) (hv : vcx (fun b => b < w.heap.size) w v l) (ht : gx w) (hm : fe w) (hp : 0 < w.heap.size) :
 Calls Tryz.prog 6 #[.int .i64 vai,v] w λe w'=>e=.returned (.bool true)∧Below w.heap.size w w':=by
 have HL:=vbw l v w hv
 rcases vZ:vav l with _|_
 · rw[vZ] at HL
   have HK:=s6 w ht hm hp;obtain⟨p,c,rfl,hc,_,_⟩:=hv;clear vZ;go_enter Tryz.func6,Tryz.ntmps6;go_wp2_with (first
    | (go_at_call 30;refine HL.mono ?_;clear HL;rintro e w1 ⟨rfl,he⟩;rw[he];clear he w1)
    | (go_at_call 12;refine HK.mono ?_;clear HK;rintro e w1 ⟨rfl,hb⟩))
   go_ret;exact⟨rfl,hb⟩
 · rw [vZ] at HL
   have DS:=vbv vZ;have MT:=hv;obtain⟨p,c,rfl,hc,_,h4⟩:=hv;clear vZ;go_enter Tryz.func6,Tryz.ntmps6;go_upto_region 3 with(go_at_call 30;refine HL.mono ?_;clear HL;rintro e w1 ⟨rfl,he⟩;rw[he];clear he w1)
   go_cut [24] from 19 to 25 (λq wx=>q=.bool (decide (vai<64∨65536<vai))∧wx=w)
   case first =>
    by_cases h1:vai<64
    · have h2:decide (vai<64∨65536<vai)=true:=decide_eq_true (.inl h1)
      go_wp2_with fail
      go_meet
      case rel=>exact⟨by rw[h2],rfl⟩
    · by_cases h3:65536<vai
      · have h2:decide (vai<64∨65536<vai)=true:=decide_eq_true (.inr h3)
        go_wp2_with fail
        go_meet
        case rel=>exact⟨by rw[h2],rfl⟩
      · have h2:decide (vai<64∨65536<vai)=false:=decide_eq_false (by omega)
        go_wp2_with fail
        go_meet
        case rel=>exact⟨by rw[h2],rfl⟩
   case rest=>
   obtain⟨rfl,vbj⟩:=hcut;have vbj:=vbj.symm;subst vbj
   go_upto_if 24 with fail
   go_cut [5,6,24] from 25 to 36 (λ_ _ _ wx=>wx=w)
   case first=>
    by_cases h2:vai<64∨65536<vai
    · have HB:=vbl vai (by omega) w
      have h3:decide (vai<64∨65536<vai)=true:=decide_eq_true h2;go_wp2_with (go_at_call 31;refine HB.mono ?_;clear HB;rintro e w1 ⟨rfl,he⟩;rw[he];clear he w1)
      go_meet
      case rel=>exact rfl
    · have h3:decide (vai<64∨65536<vai)=false:=decide_eq_false h2
      go_wp2_with fail
      go_meet
      case rel=>exact rfl
   case rest=>
   have vbj:=hcut.symm;subst vbj;go_upto_region 7 with fail
   go_cut [7] from 36 to 41 (λy wx=>(∃n:Nat,64≤n∧n≤128∧y=.int .i64 n)∧wx=w)
   case first=>
    go_wp2_with fail
    go_meet
    case rel=>
     obtain⟨n,h1,h2,h3⟩:=vdi vai;exact⟨⟨n,h1,h2,by rw[h3]⟩,rfl⟩
   case rest =>
    obtain⟨⟨n,JC,hn2,rfl⟩,vbj⟩:=hcut;have vbj:=vbj.symm;subst vbj;have HN:=wY n ⟨JC,by omega⟩ w;go_upto_region 12 with(first
     | (go_at_call 31;refine HN.mono ?_;clear HN;rintro e w1 ⟨⟨a,b1,b2,rfl,hD⟩,aP⟩)
     | (go_at_call 32;refine(vd3 n ⟨JC,by omega⟩ w1).mono ?_;rintro e w2 ⟨⟨m,vd,rfl,hR⟩,bO⟩))
    have lN:vbc w.heap.size w2 a m n 0:=⟨b1,b2,_,vd,_,oZ n,hD.below bO zr,hR.mono aP.size,vas.new n,rfl⟩;have ven:=aP.trans (aa bO aP.size);clear hD hR aP bO;have yF:∀W,Below w.heap.size w W→∀k x,l[k]? =some x→∃b o,p=some ⟨b,o,none⟩∧vbh (λb=>b<w.heap.size) W b (o+k * 5) x:=λW hW k x hx=>by
     rcases h4 with h4|⟨b,o,e,h5,h6,h7⟩
     · rw[h4] at hx;simp at hx
     · exact⟨b,o,e,(h7 k x hx).agree h5 h6 λb hb _=>hW.block b hb⟩
    have yF:=zh yF;generalize Pd:l.length=L at *;have Pd:=zh Pd;clear h4 MT;go_upto_region 13 with fail;go_loopw [60] (λy wx=>∃k:Nat,k≤L∧y=.int .i64 k∧vbc w.heap.size wx a m n k∧Below w.heap.size w wx) (λy _=>L - (intOf y).toNat)
    case atStart=>exact⟨0,Nat.zero_le _,by go_num,lN,ven⟩
    case round=>
     obtain⟨k,hk,rfl,hB,hW⟩:=hrel;clear lN ven
     by_cases hlt:k<L
     case pos=>
      obtain⟨x,hx⟩:∃x,l[k]? =some x:=⟨_,List.getElem?_eq_getElem (by rw[Pd.out];exact hlt)⟩
      obtain⟨b,o,rfl,va,vb,vdd,hvb,xU,vf0,hnn⟩:=yF.out _ hW k x hx;obtain⟨pa,ca,ea,_,_⟩:=vdd.shape;generalize (aH x.data).length=la at ea;subst ea;obtain⟨pb,cb,eb,_,_⟩:=hvb.shape;generalize (vay x.keep).length=lb at eb;subst eb;have c0:wr.cell? ⟨b,o+k * 5,none⟩=some (.int .u8 (x.kd:Int)):=xU 0 _ rfl;have c1:=xU 1 _ rfl;have c2:=xU 2 _ rfl;have c3:=xU 3 _ rfl;have c4:=xU 4 _ rfl;have sA:(k:Int)<(L:Int):=by omega
      clear xU;have hA:Below wr.heap.size wr (wr.alloc (.cells #[.int .u8 (x.kd:Int),.int .i64 x.sec,.int .i64 x.n,.slice pa la ca,.slice pb lb cb] 72)):=(zb wr).alloc zr _;have vew:=hW.trans (aa hA hW.size);have Fy:vdt (λb=>b<w.heap.size) (wr.alloc (.cells #[.int .u8 (x.kd:Int),.int .i64 x.sec,.int .i64 x.n,.slice pa la ca,.slice pb lb cb] 72)) (.agg #[.int .u8 (x.kd:Int),.int .i64 x.sec,.int .i64 x.n,.slice pa la ca,.slice pb lb cb]) x:=⟨_,_,rfl,vdd.below hA zr,hvb.below hA zr⟩;have HS:=vbq x _ (hB.below hA) (by omega) Fy (λb hb=>hb) hp vf0 hnn;clear Fy vdd hvb;go_wp2_with (go_at_call 33;refine HS.mono ?_;clear HS;rintro e w6 ⟨rfl,I7,rE⟩);exact⟨⟨k+1,hlt,by go_num,I7,vew.trans rE⟩,by simp only[intOf];omega⟩
     case neg=>
      obtain rfl:k=L:=by omega
      go_upto_region 19 with fail;go_loopw [71] (λy wx=>∃j:Nat,j≤n∧y=.int .i64 j∧vbc w.heap.size wx a m n (k+j)∧Below w.heap.size w wx) (λy _=>n - (intOf y).toNat)
      case atStart=>exact⟨0,Nat.zero_le _,by go_num,hB,hW⟩
      case round=>
       rename_i vfd
       obtain⟨j,hj,rfl,hB,hW⟩:=hrel
       by_cases hlt2:j<n
       case pos=>
        have hjn:(j:Int)<(n:Int):=by omega
        have HS:=vbq (D:=λb=>b<w.heap.size) (v:=.agg #[.int .u8 0,.int .i64 (j:Int),.int .i64 0,.slice none 0 0,.slice none 0 0]) ⟨0,j,0,[],[]⟩ _ hB (by omega) ⟨_,_,rfl,CV.nil _ _ _ _,CV.nil _ _ _ _⟩ (λb hb=>hb) hp (by show(0:Nat)<256;decide) (by show(0:Int)≤9223372036854775807;decide);go_wp2_with (go_at_call 33;refine HS.mono ?_;clear HS;rintro e w6 ⟨rfl,I7,rE⟩);exact⟨⟨j+1,hlt2,by go_num,I7,hW.trans rE⟩,by simp only[intOf];omega⟩
       case neg=>
        obtain rfl:j=n:=by omega
        have HK:=s6 _ (ht.below hW zr) (hm.below hW) (Nat.lt_of_lt_of_le hp hW.size);go_wp2_with (go_at_call 12;refine HK.mono ?_;clear HK;rintro e w9 ⟨rfl,kM⟩);go_ret;exact⟨rfl,hW.trans (aa kM hW.size)⟩
