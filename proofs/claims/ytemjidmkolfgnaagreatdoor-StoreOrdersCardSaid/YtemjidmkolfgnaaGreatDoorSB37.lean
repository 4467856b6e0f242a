/-
  Lemmas for the statement: contract of the package store: (*library).put. Conditions: bounds of lengths; the variable strings.asciiSpace.
-/
import Derived.Test.YtemjidmkolfgnaaGreatDoorSBn
import Derived.Test.YtemjidmkolfgnaaGreatDoorSB32
import Derived.Test.YtemjidmkolfgnaaGreatDoorSB36
set_option maxHeartbeats 12800000
namespace Go.Proofs.YtemjidmkolfgnaaGreatDoor
section
open Go Go.RowKit Go.Maps
structure KL (mu ml:Nat) (w w':World):Prop where
 os:w'.os=w.os
 tape:w'.tape=w.tape
 output:w'.output=w.output
 size:w.heap.size≤w'.heap.size
 block:∀k,k<w.heap.size→k≠mu→k≠ml→w'.heap[k]? =w.heap[k]?
theorem KL.mK {mu ml:Nat} {w w':World} {r:Option Nat} (h:w.grownBy w' r) (hr:r=some mu∨r=some ml∨r=none):KL mu ml w w':=⟨h.os,h.tape,h.output,h.size,λk hk h1 h2=>h.block k hk (by
 rcases hr with rfl|rfl|rfl
 · exact λe=>h1 (by injection e)
 · exact λe=>h2 (by injection e)
 · exact λe=>by cases e)⟩
theorem KL.trans {mu ml:Nat} {a b c:World} (h:KL mu ml a b) (h':KL mu ml b c):KL mu ml a c:=⟨h'.os.trans h.os,h'.tape.trans h.tape,h'.output.trans h.output,Nat.le_trans h.size h'.size,λk hk h1 h2=>(h'.block k (Nat.lt_of_lt_of_le hk h.size) h1 h2).trans (h.block k hk h1 h2)⟩
theorem KL.ai {mu ml K:Nat} {a b:World} (h:Below K a b) (hK:a.heap.size≤K):KL mu ml a b:=⟨h.os,h.tape,h.output,h.size,λk hk _ _=>h.block k (Nat.lt_of_lt_of_le hk hK)⟩
theorem KL.ey {mu ml:Nat} {w w':World} (h:KL mu ml w w') (h1:∃es c,w.heap[mu]? =some (.map es c)) (h2:∃es c,w.heap[ml]? =some (.map es c)):dI w w':=λb x hb ⟨cs,t,fl,e,_⟩=>by
 subst e
 obtain⟨_,_,h1⟩:=h1
 obtain⟨_,_,h2⟩:=h2
 refine(h.block b (aj hb) ?_ ?_).trans hb
 · rintro rfl
   rw[hb] at h1;cases h1
 · rintro rfl
   rw[hb] at h2;cases h2
def RO (R:Nat→Prop) (n:Nat) (b:Nat):Prop:=R b∨n≤b
theorem SS.to {R:Nat→Prop} {B:Nat} {w w':World} {v:Value} {l:List (List UInt8)} (h:SS (λb=>Fr R w b∧B<b) w v l) (hk:∀b,B<b→b<w.heap.size→w'.heap[b]? =w.heap[b]?):SS (λb=>Fr R w' b∧B<b) w' v l:=
 (h.agree λb hb hl=>hk b hb.2 hl).mono λb hb=>⟨hb.1.keep (hk b hb.2 (by
  obtain⟨⟨x,h1,_⟩,_⟩:=hb.1;exact aj h1)),hb.2⟩
theorem KL.trans' {mu ml K:Nat} {a b c:World} (h:KL mu ml a b) (h':Below K b c) (hK:a.heap.size≤K):KL mu ml a c:=⟨h'.os.trans h.os,h'.tape.trans h.tape,h'.output.trans h.output,Nat.le_trans h.size h'.size,λk hk h1 h2=>(h'.block k (Nat.lt_of_lt_of_le hk hK)).trans (h.block k hk h1 h2)⟩
theorem EZ {D:Nat→Prop} {ops:Array Oper} {h:Nat} {V:List VS} {E:List (Nat×VS)} {S:World→Prop} {k:Nat} {o:Oper} {x y:Operand} {t:TypeId} {m:Nat} {key:List UInt8} {r:Value} (ho:o.op=.lookup t x y false) (hw:cw ops h V o=some true) (hk:V[k]? =some (.eq r)) (hx:aL ops h V E o x=some (.eq (.map (some m)))) (hy:aL ops h V E o y=some (.eq (str key)))
 (hr:∀w,S w→(Instr.lookup t (.map (some m)) (str key) false).run Tryz.prog w=.ok r w):bB D Tryz.prog S ops h V E k o:=
 B5 x y hw hk hx hy λev w hS h1 h2=>by unfold execOp;simp[ho,h1,h2,hr w hS]
theorem uZ {w:World} {o:Oper} {a:Act} {K:Act→World→Prop} {Q:Exit→Act→World→Prop} {m:Nat} {L:List (List UInt8×Value)} (x y v:Operand) {t e:TypeId} (hop:o.op=Op.mapUpdate t x y v) (ht:Tryz.prog.underlying t=some (.map 9 e)) (h:aQ w m L) (hn:L.length<maxLen) {k:List UInt8} {f:Value}
 (hm:a.eval x=.map (some m)) (hx:a.eval y=str k) (hv:a.eval v=f) (hk:k.length≤maxLen) (hK:∀w',aQ w' m (eN L k f)→w.mapTurned w' m→K (a.put o.dst undef) w'):o.wp Tryz.prog a w K Q:=by
 obtain⟨w',hrun,r1,r2⟩:=h.zk hk ht f hn
 unfold Oper.wp
 simp[execOp,hop,hm,hx,hv,hrun,Result.andThen]
 exact hK w' r1 r2
theorem uM {α:Type} (L:List (List UInt8×α)) (k:List UInt8) (v:α):(eN L k v).length≤L.length+1:=by
 rw[xm]
 split<;>omega
def qV (s:List UInt8):List (List UInt8):=if s=[] then [] else aN 44 s
def ep (L:bh) (name src aO uses:List UInt8):bh:=⟨eN L.units name ⟨name,(aq L.last name).getD 0+1,src,aO,qV uses,false,[],[]⟩,eN L.last name ((aq L.last name).getD 0+1)⟩
abbrev tv (name src aO:List UInt8) (n:Int) (u:Value):Array Value:= #[str name,.int .i64 n,str src,str aO,u,.bool false,.slice none 0 0,.slice none 0 0]
set_option maxRecDepth 8000 in
theorem Ex {R D : Nat → Prop} {mu ml sb : Nat} {L : bh} (name src aO uses : List UInt8) (v : Value) (w : World) (hv : SS D w v [name, src, aO, uses]) (hc : w.cell? ⟨sb, 0, none⟩ = some (.map (some mu))) (hc1 : w.cell? ⟨sb, 1, none⟩ = some (.map (some ml))) (hL : gA R w mu ml L) (hm : fe w) (hu : uses.length ≤ 100000) (hn : L.units.length < 1000 ∧ L.last.length < 100000 ∧ (aq L.last name).getD 0 < 1000000) :
 Calls Tryz.prog 151 #[.pointer (some ⟨sb,0,none⟩),v] w λe w'=>e=.returned (.tuple #[])∧gA (RO R w.heap.size) w' mu ml (ep L name src aO uses)∧KL mu ml w w':=by
 obtain⟨p,c,rfl,_,_,hle⟩:=hv.shape
 obtain⟨b,o,rfl,_,k0⟩:=hv.at (k:=0) rfl
 obtain⟨_,_,h1,_,k1⟩:=hv.at (k:=1) rfl
 cases h1
 obtain⟨_,_,h1,_,k2⟩:=hv.at (k:=2) rfl
 cases h1
 obtain⟨_,_,h1,_,k3⟩:=hv.at (k:=3) rfl
 cases h1
 have hA:=(zb w).alloc zr (.cells #[str [],.int .i64 0,str [],str [],.slice none 0 0,.bool false,.slice none 0 0,.slice none 0 0] 41)
 have j0:=Below.keep hA k0
 have j1:=Below.keep hA k1
 have j2:=Below.keep hA k2
 rw[Nat.add_zero] at k0 j0
 go_enter Tryz.func151,Tryz.ntmps151
 go_upto_region 0 with fail
 go_region
 obtain⟨W0,pX⟩:∃W0,(w.alloc (.cells #[str name,.int .i64 0,str src,str aO,.slice none 0 0,.bool false,.slice none 0 0,.slice none 0 0] 41)).drew=W0:=⟨_,rfl⟩
 have lN:Below w.heap.size w W0:=pX▸((zb w).alloc zr _).drew
 have Ga:W0.heap[w.heap.size]? =some (.cells (tv name src aO 0 (.slice none 0 0)) 41 (0,0)):=pX▸heap_alloc_new w _
 rw[pX]
 clear pX hA j0 j1 j2
 have l3:=Below.keep lN k3
 go_upto_if 18 with fail
 go_cut [] from 15 to 23 (λwx=>∃u,wx.heap[w.heap.size]? =some (.cells (tv name src aO 0 u) 41 (0,0))∧SS (λb=>Fr (RO R w.heap.size) wx b∧w.heap.size<b) wx u (qV uses)∧Below w.heap.size w wx)
 case first=>
  rcases hue:uses.isEmpty with _|_
  · have hne:uses≠[]:=λe=>by rw[e] at hue;cases hue
    have HS:=qq uses 44 W0 hu (hm.below lN);have hsz:=lN.size;have ow:(aN 44 uses).length≤maxLen∧∀s∈aN 44 uses,s.length≤maxLen:=by
     have h1:=gI 44 uses;refine⟨by unfold maxLen;omega,λx hx=>?_⟩;have h2:=kK 44 uses x hx;unfold maxLen;omega
    have DE:=λo=>aK o Ga
    have c4:=λo=>(af (DE o) 4).trans rfl
    have f4:=λo=>au (DE o) 4
    go_wp2_with (go_at_call 138;refine HS.mono ?_;clear HS;rintro e w2 ⟨rfl,rfl⟩)
    go_meet
    case rel=>
     have hs2:=SS.new (λb=>Fr (RO R w.heap.size) (W0.alloc (.cells ((aN 44 uses).map str).toArray 9)) b∧w.heap.size<b) W0 ⟨⟨⟨_,heap_alloc_new _ _,fH (by decide)⟩,.inr (Nat.le_of_lt (aj Ga))⟩,aj Ga⟩ (aN 44 uses) 9 (0,0) ow.1 ow.2;have hk:=heap_setCell_same _ w.heap.size 4 _ _ (.slice (some ⟨W0.heap.size,0,none⟩) (aN 44 uses).length (aN 44 uses).length) (DE (.cells ((aN 44 uses).map str).toArray 9));refine⟨_,hk,?_,(lN.trans ((zb _).alloc hsz _)).setCell (p:=⟨w.heap.size,4,none⟩) zr _⟩;unfold qV;rw[if_neg hne];exact hs2.to λb hb _=>heap_setCell_other _ ⟨w.heap.size,4,none⟩ b _ (λe=>by subst e;exact Nat.lt_irrefl _ hb)
  · obtain rfl:uses=[]:=by simpa using hue
    go_wp2_with fail
    go_meet
    case rel=>exact⟨_,Ga,SS.nil _ _ _ _,lN⟩
 obtain⟨u,DE,hS1,fc⟩:=hcut
 clear lN Ga l3
 have RX:w.heap.size<wc.heap.size:=aj DE
 go_upto_region 3 with fail
 have LR:ml<w.heap.size:=aQ.lt hL.last
 have ym:mu<w.heap.size:=by
  obtain⟨es,cc,h1⟩:=hL.units.map;exact aj h1
 have LU:=Nat.lt_of_lt_of_le ym fc.size
 have MK:sb<wc.heap.size:=Nat.lt_of_lt_of_le (World.block_lt_of_cell? _ _ hc) fc.size
 have hsb:sb≠ml:=by
  rintro rfl;obtain⟨es,cc,h1⟩:=aQ.map hL.last;unfold World.cell? at hc;rw[h1] at hc;cases hc
 have q0:=Below.keep fc hc
 have q1:=Below.keep fc hc1
 have LO:=hL.KS (KS.ai fc zr zr)
 have n0:wc.cell? ⟨w.heap.size,0,none⟩=some (str name):=(af DE 0).trans rfl
 obtain⟨n,hnn⟩:∃n,(aq L.last name).getD 0=n:=⟨_,rfl⟩
 have Qc:=hn.2.2
 rw[hnn] at Qc
 have hnl:=hle name (by simp)
 have DM:∀W,Below wc.heap.size wc W→(Instr.lookup 33 (.map (some ml)) (str name) false).run Tryz.prog W=.ok (.int .i64 (n:Int)) W:=λW hW=>by
  rw[aQ.get (aQ.below LO.last hW zr) hnl Tryz.underlying33 (z:=.int .i64 0) (by kernel_rfl),dD (λx:Nat=>Value.int .i64 (x:Int)),←hnn];cases aq L.last name<;>rfl
 have hw1:IntKind.i64.wrap ((n:Int)+1)=(n:Int)+1:=Fg (j:=n+1) (by omega)
 refine cF (D:=λ_=>True) (w:=wc) 8 [(0,vP sb 0),(4,vP w.heap.size 0)] [vP sb 0,vP sb 0,vP sb 1,.eq (.map (some ml)),vP w.heap.size 0,.eq (str name),vI n,vI (n+1)]
  (λw'=>Below wc.heap.size wc w') (λw'=>CP w' ml (eN L.last name (n+1))∧∃wx,Below wc.heap.size wc wx∧wx.mapTurned w' ml) (by kernel_rfl) rfl rfl (λw w' h hb=>h.trans (aa hb h.size)) (zb wc).drew ⟨rfl,rfl,trivial⟩ ?_ ?_ ?_
 · iterate 8
    refine And.intro ?_ ?_
    · first
      | exact iU rfl rfl (by kernel_rfl)
      | exact ic rfl (by kernel_rfl) rfl rfl
      | exact gQ rfl (by kernel_rfl) rfl rfl (λw=>by simp[go_sem])
      | exact dV rfl (by kernel_rfl) rfl rfl (λw hS=>by simp[go_sem,Below.keep hS q1,Below.keep hS n0])
      | exact EZ rfl (by kernel_rfl) rfl rfl rfl DM
      | exact gJ rfl (by kernel_rfl) rfl rfl rfl (λw=>by simp[go_sem,hw1])
   exact trivial
 · intro a' wx hS hV hout next hn
   have e1:=hV 3 _ 27 (by decide) rfl rfl;have e2:=hV 5 _ 29 (by decide) rfl rfl;have e3:=hV 7 _ 31 (by decide) rfl rfl;refine uZ (.tmp 27) (.tmp 29) (.tmp 31) rfl Tryz.underlying33 (aQ.below LO.last hS zr) (by rw[List.length_map];unfold maxLen;omega) e1 e2 e3 hnl λw' ha ht=>hn _ _ ⟨?_,wx,hS,ht⟩
   unfold CP;rw[qE (λx:Nat=>Value.int .i64 (x:Int))];exact ha
 · intro ax wx oO
   simp only[pq,pz,pw];obtain⟨hl2,wy,hy1,hy2⟩:=oO;have hmn:w.heap.size≠ml:=Nat.ne_of_gt LR;have hg2:=World.grownBy.trans (eR hy1 (some ml)) hy2.grown;have NT:=(hg2.block _ RX (λe=>hmn (by injection e))).trans DE;have nC:KL mu ml w wx:=(KL.ai fc zr).trans (KL.mK hg2 (.inr (.inl rfl)));have N3:=Nat.lt_of_lt_of_le RX hg2.size;have jO:=hS1.to λb hb hl=>hg2.block b hl λe=>by injection e with e;omega
   have r0:wx.cell? ⟨sb,0,none⟩=some (.map (some mu)):=(World.cell?_of_block (hg2.block sb MK (λe=>hsb (by injection e)))).trans q0;have r1:wx.cell? ⟨sb,1,none⟩=some (.map (some ml)):=(World.cell?_of_block (hg2.block sb MK (λe=>hsb (by injection e)))).trans q1;have n2:wx.cell? ⟨w.heap.size,0,none⟩=some (str name):=(af NT 0).trans rfl;have H6:∀W,Below wx.heap.size wx W→(Instr.lookup 33 (.map (some ml)) (str name) false).run Tryz.prog W=.ok (.int .i64 ((n:Int)+1)) W:=λW hW=>by
    rw[aQ.get (aQ.below hl2 hW zr) hnl Tryz.underlying33 (z:=.int .i64 0) (by kernel_rfl),dD (λx:Nat=>Value.int .i64 (x:Int)),kG,if_pos rfl]
    rfl
   have P7:=((hg2.block mu LU (λe=>hL.ne (by injection e))).trans (fc.block mu ym));clear DM LO hy1 hy2 q0 q1 n0 hg2 hS1 fc;have Qo:sb<w.heap.size:=World.block_lt_of_cell? _ _ hc;have TO:∀W,Below w.heap.size wx W→W.heap[mu]? =w.heap[mu]? :=λW hW=>(hW.block mu ym).trans P7
   generalize Ul:wx=WX at *;clear Ul;go_upto_region 4 with fail;refine cF (D:=λ_=>True) (w:=WX) 8 [(0,vP sb 0),(4,vP w.heap.size 0)] [vP sb 0,vP sb 0,vP sb 1,.eq (.map (some ml)),vP w.heap.size 0,.eq (str name),vI (n+1),vP w.heap.size 1]
    (λw'=>Below WX.heap.size WX w') (λw'=>∃wz,Below WX.heap.size WX wz∧w'=wz.setCell ⟨w.heap.size,1,none⟩ (.int .i64 ((n:Int)+1))) (by kernel_rfl) rfl rfl (λw w' h hb=>h.trans (aa hb h.size)) (zb WX).drew ⟨rfl,rfl,trivial⟩ ?_ ?_ ?_
   · iterate 8
      refine And.intro ?_ ?_
      · first
        | exact iU rfl rfl (by kernel_rfl)
        | exact ic rfl (by kernel_rfl) rfl rfl
        | exact gQ rfl (by kernel_rfl) rfl rfl (λw=>by simp[go_sem])
        | exact dV rfl (by kernel_rfl) rfl rfl (λw hS=>by simp[go_sem,Below.keep hS r1,Below.keep hS n2])
        | exact EZ rfl (by kernel_rfl) rfl rfl rfl H6
     exact trivial
   · intro a' wx hS hV hout next hn
     have e1:=hV 7 _ 39 (by decide) rfl rfl;have e2:=hV 6 _ 38 (by decide) rfl rfl;have L3:=ag NT hS;have c1:=(af L3 1).trans rfl;have f1:=au L3 1;refine aY (w':=wx.setCell ⟨w.heap.size,1,none⟩ (.int .i64 ((n:Int)+1))) rfl e1 e2 (by simp[go_sem,c1,f1]) (hn _ _ ⟨wx,hS,rfl⟩)
   · intro ax wx oO
     simp only[pq,pz,pw];obtain⟨wz,hz1,KI⟩:=oO;have L3:wx.heap[w.heap.size]? =some (.cells (tv name src aO ((n:Int)+1) u) 41 (0,0)):=by
      rw[KI];exact heap_setCell_same wz w.heap.size 1 _ _ (.int .i64 ((n:Int)+1)) (ag NT hz1)
     have ue:∀b,b≠w.heap.size→wx.heap[b]? =wz.heap[b]? :=λb hb=>by
      rw[KI];exact heap_setCell_other wz ⟨w.heap.size,1,none⟩ b _ hb
     have eV:Below w.heap.size WX wx:=by
      rw[KI];exact(aa hz1 (Nat.le_of_lt N3)).setCell (p:=⟨w.heap.size,1,none⟩) zr _
     have rA:=nC.trans' eV zr;have Gj:=Nat.le_trans (Nat.le_of_lt N3) eV.size;have Jg:=jO.to λb hb hl=>(ue b (Nat.ne_of_gt hb)).trans (hz1.block b hl)
     have s0:=(World.cell?_of_block (a:=⟨sb,0,none⟩) (eV.block sb Qo)).trans r0;have NZ:=aQ.of_block hl2 (eV.block ml LR);have JH:=(hL.units.mono (R':=RO R w.heap.size) λ_ h=>.inl h).ey (rA.ey hL.units.map (aQ.map hL.last)) (TO _ eV);clear ue KI hz1 H6 r0 r1 n2 jO NT hl2;have n3:wx.cell? ⟨w.heap.size,0,none⟩=some (str name):=(af L3 0).trans rfl;have Ji:∀W,Below wx.heap.size wx W→(Instr.loadAt 41 (.pointer (some ⟨w.heap.size,0,none⟩))).run Tryz.prog W=.ok (.agg (tv name src aO ((n:Int)+1) u)) W:=λW hW=>by
      have hq:=ag L3 hW;have d0:=(af hq 0).trans rfl;have d1:=(af hq 1).trans rfl;have d2:=(af hq 2).trans rfl;have d3:=(af hq 3).trans rfl;have d4:=(af hq 4).trans rfl;have d5:=(af hq 5).trans rfl;have d6:=(af hq 6).trans rfl;have d7:=(af hq 7).trans rfl;simp[go_sem,d0,d1,d2,d3,d4,d5,d6,d7]
     obtain⟨UL,u1,u2,u3⟩:=JH;have oP:dN (Fr (RO R w.heap.size) wx) wx (.agg (tv name src aO ((n:Int)+1) u)) ⟨name,n+1,src,aO,qV uses,false,[],[]⟩:=⟨u,_,_,rfl,⟨hnl,hle src (by simp),hle aO (by simp)⟩,Jg.mono λb hb=>hb.1,CV.nil _ _ _ _,ck.nil _ _ _ _⟩;have CJ:UL.length<1000:=by
      rw[←List.length_map (λx:List UInt8×(az×Value)=>(x.1,x.2.1)),u1];exact hn.1
     go_upto_region 5 with fail;refine cF (D:=λ_=>True) (w:=wx) 7 [(0,vP sb 0),(4,vP w.heap.size 0)] [vP sb 0,vP sb 0,vP sb 0,.eq (.map (some mu)),vP w.heap.size 0,.eq (str name),.eq (.agg (tv name src aO ((n:Int)+1) u))]
      (λw'=>Below wx.heap.size wx w') (λw'=>cB (RO R w.heap.size) w' mu (eN L.units name ⟨name,n+1,src,aO,qV uses,false,[],[]⟩)∧∃wz,Below wx.heap.size wx wz∧wz.mapTurned w' mu) (by kernel_rfl) rfl rfl (λw w' h hb=>h.trans (aa hb h.size)) (zb wx).drew ⟨rfl,rfl,trivial⟩ ?_ ?_ ?_
     · iterate 7
        refine And.intro ?_ ?_
        · first
          | exact iU rfl rfl (by kernel_rfl)
          | exact ic rfl (by kernel_rfl) rfl rfl
          | exact gQ rfl (by kernel_rfl) rfl rfl (λw=>by simp[go_sem])
          | exact dV rfl (by kernel_rfl) rfl rfl Ji
          | exact dV rfl (by kernel_rfl) rfl rfl (λw hS=>by simp[go_sem,Below.keep hS s0,Below.keep hS n3])
       exact trivial
     · intro a' wx hS hV hout next hn
       have e1:=hV 3 _ 43 (by decide) rfl rfl;have e2:=hV 5 _ 45 (by decide) rfl rfl;have e3:=hV 6 _ 46 (by decide) rfl rfl;refine uZ (.tmp 43) (.tmp 45) (.tmp 46) rfl Tryz.underlying106 (u2.below hS zr) (by rw[List.length_map];unfold maxLen;omega) e1 e2 e3 hnl λw' ha ht=>hn _ _ ⟨?_,_,hS,ht⟩
       have Mq:=dI.ai hS zr;exact cB.stored u1 (λx hx=>(u3 x hx).ey Mq) (oP.ey Mq) ha ht
     · intro ax wx oO
       simp only[pq,pz,pw];obtain⟨g1,wz,g2,g3⟩:=oO;have g4:=World.grownBy.trans (eR g2 (some mu)) g3.grown
       go_end0
       refine⟨rfl,⟨?_,?_,hL.ne,?_⟩,rA.trans (KL.mK g4 (.inl rfl))⟩
       · unfold ep
         rw[hnn];exact g1
       · unfold ep
         rw[hnn];exact aQ.kept NZ g4 (λe=>hL.ne (by injection e with e;exact e.symm))
       · unfold ep
         rw[hnn];have p1:=uM L.units name ⟨name,n+1,src,aO,qV uses,false,[],[]⟩;have p2:=uM L.last name (n+1);have:=hn.1;have:=hn.2.1;exact⟨by show(eN _ _ _).length≤1000;omega,by show(eN _ _ _).length≤100000;omega⟩
end
section
open Go Go.RowKit Go.Maps Go.Sort
theorem s7 (v:Value) (ss l:List (List UInt8)) (B:Nat) (W:World) (h:W.ownsRow B 9 1 v ss.length (aA ss)) (hp:ss.Perm l) (hl:ss.length≤100000):
 Calls Tryz.prog 94 #[v] W λe w'=>e=.returned (.tuple #[])∧w'.ownsRow B 9 1 v ss.length (aA (gH l))∧W.grownBy w' v.ownBlock:=by
 rcases h.2 with⟨rfl,h0⟩|⟨g,cap,cur,rfl,hb,hh,h1,h2,h3,h4⟩
 · have e0:ss=[]:=List.length_eq_zero_iff.1 (by omega)
   subst e0;obtain rfl:l=[]:=List.nil_perm.1 hp;refine(Tryz.slices_Sort_string_none none 0 W).mono ?_;rintro e w' ⟨rfl,rfl⟩;exact⟨rfl,h,rfl,rfl,rfl,nl _,λ_ _ _=>rfl⟩
 · have hH:Holds encStr W g 0 ss.toArray:=holds_of_block hh (by simpa[aA] using h4)
   refine(Tryz.slices_Sort_string g 0 cap ss W hH (Array.getElem?_eq_some_iff.1 hh).1 (by omega)).mono ?_;rintro e w' ⟨rfl,n,os,rfl⟩;rw[←wU hp];exact⟨rfl,ownsRow_sorted (by simp) hb hh h1 h2 h3,grownBy_sorted _⟩
set_option maxRecDepth 8000 in
theorem xA {m:Nat} {L:List (List UInt8×Value)} (w:World) (hL:aQ w m L) (hn:L.length≤100000):
 Calls Tryz.prog 53 #[.map (some m)] w λe w'=>∃v,e=.returned v∧w'.ownsRow w.heap.size 9 1 v L.length (aA (gH (L.map (·.1))))∧Below w.heap.size w w':=by
 obtain⟨i0,kN,hz0,hz1,hz2⟩:=aV fL
 have hml:=hL.lt
 go_enter Tryz.func53,Tryz.ntmps53
 go_wp2_with (at_range;refine fF rfl _ rfl Tryz.underlying106 rfl hL ?_;intro w0 qg vU hs0)
 have lN:Below w.heap.size w w0:=(zb _).grown vU zr (λb e=>by cases e)
 have Pa:=zh (show(L.map (·.1)).length=L.length from List.length_map _)
 generalize Jc:L.map (·.1)=KL0 at *
 replace Jc:=zh Jc
 generalize Jd:w.heap.size=R at *
 replace Jd:=zh Jd
 go_frame
 go_loopw [3] (λv wx=>∃S ss,mq wx m R L S∧(ss++S).Perm KL0∧wx.ownsRow (R+1) 9 1 v ss.length (aA ss)∧Below R w wx∧R<wx.heap.size) (λ_ wx=>wx.rangeLeft m R)
 case atStart=>exact⟨_,[],qg,.refl _,World.ownsRow_nil _ _ _ _,lN,by omega⟩
 case round=>
  obtain⟨S,ss,xU,hp,hrow,cN,Jf⟩:=hrel;have ow:ss.length+S.length≤L.length∧L.length≤ss.length+S.length:=by rw[←Pa.out,←hp.length_eq,List.length_append];exact⟨nl _,nl _⟩
  go_wp2_with (at_next;refine gw rfl _ rfl rfl xU ?_ ?_)
  · rintro rfl
    rw[List.append_nil] at hp;have D9:=zh (show ss.length=L.length by have h1:=ow.1;have h2:=ow.2;simp at h1 h2;omega);clear ow;have hss:ss.length≤100000:=by have:=D9.out;omega
    have HS:=s7 _ ss _ _ _ hrow hp hss;have Qd:=λb e=>(hrow.lt b e).1
    obtain⟨pv,cv,rfl⟩:=aJ hrow;go_wp2_with (go_at_call 94;refine HS.mono ?_;clear HS;rintro e w5 ⟨rfl,D3,Hz⟩);go_ret;have Je:=Jd.out;have O9:=Jc.out;subst Je O9;rw[←D9.out];exact⟨_,rfl,ef D3 (Nat.le_succ _),cN.grown Hz (Nat.le_of_lt Jf) (λk e=>by have:=Qd k e;omega)⟩
  · intro k v0 w3 hk hlk sA yC hg3 sF hlt Bj
    have qh:=hrow.kept hg3 (Or.inr (λe=>by have:=(hrow.lt R e).1;omega));have eV:=cN.grown hg3 (Nat.le_of_lt Jf) (λk e=>by cases e;exact nl _);have JE:=jf hp hk;have ow:=zh ow;have hss:ss.length+1≤100000:=by have:=ow.out;have:=List.length_pos_of_mem hk;omega
    have Bc:0<S.length:=List.length_pos_of_mem hk;have NS:R<w3.heap.size:=by omega
    clear hg3 hrow cN hp hlk Bc hs0 sF;go_wp2_with (at_builtin;refine wpList_append_own _ rfl _ _ 31 rfl (R+1) 9 i0 _ 1 16 dg kN hz0 hz1 hz2 rfl (by decide) _ _ _ rfl (qh.alloc _) ⟨w3.heap.size,0,none⟩ 1 1 [str k] rfl rfl (cell_one_new _ _ _) (by intro u hu;rw[List.mem_singleton.1 hu];rfl) (by unfold maxLen;omega) (by omega) (by simp;omega) ?_;intro v' w4 ew yw _);have hbk:∀b,b<w3.heap.size→b≤R→w4.heap[b]? =w3.heap[b]? :=λb hb hx=>(yw.block b (by simp;omega) (λe=>by have:=(qh.lt b e.symm).1;omega)).trans ((World.grownBy_alloc w3 _ none).block b hb (by simp))
    have e1:=hbk m (by omega) (by omega);have e2:=hbk R (by omega) zr;have jN:=(eV.alloc (by omega) (.cells #[str k] 9)).grown yw (by simp;omega) (λb e=>by have:=(qh.lt b e).1;omega);have Eb:=yw.size;refine⟨⟨_,ss++[k],yC.of_block e1 e2,JE,by simpa[aA] using ew,jN,by simp at Eb;omega⟩,?_⟩
    show World.rangeLeft w4 m R<World.rangeLeft wr m R
    rw[gu e1 e2];exact hlt
set_option maxRecDepth 8000 in
theorem oG {m:Nat} {L:List (List UInt8×Value)} (w:World) (hL:aQ w m L) (hn:L.length≤100000):
 Calls Tryz.prog 54 #[.map (some m)] w λe w'=>∃v,e=.returned v∧w'.ownsRow w.heap.size 9 1 v L.length (aA (gH (L.map (·.1))))∧Below w.heap.size w w':=by
 obtain⟨i0,kN,hz0,hz1,hz2⟩:=aV fL
 have hml:=hL.lt
 go_enter Tryz.func54,Tryz.ntmps54
 go_wp2_with (at_range;refine fF rfl _ rfl Tryz.underlying42 rfl hL ?_;intro w0 qg vU hs0)
 have lN:Below w.heap.size w w0:=(zb _).grown vU zr (λb e=>by cases e)
 have Pa:=zh (show(L.map (·.1)).length=L.length from List.length_map _)
 generalize Jc:L.map (·.1)=KL0 at *
 replace Jc:=zh Jc
 generalize Jd:w.heap.size=R at *
 replace Jd:=zh Jd
 go_frame
 go_loopw [3] (λv wx=>∃S ss,mq wx m R L S∧(ss++S).Perm KL0∧wx.ownsRow (R+1) 9 1 v ss.length (aA ss)∧Below R w wx∧R<wx.heap.size) (λ_ wx=>wx.rangeLeft m R)
 case atStart=>exact⟨_,[],qg,.refl _,World.ownsRow_nil _ _ _ _,lN,by omega⟩
 case round=>
  obtain⟨S,ss,xU,hp,hrow,cN,Jf⟩:=hrel;have ow:ss.length+S.length≤L.length∧L.length≤ss.length+S.length:=by rw[←Pa.out,←hp.length_eq,List.length_append];exact⟨nl _,nl _⟩
  go_wp2_with (at_next;refine gw rfl _ rfl rfl xU ?_ ?_)
  · rintro rfl
    rw[List.append_nil] at hp;have D9:=zh (show ss.length=L.length by have h1:=ow.1;have h2:=ow.2;simp at h1 h2;omega);clear ow;have hss:ss.length≤100000:=by have:=D9.out;omega
    have HS:=s7 _ ss _ _ _ hrow hp hss;have Qd:=λb e=>(hrow.lt b e).1
    obtain⟨pv,cv,rfl⟩:=aJ hrow;go_wp2_with (go_at_call 94;refine HS.mono ?_;clear HS;rintro e w5 ⟨rfl,D3,Hz⟩);go_ret;have Je:=Jd.out;have O9:=Jc.out;subst Je O9;rw[←D9.out];exact⟨_,rfl,ef D3 (Nat.le_succ _),cN.grown Hz (Nat.le_of_lt Jf) (λk e=>by have:=Qd k e;omega)⟩
  · intro k v0 w3 hk hlk sA yC hg3 sF hlt Bj
    have qh:=hrow.kept hg3 (Or.inr (λe=>by have:=(hrow.lt R e).1;omega));have eV:=cN.grown hg3 (Nat.le_of_lt Jf) (λk e=>by cases e;exact nl _);have JE:=jf hp hk;have ow:=zh ow;have hss:ss.length+1≤100000:=by have:=ow.out;have:=List.length_pos_of_mem hk;omega
    have Bc:0<S.length:=List.length_pos_of_mem hk;have NS:R<w3.heap.size:=by omega
    clear hg3 hrow cN hp hlk Bc hs0 sF;go_wp2_with (at_builtin;refine wpList_append_own _ rfl _ _ 31 rfl (R+1) 9 i0 _ 1 16 dg kN hz0 hz1 hz2 rfl (by decide) _ _ _ rfl (qh.alloc _) ⟨w3.heap.size,0,none⟩ 1 1 [str k] rfl rfl (cell_one_new _ _ _) (by intro u hu;rw[List.mem_singleton.1 hu];rfl) (by unfold maxLen;omega) (by omega) (by simp;omega) ?_;intro v' w4 ew yw _);have hbk:∀b,b<w3.heap.size→b≤R→w4.heap[b]? =w3.heap[b]? :=λb hb hx=>(yw.block b (by simp;omega) (λe=>by have:=(qh.lt b e.symm).1;omega)).trans ((World.grownBy_alloc w3 _ none).block b hb (by simp))
    have e1:=hbk m (by omega) (by omega);have e2:=hbk R (by omega) zr;have jN:=(eV.alloc (by omega) (.cells #[str k] 9)).grown yw (by simp;omega) (λb e=>by have:=(qh.lt b e).1;omega);have Eb:=yw.size;refine⟨⟨_,ss++[k],yC.of_block e1 e2,JE,by simpa[aA] using ew,jN,by simp at Eb;omega⟩,?_⟩
    show World.rangeLeft w4 m R<World.rangeLeft wr m R
    rw[gu e1 e2];exact hlt
end
open Go Go.RowKit Go.Maps
theorem cB.iL {R:Nat→Prop} {w:World} {m:Nat} {us:List (List UInt8×az)} (h:cB R w m us) {k:List UInt8} (hk:k.length≤maxLen):∃v,(∀W ok,W.heap[m]? =w.heap[m]? →(Instr.lookup 106 (.map (some m)) (str k) ok).run Tryz.prog W=.ok (if ok then .tuple #[v,.bool (aq us k).isSome] else v) W)∧dN (Fr R w) w v ((aq us k).getD .zero):=by
 obtain⟨L,rfl,h2,h3⟩:=h
 refine⟨((aq L k).map (·.2)).getD xG,λW ok hW=>?_,?_⟩
 · have h2:=aQ.of_block h2 hW
   cases ok
   · rw[h2.get hk Tryz.underlying106 (xN W),dD (λx:az×Value=>x.2)]
     rfl
   · rw[h2.look hk Tryz.underlying106 (xN W),dD (λx:az×Value=>x.2),dD (λx:az×Value=>x.1)]
     simp
 · rw[dD (λx:az×Value=>x.1)]
   rcases hq:aq L k with _|x
   · exact dN.zero _ _
   · exact h3 _ (eS hq)
theorem Gq:(Tryz.prog.info? 55).map (λi=>(i.zero,i.size,i.bytes))=some (some (.agg #[str [],str []]),2,32):=by kernel_rfl
theorem JU {R:Nat→Prop} {w:World} {base:Nat} {e:TypeId} {size n:Nat} {v:Value} {xs:List Value} (h:w.ownsRow base e size v n xs) (he:e≠133∧e≠145∧e≠147∧e≠198) {b:Nat} (hb:v.ownBlock=some b) (hR:∀b,base≤b→R b):Fr R w b:=by
 rcases h.2 with⟨rfl,_⟩|⟨g,cap,cur,rfl,_,hg,_⟩
 · cases hb
 · simp only[Value.ownBlock,Option.some.injEq] at hb
   subst hb;exact⟨⟨_,hg,fH he⟩,hR _ (h.lt _ rfl).1⟩
theorem mM {p q:Prop} (h:p→q) (hp:p):q:=h hp
def cM (L:bh) (u:az):List (List UInt8×List UInt8):=u.uses.map λn=>(n,((aq L.units n).getD .zero).aO)
def tR (L:bh) (u:az) (code:List UInt8):az:={u with built:=true,code:=code,used:=cM L u }
def ez (L:bh) (name code:List UInt8):bh:=⟨eN L.units ((aq L.units name).getD .zero).name (tR L ((aq L.units name).getD .zero) code),L.last⟩
abbrev tA (p0 p1 p2 p3 p4 x5 x6 x7:Value):Array Value:= #[p0,p1,p2,p3,p4,x5,x6,x7]
structure tG (W0:World) (Ub:Nat) (p0 p1 p2 p3 p4:Value) (code:List UInt8) (listed:Array Bool) (w':World):Prop where
 cV:Below Ub W0 w'
 new:listed.getD 3 false=false→w'.heap.size=W0.heap.size
 made:listed.getD 3 false=true→∃C fl,w'.heap[W0.heap.size]? =some (.cells C 5 fl)∧∀(j:Nat) (u:Value),(aH code)[j]? =some u→C[j]? =some u
 row:∃x5 x6 x7,w'.heap[Ub]? =some (.cells (tA p0 p1 p2 p3 p4 x5 x6 x7) 41 (0,0))∧(listed.getD 5 false=true→x5=.bool true)∧(listed.getD 7 false=true→∃c:Nat,x6=.slice (some ⟨W0.heap.size,0,none⟩) code.length c∧code.length≤c)∧(listed.getD 9 false=true→x7=.slice none 0 0)
section
variable {W0:World} {Ub:Nat} {p0 p1 p2 p3 p4:Value} {code:List UInt8} {listed:Array Bool} {w':World} (h:tG W0 Ub p0 p1 p2 p3 p4 code listed w')
include h
theorem tG.mark {i:Nat} (hi:i≠3∧i≠5∧i≠7∧i≠9):tG W0 Ub p0 p1 p2 p3 p4 code (listed.setIfInBounds i true) w':=by
 obtain⟨h1,h2,h3,x5,x6,x7,h4,h5,h6,h7⟩:=h
 refine⟨h1,?_,?_,x5,x6,x7,h4,?_,?_,?_⟩<;>rw[getD_set_ne false (by omega)]<;>assumption
theorem tG.store {i:Nat} {v:Value} (hl:i<listed.size) (hu:Ub<W0.heap.size) (hi:(i=5∧v=.bool true)∨(i=7∧∃c:Nat,v=.slice (some ⟨W0.heap.size,0,none⟩) code.length c∧code.length≤c)∨(i=9∧v=.slice none 0 0)) {k:Nat} (hk:k=if i=5 then 5 else if i=7 then 6 else 7):
 (∃x,w'.cell? ⟨Ub,k,none⟩=some x)∧w'.frozen? ⟨Ub,k,none⟩=false∧tG W0 Ub p0 p1 p2 p3 p4 code (listed.setIfInBounds i true) (w'.setCell ⟨Ub,k,none⟩ v):=by
 obtain⟨h1,h2,h3,x5,x6,x7,h4,h5,h6,h7⟩:=h
 have hn:∀j,j≠Ub→(w'.setCell ⟨Ub,k,none⟩ v).heap[j]? =w'.heap[j]? :=λj hj=>heap_setCell_other w' ⟨Ub,k,none⟩ j v hj
 have hb:=h1.setCell (p:=⟨Ub,k,none⟩) zr v
 have ht:(listed.setIfInBounds i true).getD i false=true:=by simp[Array.getD_eq_getD_getElem?,hl]
 have hs:W0.heap.size≠Ub:=by omega
 have hrow:=heap_setCell_same w' Ub k _ _ v h4
 rcases hi with⟨rfl,rfl⟩|⟨rfl,hv⟩|⟨rfl,rfl⟩
 · subst hk
   refine⟨⟨_,(af h4 5).trans rfl⟩,au h4 5,hb,?_,?_,.bool true,x6,x7,hrow,λ_=>rfl,?_,?_⟩<;>rw[getD_set_ne false (by decide)]
   · exact λhq=>(size_set _ _ _).trans (h2 hq)
   · rw[hn _ hs];exact h3
   · exact h6
   · exact h7
 · subst hk
   refine⟨⟨_,(af h4 6).trans rfl⟩,au h4 6,hb,?_,?_,x5,v,x7,hrow,?_,λ_=>hv,?_⟩<;>rw[getD_set_ne false (by decide)]
   · exact λhq=>(size_set _ _ _).trans (h2 hq)
   · rw[hn _ hs];exact h3
   · exact h5
   · exact h7
 · subst hk
   refine⟨⟨_,(af h4 7).trans rfl⟩,au h4 7,hb,?_,?_,x5,x6,.slice none 0 0,hrow,?_,?_,λ_=>rfl⟩<;>rw[getD_set_ne false (by decide)]
   · exact λhq=>(size_set _ _ _).trans (h2 hq)
   · rw[hn _ hs];exact h3
   · exact h5
   · exact h6
theorem tG.bytes (hl:3<listed.size) (hu:Ub<W0.heap.size) (h0:listed.getD 3 false=false) {c:Nat} {R:Array Value} (hR:bytesRow ⟨code.toArray⟩ c=R):tG W0 Ub p0 p1 p2 p3 p4 code (listed.setIfInBounds 3 true) (w'.drew.alloc (.cells R 5 (R.size,R.size+1))):=by
 obtain⟨h1,h2,h3,x5,x6,x7,h4,h5,h6,h7⟩:=h
 have ht:(listed.setIfInBounds 3 true).getD 3 false=true:=by simp[Array.getD_eq_getD_getElem?,hl]
 have hz:=h2 h0
 have hb:Below w'.heap.size w' (w'.drew.alloc (.cells R 5 (R.size,R.size+1))):=(zb w').drew.alloc zr _
 refine⟨h1.trans (aa hb (by omega)),λhq=>(by rw[ht] at hq;cases hq),λ_=>⟨R,_,by rw[←hz];exact heap_alloc_new w'.drew _,λj u hj=>?_⟩,x5,x6,x7,ag h4 hb,?_,?_,?_⟩
 · rw[←hR]
   have hj2:j<code.length:=by have:=(List.getElem?_eq_some_iff.1 hj).1;rwa [ak] at this
   unfold bytesRow;rw[Array.getElem?_append_left (by simpa using hj2)];rw[jo] at hj
   simpa using hj
 all_goals rw[getD_set_ne false (by decide)];assumption
end
set_option maxRecDepth 8000 in
theorem yV {R D : Nat → Prop} {mu ml sb : Nat} {L : bh} (name code : List UInt8) (v : Value) (w : World) (hv : SS D w v [name, code]) (hc : w.cell? ⟨sb, 0, none⟩ = some (.map (some mu))) (hL : gA R w mu ml L) (hcl : code.length ≤ 100000) (hn : L.units.length < 1000) (CJ : ((aq L.units name).getD .zero).uses.length ≤ 1000) :
 Calls Tryz.prog 153 #[.pointer (some ⟨sb,0,none⟩),v] w λe w'=>e=.returned (.tuple #[])∧gA (RO R w.heap.size) w' mu ml (ez L name code)∧KL mu ml w w':=by
 obtain⟨p,c,rfl,_,_,hle⟩:=hv.shape
 obtain⟨b,o,rfl,_,k0⟩:=hv.at (k:=0) rfl
 obtain⟨_,_,h1,_,k1⟩:=hv.at (k:=1) rfl
 cases h1
 rw[Nat.add_zero] at k0
 have ym:mu<w.heap.size:=by
  obtain⟨es,cc,h1⟩:=hL.units.map;exact aj h1
 obtain⟨vu,hlk,oP⟩:=hL.units.iL (hle name (by simp))
 have hlk:∀W,Below w.heap.size w W→(Instr.lookup 106 (.map (some mu)) (str name) false).run Tryz.prog W=.ok vu W:=λW hW=>hlk W false (hW.block mu ym)
 generalize hu:(aq L.units name).getD .zero=u at *
 obtain⟨a,ca,us,rfl,JK,Fw,JJ,Su⟩:=oP
 obtain⟨pa,na,rfl,_⟩:=Fw.shape
 obtain⟨pc,nc,rfl,_⟩:=JJ.shape
 obtain⟨pu,nu,rfl,_⟩:=Su.shape
 have hA:=(zb w).alloc zr (.cells #[str [],.int .i64 0,str [],str [],.slice none 0 0,.bool false,.slice none 0 0,.slice none 0 0] 41)
 have j0:=Below.keep hA k0
 have jc:=Below.keep hA hc
 have j1:=hlk _ hA
 have j2:=hlk _ hA.drew
 have j3:=hlk _ (zb w)
 have j4:=hlk _ (zb w).drew
 go_enter Tryz.func153,Tryz.ntmps153
 go_upto_region 0 with fail
 apply mM
 · intro hone
   go_region
   all_goals exact hone
 obtain⟨W0,pX⟩:∃W0,(w.alloc (.cells #[str u.name,.int .i64 u.version,str u.source,str u.aO,.slice pa u.uses.length na,.bool u.built,.slice pc (aH u.code).length nc,.slice pu u.used.length nu] 41)).drew=W0:=⟨_,rfl⟩
 have lN:Below w.heap.size w W0:=pX▸((zb w).alloc zr _).drew
 have Ga:W0.heap[w.heap.size]? =some (.cells #[str u.name,.int .i64 u.version,str u.source,str u.aO,.slice pa u.uses.length na,.bool u.built,.slice pc (aH u.code).length nc,.slice pu u.used.length nu] 41 (0,0)):=pX▸heap_alloc_new w _
 rw[pX]
 clear pX hA j0 jc j1 j2 j3 j4 hlk JJ Su
 have l1:=Below.keep lN k1
 have hcv:=λ(w:World) (b:ByteArray)=>run_bytes_of_string (P:=Tryz.prog) w 9 38 5 b Tryz.underlying9 Tryz.underlying38 Tryz.underlying5
 have xS:b<w.heap.size:=World.block_lt_of_cell? _ _ k1
 have Ko:w.heap.size<W0.heap.size:=aj Ga
 have yo:tG W0 w.heap.size (str u.name) (.int .i64 u.version) (str u.source) (str u.aO) (.slice pa u.uses.length na) code (Array.replicate 10 false) W0.drew:=⟨(zb W0).drew,λ_=>rfl,λh=>by simp[Array.getD_eq_getD_getElem?] at h,_,_,_,Ga,λh=>by simp[Array.getD_eq_getD_getElem?] at h,λh=>by simp[Array.getD_eq_getD_getElem?] at h,λh=>by simp[Array.getD_eq_getD_getElem?] at h⟩
 go_upto_region 1 with fail
 refine dW (S:=tG W0 w.heap.size (str u.name) (.int .i64 u.version) (str u.source) (str u.aO) (.slice pa u.uses.length na) code) (A:=λj v=>match j with
  | 0=>v=.slice (some ⟨b,o,none⟩) 2 c
  | 1=>v=.pointer (some ⟨b,o+1,none⟩)
  | 2=>v=str code
  | 3=>∃cc:Nat,v=.slice (some ⟨W0.heap.size,0,none⟩) code.length cc∧code.length≤cc
  | 4=>v=.pointer (some ⟨w.heap.size,5,none⟩)
  | 6=>v=.pointer (some ⟨w.heap.size,6,none⟩)
  | 8=>v=.pointer (some ⟨w.heap.size,7,none⟩)
  | _=>True) (by kernel_rfl) (by kernel_rfl) (by kernel_rfl) yo ⟨?_,?_,?_,?_,?_,?_,?_,?_,?_,?_,trivial⟩ ?_
 · exact fh (λ_ _ h=>h.mark (by decide)) rfl λlisted a' wx hS aC hout=>by
    have e:a'.eval (.tmp 1)=.slice (some ⟨b,o,none⟩) 2 c:=(hout 1 (bG (by kernel_rfl))).trans rfl;unfold execOp;simp only[e];simp[go_sem]
 · exact fh (λ_ _ h=>h.mark (by decide)) rfl λlisted a' wx hS aC hout=>by
    have e:a'.eval (.tmp 15)=.slice (some ⟨b,o,none⟩) 2 c:=aC 0 15 (by kernel_rfl) rfl;unfold execOp;simp only[e];simp[go_sem]
 · exact fh (λ_ _ h=>h.mark (by decide)) rfl λlisted a' wx hS aC hout=>by
    have e:a'.eval (.tmp 16)=.pointer (some ⟨b,o+1,none⟩):=aC 1 16 (by kernel_rfl) rfl;have cc:wx.cell? ⟨b,o+1,none⟩=some (str code):=(World.cell?_of_block (hS.cV.block b xS)).trans l1;unfold execOp;simp only[e];simp[go_sem,cc]
 · refine iB λlisted a' wx oN Ba hS aC hout next hnx=>?_
   have h3:3<listed.size:=by rw[oN];decide
   have Ra:listed.getD 3 false=false:=by simpa[Array.getD_eq_getD_getElem?,h3] using Ba
   have e:a'.eval (.tmp 17)=str code:=aC 2 17 (by kernel_rfl) rfl;have hz:=hS.new Ra;refine aR (v:=.slice (some ⟨W0.heap.size,0,none⟩) code.length (grownCap wx code.length 0 5)) (w':=wx.drew.alloc (.cells (bytesRow ⟨code.toArray⟩ (grownCap wx code.length 0 5)) 5 ((bytesRow ⟨code.toArray⟩ (grownCap wx code.length 0 5)).size,(bytesRow ⟨code.toArray⟩ (grownCap wx code.length 0 5)).size+1))) ?_ (hnx _ _ ⟨_,rfl,grownCap_ge _ _ _ _⟩ (hS.bytes h3 Ko Ra rfl));unfold execOp;simp only[e];have:=hcv wx ⟨code.toArray⟩;rw[hz] at this;simp[go_sem,this]
 · exact fh (λ_ _ h=>h.mark (by decide)) rfl λlisted a' wx hS aC hout=>by
    have e:a'.eval (.tmp 4)=.pointer (some ⟨w.heap.size,0,none⟩):=(hout 4 (bG (by kernel_rfl))).trans rfl;unfold execOp;simp only[e];simp[go_sem]
 · refine iB λlisted a' wx oN Ba hS aC hout next hnx=>?_
   have e1:a'.eval (.tmp 19)=.pointer (some ⟨w.heap.size,5,none⟩):=aC 4 19 (by kernel_rfl) rfl;obtain⟨⟨x,q1⟩,q2,q3⟩:=hS.store (i:=5) (k:=5) (by rw[oN];decide) Ko (.inl ⟨rfl,rfl⟩) rfl;exact aY rfl e1 rfl (w':=wx.setCell ⟨w.heap.size,5,none⟩ (.bool true)) (by simp[go_sem,q1,q2,Act.eval]) (hnx undef _ trivial q3)
 · exact fh (λ_ _ h=>h.mark (by decide)) rfl λlisted a' wx hS aC hout=>by
    have e:a'.eval (.tmp 4)=.pointer (some ⟨w.heap.size,0,none⟩):=(hout 4 (bG (by kernel_rfl))).trans rfl;unfold execOp;simp only[e];simp[go_sem]
 · refine iB λlisted a' wx oN Ba hS aC hout next hnx=>?_
   have e1:a'.eval (.tmp 20)=.pointer (some ⟨w.heap.size,6,none⟩):=aC 6 20 (by kernel_rfl) rfl;obtain⟨cc,e2,Fs⟩:∃cc:Nat,a'.eval (.tmp 18)=.slice (some ⟨W0.heap.size,0,none⟩) code.length cc∧code.length≤cc:=aC 3 18 (by kernel_rfl) rfl
   obtain⟨⟨x,q1⟩,q2,q3⟩:=hS.store (i:=7) (k:=6) (v:=.slice (some ⟨W0.heap.size,0,none⟩) code.length cc) (by rw[oN];decide) Ko (.inr (.inl ⟨rfl,cc,rfl,Fs⟩)) rfl;exact aY rfl e1 e2 (w':=wx.setCell ⟨w.heap.size,6,none⟩ (.slice (some ⟨W0.heap.size,0,none⟩) code.length cc)) (by simp[go_sem,q1,q2]) (hnx undef _ trivial q3)
 · exact fh (λ_ _ h=>h.mark (by decide)) rfl λlisted a' wx hS aC hout=>by
    have e:a'.eval (.tmp 4)=.pointer (some ⟨w.heap.size,0,none⟩):=(hout 4 (bG (by kernel_rfl))).trans rfl;unfold execOp;simp only[e];simp[go_sem]
 · refine iB λlisted a' wx oN Ba hS aC hout next hnx=>?_
   have e1:a'.eval (.tmp 21)=.pointer (some ⟨w.heap.size,7,none⟩):=aC 8 21 (by kernel_rfl) rfl;obtain⟨⟨x,q1⟩,q2,q3⟩:=hS.store (i:=9) (k:=7) (by rw[oN];decide) Ko (.inr (.inr ⟨rfl,rfl⟩)) rfl;exact aY rfl e1 rfl (w':=wx.setCell ⟨w.heap.size,7,none⟩ (.slice none 0 0)) (by simp[go_sem,q1,q2,Act.eval]) (hnx undef _ trivial q3)
 intro a4 w4 hdf iw hout ⟨listed,hall,hS⟩ hjunk
 clear hjunk
 rw[dO hdf iw hout]
 simp only[JW,pz,pw]
 clear hdf iw hout
 obtain⟨hb4,_,N0,x5,x6,x7,hU,g5,g6,g7⟩:=hS
 obtain⟨C,fl,hC,NG⟩:=N0 (hall 3 (by decide))
 obtain rfl:=g5 (hall 5 (by decide))
 obtain⟨cc,rfl,Fs⟩:=g6 (hall 7 (by decide))
 obtain rfl:=g7 (hall 9 (by decide))
 clear hall N0 g5 g6 g7 hcv
 have jN:=lN.trans hb4
 have TF:Fr (RO R w.heap.size) w4 W0.heap.size:=⟨⟨_,hC,fH (by decide)⟩,.inr (Nat.le_of_lt Ko)⟩
 have NH:W0.heap.size<w4.heap.size:=aj hC
 have hcv:CV (λb=>b=W0.heap.size) w4 (.slice (some ⟨W0.heap.size,0,none⟩) code.length cc) (aH code):=⟨_,_,by rw[ak],by rw[ak];exact Fs,by rw[ak];unfold maxLen;omega,.inr ⟨_,0,rfl,rfl,aj hC,λj x hj=>by rw[Nat.zero_add];exact(af hC j).trans (NG j x hj)⟩⟩
 have hcb:W0.heap.size≠w.heap.size:=Nat.ne_of_gt Ko
 have Be:w.heap.size<w4.heap.size:=aj hU
 clear hC NG Ga l1 yo hb4 lN
 generalize W0.heap.size=CB at *
 have Uw:=Below.keep jN hc
 have e4:=(af hU 4).trans rfl
 have MS:=JK
 obtain⟨un,uf⟩:(∀n∈u.uses,n.length≤maxLen)∧True:=⟨λn hn=>by obtain⟨_,_,_,_,_,h⟩:=Fw.shape;exact h n hn,trivial⟩
 go_wp2_with fail
 go_loopw [25] (λy wx=>∃i:Nat,i≤u.uses.length∧y=.int .i64 i∧∃uv,wx.heap[w.heap.size]? =some (.cells (tA (str u.name) (.int .i64 u.version) (str u.source) (str u.aO) (.slice pa u.uses.length na) (.bool true) (.slice (some ⟨CB,0,none⟩) code.length cc) uv) 41 (0,0))∧wx.ownsRow w4.heap.size 55 2 uv i (l9 ((cM L u).take i))∧Below w.heap.size w wx∧w4.heap.size≤wx.heap.size∧(∀b,b<w4.heap.size→b≠w.heap.size→wx.heap[b]? =w4.heap[b]?)) (λy _=>u.uses.length - (intOf y).toNat)
 case atStart=>exact⟨0,Nat.zero_le _,by go_num,_,hU,World.ownsRow_nil _ _ _ _,jN,nl _,λ_ _ _=>rfl⟩
 case round =>
  obtain⟨i,hi,rfl,uv,Jj,hown,gN,ue⟩:=hrel;have Ec:w4.heap.size≤wr.heap.size:=ue.1
  replace ue:=ue.2
  by_cases hlt:i<u.uses.length
  case pos =>
   obtain⟨x,hkx⟩:∃x,u.uses[i]? =some x:=⟨_,List.getElem?_eq_getElem hlt⟩
   obtain⟨pb,po,rfl,_,d0⟩:=(Fw.below gN zr).at hkx;have hxl:=un x (List.mem_of_getElem? hkx);obtain⟨vx,H7,Fy⟩:=hL.units.iL hxl;obtain⟨xa,xc,xd,rfl,Vb,yF,rH,Bp⟩:=Fy;obtain⟨Cp,Cq,rfl,_⟩:=yF.shape;obtain⟨Cr,Cs,rfl,_⟩:=rH.shape;obtain⟨Ct,Cu,rfl,_⟩:=Bp.shape;clear yF rH Bp;generalize hX:(aq L.units x).getD .zero=X at *;have Pu:(cM L u).take i++[(x,X.aO)]=(cM L u).take (i+1):=by
    rw[List.take_add_one];unfold cM;rw[List.getElem?_map,hkx,←hX]
    rfl
   replace Pu:=zh Pu
   have Re:((cM L u).take i).length=i:=by
    unfold cM;rw[List.length_take,List.length_map];omega
   replace Re:=zh Re
   have P5:∀W,Below w.heap.size w W→(Instr.lookup 106 (.map (some mu)) (str x) false).run Tryz.prog W=.ok (.agg #[str X.name,.int .i64 (X.version:Int),str X.source,str X.aO,.slice Cp X.uses.length Cq,.bool X.built,.slice Cr (aH X.code).length Cs,.slice Ct X.used.length Cu]) W:=λW hW=>H7 W false (hW.block mu ym)
   have hil:(i:Int)<(u.uses.length:Int):=by omega
   have Uf:=aj Jj;have DH:=(Below.keep gN hc);obtain⟨i0,kN,hz0,hz1,hz2⟩:=aV Gq;obtain⟨qv,cv,rfl⟩:=aJ hown;clear hkx H7 hU hX MS;go_upto_region 5 with fail;refine q9 (D:=λ_=>True) (w:=wr) (O:=w.heap.size) (f:=7) 12 [(4,vP w.heap.size 0),(6,.eq (str x)),(0,vP sb 0)] [vP w.heap.size 7,.eq (.slice qv i cv),.eq (str x),vP sb 0,vP sb 0,vP sb 0,.eq (.map (some mu)),.eq (str x),.eq (.agg #[str X.name,.int .i64 (X.version:Int),str X.source,str X.aO,.slice Cp X.uses.length Cq,.bool X.built,.slice Cr (aH X.code).length Cs,.slice Ct X.used.length Cu]),.eq (str X.aO),.eq (.agg #[str x,str X.aO]),.prop λw v=>∃g,v=.slice (some ⟨g,0,none⟩) 1 1∧w.heap[g]? =some (.cells #[str x,str X.aO] 55 (0,0))]
    (λw'=>Below wr.heap.size wr w') (λv w'=>w'.ownsRow w4.heap.size 55 2 v (i+1) (l9 ((cM L u).take i++[(x,X.aO)])))
    (λw'=>Below w4.heap.size wr w') (λw'=>∃uv,w'.heap[w.heap.size]? =some (.cells (tA (str u.name) (.int .i64 u.version) (str u.source) (str u.aO) (.slice (some ⟨pb,po,none⟩) u.uses.length na) (.bool true) (.slice (some ⟨CB,0,none⟩) code.length cc) uv) 41 (0,0))∧w'.ownsRow w4.heap.size 55 2 uv (i+1) (l9 ((cM L u).take i++[(x,X.aO)]))∧Below w.heap.size wr w'∧(∀b,b<w4.heap.size→b≠w.heap.size→w'.heap[b]? =wr.heap[b]?)) (by kernel_rfl) rfl rfl rfl rfl rfl rfl ⟨?_,?_⟩
    (λw1 w2 h hb=>h.trans (aa hb h.size)) (λv w1 w2 h hb=>aT h hb zr) (λw1 w2 h hb=>h.trans (aa hb (Nat.le_trans Ec h.size))) (zb wr).drew ⟨rfl,rfl,rfl,trivial⟩ ?_ ?_ (λv w h=>by obtain⟨p,c,e⟩:=aJ h;exact⟨p,_,c,e⟩) (λw h=>⟨_,(af ((h.block _ Be).trans Jj) 7).trans rfl,rfl,au ((h.block _ Be).trans Jj) 7⟩) ?_ ?_
   · intro a wx hout Q next hn
     have e:=kU (x:=.pointer (some ⟨w.heap.size,0,none⟩)) (hout 4 (bG (by kernel_rfl)));unfold Oper.wp;simp only[execOp];simp[go_sem,e];exact hn
   · intro a wx p n c u e1 e2 e3 e4 e5 Q next hn
     have e1:=kU e1;have e2:=kU e2;unfold Oper.wp;simp only[execOp];simp[go_sem,e1,e2,e3,e5];exact hn
   · iterate 11
      refine And.intro ?_ ?_
      · first
        | exact iU rfl rfl (by kernel_rfl)
        | exact ic rfl (by kernel_rfl) rfl rfl
        | exact gQ rfl (by kernel_rfl) rfl rfl (λw=>by simp[go_sem])
        | exact EZ rfl (by kernel_rfl) rfl rfl rfl (λw hS=>P5 w (gN.trans (aa hS gN.size)))
        | exact dV rfl (by kernel_rfl) rfl rfl (λw hS=>by have c1:=(af (ag Jj hS) 7).trans rfl;simp[go_sem,Below.keep hS DH,c1])
        | exact B5 (.tmp 31) (.tmp 38) (by kernel_rfl) rfl rfl rfl (λev w hS h1 h2=>by unfold execOp;simp[h1,h2,go_sem])
        | exact qM (.tmp 37) (by kernel_rfl) rfl rfl (λev w hS h1=>by unfold execOp;simp only[h1];rfl)
     refine And.intro ?_ trivial;refine rQ [(.tmp 39,.eq (.agg #[str x,str X.aO]))] (by kernel_rfl) rfl rfl (λa w Q hS hi next hnx=>?_);have h1:a.eval (.tmp 39)=.agg #[str x,str X.aO]:=hi (.tmp 39,.eq (.agg #[str x,str X.aO])) (by simp);have hrun:(Instr.buildSlice 39 1 #[(0,.agg #[str x,str X.aO])]).run Tryz.prog w=.ok (.slice (some ⟨w.heap.size,0,none⟩) 1 1) (w.alloc (.cells #[str x,str X.aO] 55)):=by
      simp[go_sem]
     refine tC rfl h1 hrun ?_;exact hnx _ _ (λw' hb=>⟨_,rfl,(hb.block _ (aj (heap_alloc_new w _))).trans (heap_alloc_new w _)⟩) ((zb w).alloc zr _)
   · intro IQ w2 hS hV next hn
     have K8:IQ.eval (.tmp 30)=.slice qv i cv:=hV 1 _ 30 (by decide) rfl rfl;obtain⟨g,Ot,hg⟩:=hV 11 _ 40 (by decide) rfl rfl w2 (zb _);have Ib:=aT hown hS zr;obtain⟨v',w',hr,h2,h3,h4⟩:=eG (P:=Tryz.prog) w2 w4.heap.size 39 39 55 i0 _ 2 32 (by kernel_rfl) kN hz0 hz1 hz2 (by kernel_rfl) (by decide) _ i _ Ib ⟨g,0,none⟩ 1 1 [str x,str X.aO] (by simp) (λj u hj=>by
      rw[eH];refine(af hg (0+j)).trans ?_
      simpa using hj) (λu hu=>by
       rcases List.mem_cons.1 hu with rfl|hu
       · rfl
       · rw[List.mem_singleton.1 hu];rfl) (by decide) (by unfold maxLen;omega) (by omega) (Nat.le_trans Ec hS.size)
     refine mU rfl K8 Ot hr (hn _ _ (by rw[Cf];exact h2) ((aa hS Ec).grown h3 (Nat.le_trans Ec hS.size) (λb e=>(Ib.lt b e).1)))
   · intro v wy h1 h2
     have Ug:=(h2.block _ Be).trans Jj;refine⟨v,heap_setCell_same wy w.heap.size 7 _ _ _ Ug,aG h1 λb hb=>heap_setCell_other wy ⟨w.heap.size,7,none⟩ b _ (λe=>?_),(aa h2 (Nat.le_of_lt Be)).setCell (p:=⟨w.heap.size,7,none⟩) zr _,λb hb hne=>(heap_setCell_other wy ⟨w.heap.size,7,none⟩ b _ hne).trans (h2.block b hb)⟩;have:=(h1.lt b hb).1;subst e;exact absurd this (Nat.not_le_of_lt Be)
   · intro a wx hS
     obtain⟨VD,g1,g2,g3,g4⟩:=hS;simp only[pq,pz,pw];go_wp2_with fail;exact⟨⟨i+1,hlt,by go_num,VD,g1,Pu.out▸g2,gN.trans g3,Nat.le_trans Ec g3.size,λb hb hne=>(g4 b hb hne).trans (ue b hb hne)⟩,by simp only[intOf];omega⟩
  case neg =>
   obtain rfl:i=u.uses.length:=by omega
   have Rc:(cM L u).take u.uses.length=cM L u:=List.take_of_length_le (by unfold cM;rw[List.length_map];exact nl _);rw[Rc] at hown;have hlen:(cM L u).length=u.uses.length:=by unfold cM;rw[List.length_map]
   have hle2:∀x∈cM L u,x.1.length≤maxLen∧x.2.length≤maxLen:=λx hx=>by
    obtain⟨n,hn,rfl⟩:=List.mem_map.1 hx;obtain⟨_,_,_,_,_,_,g,_⟩:=hL.units.iL (un n hn);exact⟨un n hn,g.2.2⟩
   have Sg:dI w wr:=dI.ai gN zr;have q4:=ue CB NH hcb;have oP:dN (Fr (RO R w.heap.size) wr) wr (.agg (tA (str u.name) (.int .i64 u.version) (str u.source) (str u.aO) (.slice pa u.uses.length na) (.bool true) (.slice (some ⟨CB,0,none⟩) code.length cc) uv)) (tR L u code):=⟨_,_,_,rfl,JK,(Fw.ey Sg).mono (λb hb=>hb.mono .inl),(hcv.agree λb hb _=>by subst hb;exact q4).mono λb hb=>by subst hb;exact TF.keep q4,ck.eZ (hlen▸hown) hle2 (λb hb=>JU hown (by decide) hb (λb hb=>.inr (Nat.le_trans (Nat.le_of_lt Be) hb)))⟩;have JH:=(hL.units.mono (R':=RO R w.heap.size) λ_ h=>.inl h).ey Sg (gN.block mu ym);have rA:KL mu ml w wr:=KL.ai gN zr;have NZ:=aQ.below hL.last gN zr;have s0:=Below.keep gN hc;have n3:wr.cell? ⟨w.heap.size,0,none⟩=some (str u.name):=(af Jj 0).trans rfl;obtain⟨qv,cv,rfl⟩:=aJ hown;have Ji:∀W,Below wr.heap.size wr W→(Instr.loadAt 41 (.pointer (some ⟨w.heap.size,0,none⟩))).run Tryz.prog W=.ok (.agg (tA (str u.name) (.int .i64 u.version) (str u.source) (str u.aO) (.slice pa u.uses.length na) (.bool true) (.slice (some ⟨CB,0,none⟩) code.length cc) (.slice qv u.uses.length cv))) W:=λW hW=>by
    have hq:=ag Jj hW;have d0:=(af hq 0).trans rfl;have d1:=(af hq 1).trans rfl;have d2:=(af hq 2).trans rfl;have d3:=(af hq 3).trans rfl;have d4:=(af hq 4).trans rfl;have d5:=(af hq 5).trans rfl;have d6:=(af hq 6).trans rfl;have d7:=(af hq 7).trans rfl;simp[go_sem,d0,d1,d2,d3,d4,d5,d6,d7]
   obtain⟨UL,u1,u2,u3⟩:=JH;have U0:UL.length<1000:=by
    rw[←List.length_map (λx:List UInt8×(az×Value)=>(x.1,x.2.1)),u1];exact hn
   have Qu:=JK.1;clear ue hcv hown hlk hle2 hlen Rc Fw gN Uw e4 MS;go_upto_region 7 with fail;refine cF (D:=λ_=>True) (w:=wr) 7 [(0,vP sb 0),(4,vP w.heap.size 0)] [vP sb 0,vP sb 0,vP sb 0,.eq (.map (some mu)),vP w.heap.size 0,.eq (str u.name),.eq (.agg (tA (str u.name) (.int .i64 u.version) (str u.source) (str u.aO) (.slice pa u.uses.length na) (.bool true) (.slice (some ⟨CB,0,none⟩) code.length cc) (.slice qv u.uses.length cv)))]
    (λw'=>Below wr.heap.size wr w') (λw'=>cB (RO R w.heap.size) w' mu (eN L.units u.name (tR L u code))∧∃wz,Below wr.heap.size wr wz∧wz.mapTurned w' mu) (by kernel_rfl) rfl rfl (λw w' h hb=>h.trans (aa hb h.size)) (zb wr).drew ⟨rfl,rfl,trivial⟩ ?_ ?_ ?_
   · iterate 7
      refine And.intro ?_ ?_
      · first
        | exact iU rfl rfl (by kernel_rfl)
        | exact ic rfl (by kernel_rfl) rfl rfl
        | exact gQ rfl (by kernel_rfl) rfl rfl (λw=>by simp[go_sem])
        | exact dV rfl (by kernel_rfl) rfl rfl Ji
        | exact dV rfl (by kernel_rfl) rfl rfl (λw hS=>by simp[go_sem,Below.keep hS s0,Below.keep hS n3])
     exact trivial
   · intro a' wx hS hV hout next hnx
     have e1:=hV 3 _ 47 (by decide) rfl rfl;have e2:=hV 5 _ 49 (by decide) rfl rfl;have e3:=hV 6 _ 50 (by decide) rfl rfl;refine uZ (.tmp 47) (.tmp 49) (.tmp 50) rfl Tryz.underlying106 (u2.below hS zr) (by rw[List.length_map];unfold maxLen;omega) e1 e2 e3 Qu λw' ha ht=>hnx _ _ ⟨?_,_,hS,ht⟩
     have Mq:=dI.ai hS zr;exact cB.stored u1 (λx hx=>(u3 x hx).ey Mq) (oP.ey Mq) ha ht
   · intro ax wx oO
     simp only[pq,pz,pw];obtain⟨g1,wz,g2,g3⟩:=oO;have g4:=World.grownBy.trans (eR g2 (some mu)) g3.grown
     go_end0
     refine⟨rfl,⟨?_,?_,hL.ne,?_⟩,rA.trans (KL.mK g4 (.inl rfl))⟩
     · unfold ez
       rw[hu];exact g1
     · unfold ez
       exact aQ.kept NZ g4 (λe=>hL.ne (by injection e with e;exact e.symm))
     · unfold ez
       rw[hu];have p1:=uM L.units u.name (tR L u code);exact⟨by show(eN _ _ _).length≤1000;omega,hL.le.2⟩
end Go.Proofs.YtemjidmkolfgnaaGreatDoor
