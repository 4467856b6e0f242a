/-
  Lemmas for the statement: contract of the package store: (*Disk).Flush. Conditions: bounds of lengths; the variable strings.asciiSpace.
-/
import Derived.Test.YtemjidmkolfgnaaGreatDoorSBn
import Derived.Test.YtemjidmkolfgnaaGreatDoorSB22
import Derived.Test.YtemjidmkolfgnaaGreatDoorSB23
import Derived.Test.YtemjidmkolfgnaaGreatDoorSB29
set_option maxHeartbeats 6400000
namespace Go.Proofs.YtemjidmkolfgnaaGreatDoor
open Go Go.RowKit
abbrev xO:Array Value:= #[.int .u8 0,.int .u8 0,.int .u8 0,.int .u8 0,.int .u8 0,.int .u8 0,.int .u8 0,.int .u8 0,.int .u8 0,.int .u8 0,.int .u8 0,.int .u8 0,.int .u8 0,.int .u8 0,.int .u8 0,.int .u8 0,.int .u8 0,.int .u8 0,.int .u8 0,.int .u8 0,.int .u8 0,.int .u8 0,.int .u8 0,.int .u8 0,.int .u8 0,.int .u8 0,.int .u8 0,.int .u8 0,.int .u8 0,.int .u8 0,.int .u8 0,.int .u8 0,.int .u8 0,.int .u8 0,.int .u8 0,.int .u8 0,.int .u8 0,.int .u8 0,.int .u8 0,.int .u8 0,.int .u8 0,.int .u8 0,.int .u8 0,.int .u8 0,.int .u8 0,.int .u8 0,.int .u8 0,.int .u8 0,.int .u8 0,.int .u8 0,.int .u8 0,.int .u8 0,.int .u8 0,.int .u8 0,.int .u8 0,.int .u8 0,.int .u8 0,.int .u8 0,.int .u8 0,.int .u8 0,.int .u8 0,.int .u8 0,.int .u8 0,.int .u8 0]
theorem G5:xO=(aH (List.replicate 64 0)).toArray:=by rfl
theorem yI:(Tryz.prog.info? 147).map (λi=>(i.zero,i.size,i.bytes))=some (some (.agg (#[.int .i64 0]++xO)),65,72):=by kernel_rfl
def jV (l:List UInt8):List UInt8:=l++List.replicate (64 - l.length) 0
theorem zC (bs:List UInt8) (_h:bs.length≤64):splice (aH (List.replicate 64 0)) 0 (aH bs)=aH (jV bs):=by
 unfold splice jV
 rw[List.take_zero,List.nil_append,zL,Nat.zero_add,ak]
 congr 1
 unfold aH
 rw[←List.map_drop,List.drop_replicate]
theorem xl (bs:List UInt8) (h:bs.length≤64):(jV bs).length=64:=by unfold jV;simp;omega
theorem mU {P:Program} {o:Oper} {t:TypeId} {x y:Operand} (ho:o.op=.call {callee:=.builtin .append,args:= #[x,y],argTypes:= #[t,t] }) {a:Act} {w w':World} {K:Act→World→Prop} {Q:Exit→Act→World→Prop} {p v r:Value} (e1:a.eval x=p) (e2:a.eval y=v) (hr:(Builtin.append_ #[t,t] o.type #[p,v]).run P w=.ok r w') (hn:K (a.put o.dst r) w'):o.wp P a w K Q:=by
 unfold Oper.wp execOp
 simp only[ho,resolve,invoke,builtin,Sem.run_bind,Sem.run_pure,Result.andThen_ok,List.map_toArray,List.map_cons,List.map_nil,e1,e2,hr]
 exact hn
theorem tC {P:Program} {o:Oper} {t:TypeId} {x:Operand} (ho:o.op=.buildSlice t 1 #[(0,x)]) {a:Act} {w w':World} {K:Act→World→Prop} {Q:Exit→Act→World→Prop} {p r:Value} (e1:a.eval x=p) (hr:(Instr.buildSlice t 1 #[(0,p)]).run P w=.ok r w') (hn:K (a.put o.dst r) w'):o.wp P a w K Q:=by
 unfold Oper.wp execOp
 simp only[ho,Sem.run_bind,Sem.run_pure,Result.andThen_ok,List.map_toArray,List.map_cons,List.map_nil,e1,hr]
 exact hn
theorem vQ:∀(L:List Value) (j:Nat) (cs:Array Value),1+j+L.length≤cs.size→∀k,((L.zipIdx j).foldl (λ(cs:Array Value) x=>cs.setIfInBounds (1+x.2) x.1) cs)[k]? =if 1+j≤k∧k<1+j+L.length then L[k - (1+j)]? else cs[k]?
 | [],j,cs,_,k=>by
  have:¬(1+j≤k∧k<1+j):=by omega
  simp[this]
 | x::L,j,cs,h,k=>by
  rw[List.length_cons] at h;rw[List.zipIdx_cons,List.foldl_cons,vQ L (j+1) _ (by simp;omega) k];dsimp only
  by_cases h1:1+j=k
  · subst h1
    rw[if_neg (by omega),if_pos (by simp),Array.getElem?_setIfInBounds_self_of_lt (by omega)];simp
  · by_cases h2:1+j≤k∧k<1+j+(L.length+1)
    · rw[if_pos (by omega),if_pos (by simpa using h2),show k - (1+j)=(k - (1+(j+1)))+1 by omega,List.getElem?_cons_succ]
    · rw[if_neg (by omega),if_neg (by simpa using h2),Array.getElem?_setIfInBounds_ne h1]
theorem K9 {Y:Array Value} (hY:Y.size=64) {v:Value}:Array.foldl (λ(cs:Array Value) x=>cs.setIfInBounds (1+x.2) x.1) (Tryz.zeroCells147.setIfInBounds 0 v) Y.zipIdx 0 Y.size= #[v]++Y:=by
 have hz:Tryz.zeroCells147.size=65:=by kernel_rfl
 have e0:Array.foldl (λ(cs:Array Value) x=>cs.setIfInBounds (1+x.2) x.1) (Tryz.zeroCells147.setIfInBounds 0 v) Y.zipIdx 0 Y.size=(Y.toList.zipIdx 0).foldl (λ(cs:Array Value) x=>cs.setIfInBounds (1+x.2) x.1) (Tryz.zeroCells147.setIfInBounds 0 v):=by
  rw[show Y.size=Y.zipIdx.size by simp,←Array.foldl_toList];simp
 rw[e0]
 refine Array.ext_getElem? λk=>?_
 rw[vQ Y.toList 0 _ (by simp[hz,hY]) k]
 rcases k with _|k
 · rw[Array.getElem?_append_left (by simp)]
   simp[hz]
 · rw[Array.getElem?_append_right (by simp)]
   by_cases hk:k<64
   · rw[if_pos (by simp[hY];omega)]
     simp
   · rw[if_neg (by simp[hY];omega),Array.getElem?_eq_none (by simp[hz];omega),Array.getElem?_eq_none (by simp[hY];omega)]
theorem sw:∀(L:List Value) (j:Nat) (cs:Array Value),j+L.length≤cs.size→∀k,((L.zipIdx j).foldl (λ(cs:Array Value) x=>cs.setIfInBounds x.2 x.1) cs)[k]? =if j≤k∧k<j+L.length then L[k - j]? else cs[k]?
 | [],j,cs,_,k=>by
  have:¬(j≤k∧k<j):=by omega
  simp[this]
 | x::L,j,cs,h,k=>by
  rw[List.length_cons] at h;rw[List.zipIdx_cons,List.foldl_cons,sw L (j+1) _ (by simp;omega) k];dsimp only
  by_cases h1:j=k
  · subst h1
    rw[if_neg (by omega),if_pos (by simp),Array.getElem?_setIfInBounds_self_of_lt (by omega)];simp
  · by_cases h2:j≤k∧k<j+(L.length+1)
    · rw[if_pos (by omega),if_pos (by simpa using h2),show k - j=(k - (j+1))+1 by omega,List.getElem?_cons_succ]
    · rw[if_neg (by omega),if_neg (by simpa using h2),Array.getElem?_setIfInBounds_ne h1]
theorem FX {Y Z:Array Value} (hZ:Z.size=Y.size):Array.foldl (λ(cs:Array Value) x=>cs.setIfInBounds x.2 x.1) Z Y.zipIdx 0 Y.size=Y:=by
 have e0:Array.foldl (λ(cs:Array Value) x=>cs.setIfInBounds x.2 x.1) Z Y.zipIdx 0 Y.size=(Y.toList.zipIdx 0).foldl (λ(cs:Array Value) x=>cs.setIfInBounds x.2 x.1) Z:=by
  rw[show Y.size=Y.zipIdx.size by simp,←Array.foldl_toList];simp
 rw[e0]
 refine Array.ext_getElem? λk=>?_
 rw[sw Y.toList 0 _ (by simp[hZ]) k]
 by_cases hk:k<Y.size
 · rw[if_pos (by simp;omega)]
   simp
 · rw[if_neg (by simp;omega),Array.getElem?_eq_none (by omega),Array.getElem?_eq_none (by omega)]
set_option maxRecDepth 8000 in
theorem zQ {X : Nat → Prop} {B : Nat} {a b1 b2 : Nat} {pv : Value} {S : dc} {D : Nat → Prop} (w : World) (h : bw B w a b1 b2 pv S) (i : Nat) (v : Value) (bs : List UInt8) (hv : CV D w v (aH bs)) (hc : -9223372036854775807 ≤ S.calls ∧ S.calls ≤ 9223372036854775807) (hi : FB S i = 0) (hl : bs.length ≤ 64) (hp : zg S = true) (TG : ∀ b, D b → b ≠ a) (hX : ∀ b, X b → b ≠ a ∧ b ≠ b1 ∧ b ≠ b2 ∧ pv.ownBlock ≠ some b) (N2 : S.pend.length ≤ 100000) :
 Calls Tryz.prog 43 #[.pointer (some ⟨a,0,none⟩),.int .i64 i,v] w λe w'=>e=.returned (.int .i64 0)∧(∃GM,bw B w' a b1 b2 GM {gh S with now:=mO (gh S).now i (jV bs),pend:=(gh S).pend++[(i,jV bs)] })∧KD X B w w':=by
 have HU:=λW (hW:Below w.heap.size w W)=>E9 W (h.below hW zr) i
 have HP:=λW (hW:Below w.heap.size w W)=>sV W (h.below hW zr) hc
 rw[hi] at HU
 rw[hp] at HP
 obtain⟨p,c,rfl,U7,U8⟩:=hv.shape
 rw[ak] at U7 U8
 have hl2:¬(64:Int)<(bs.length:Int):=by omega
 rw[ak] at *
 go_enter Tryz.func43,Tryz.ntmps43
 go_upto_region 9 with(first
  | (go_at_call 87;refine(HP _ (zb _)).mono ?_;rintro e w1 ⟨rfl,Fk,k,u,rfl⟩)
  | (go_at_call 81;refine(HU _ (zb _)).mono ?_;rintro e w1 ⟨rfl,rfl⟩))
 have hG:=(heap_alloc_new (w1.setCell ⟨a,k,none⟩ u) (.cells xO 145)).trans (congrArg (λz=>some (Obj.cells z 145 (0,0))) G5)
 have fc:=(zb (w1.setCell ⟨a,k,none⟩ u)).alloc zr (.cells xO 145)
 have Lu:=Fk.below fc zr
 have rH:=(hv.set (a:=⟨a,k,none⟩) (λb hb=>TG b hb) u).below fc zr
 have hz1:(w1.setCell ⟨a,k,none⟩ u).heap.size=w1.heap.size:=by simp[World.setCell]
 rw[hz1] at hG fc
 generalize (w1.setCell ⟨a,k,none⟩ u).alloc (.cells xO 145)=W2 at *
 obtain⟨X1,hX1⟩:∃X1,aH bs=X1:=⟨_,rfl⟩
 rw[hX1] at rH
 have DF:X1.length=bs.length:=by rw[←hX1,ak]
 have Gc:∀v∈X1,v.oneCell'=true:=λv hv=>by
  rw[←hX1] at hv;obtain⟨b,_,rfl⟩:=List.mem_map.1 hv
  rfl
 have hsrc:=zh (show 0<X1.length→∃ad,p=some ad∧∀j v,X1[j]? =some v→W2.cell? (ad.add j)=some v from λh0=>by
  obtain⟨p',c',e1,_,_,e4⟩:=rH;injection e1 with e1;subst e1;rcases e4 with e4|⟨b,o,e5,_,_,e7⟩
  · rw[e4] at h0;simp at h0
  · exact⟨⟨b,o,none⟩,e5,λj v hj=>by rw[eH];exact e7 j v hj⟩)
 have hX1:=zh hX1
 have DF:=zh DF
 have Gc:=zh Gc
 clear hv rH
 go_upto_region 10 with(refine wpList_copy_splice (o:=⟨some 23,_,_,_,_,_⟩) rfl (.tmp 21) (.tmp 22) 38 38 rfl 5 Tryz.underlying38 (by kernel_rfl) _ _ 64 64 bs.length c rfl rfl w1.heap.size 0 _ 145 hG X1 (DF.out.trans (Nat.min_eq_left hl).symm) (λh0=>⟨rfl,hsrc.out h0⟩) (by rw[DF.out,ak,List.length_replicate];omega) Gc.out w1.heap.size _ fc zr ?_;intro W3 Rp eV)
 obtain⟨Y,hY⟩:∃Y,(aH (jV bs)).toArray=Y:=⟨_,rfl⟩
 have Rq:W3.heap[w1.heap.size]? =some (.cells Y 145 (0,0)):=by rw[Rp.out,←hX1.out,zC bs hl,hY]
 have Gd:Y.size=64:=by rw[←hY];simp[ak,xl bs hl]
 have Up:∀v∈Y.toList,v.oneCell'=true:=λv hv=>by
  rw[←hY] at hv;obtain⟨b,_,rfl⟩:=List.mem_map.1 hv
  rfl
 have Ed:B≤w1.heap.size:=by have:=(h.lt (.inl rfl));omega
 have hDlt:∀b,(b=a∨b=b1∨b=b2∨pv.ownBlock=some b)→b<w1.heap.size:=λb hb=>(h.lt hb).2
 have Fl:=Fk.below eV (by rw[hz1];exact nl _)
 have hin:i<S.n:=by
  unfold FB at hi;split at hi
  · cases hi
  · split at hi
    · omega
    · cases hi
 have CI:(gh S).n=S.n:=by unfold gh;split<;>rfl
 have vV:KD X B w1 W3:=((KD.refl X B w1).put (k:=k) h.head (.inl rfl) h.hB.1 (λhx=>(hX _ hx).1 rfl) u).trans (KD.ai eV (by rw[hz1];exact nl _) Ed)
 have Jz:(i:Int)<(S.n:Int):=by omega
 have yy:=Fl.ln
 have hpl:=xl bs hl
 have Pf:w1.heap.size≠b2:=λe=>by have:=hDlt b2 (.inr (.inr (.inl rfl)));omega
 have Pk:(gh S).pend=S.pend:=by unfold gh;split<;>rfl
 generalize Kk:gh S=PS at *
 have Kk:=zh Kk
 have hY:=zh hY
 clear h HU HP Fk Lu fc hG Rp hsrc hX1 DF Gc
 go_frame
 refine cF (D:=λ_=>True) (w:=W3) 7 [(0,vP a 0),(1,vI i),(8,vP w1.heap.size 0)] [vP a 0,vP a 0,vP a 1,.eq (.slice (some ⟨b2,0,none⟩) S.n PS.nc),vI i,.eq (.agg Y),vP b2 (i * 64)]
  (λw'=>bw B w' a b1 b2 pv PS∧w'.heap[w1.heap.size]? =some (.cells Y 145 (0,0))∧KD X B w1 w')
  (λw'=>bw B w' a b1 b2 pv {PS with now:=mO PS.now i (jV bs) }∧w'.heap[w1.heap.size]? =some (.cells Y 145 (0,0))∧KD X B w1 w') (by kernel_rfl) rfl rfl
  (λw w' h hb=>⟨h.1.below hb zr,ag h.2.1 hb,h.2.2.trans (KD.ai hb zr (Nat.le_trans Ed h.2.2.cV.size))⟩) ⟨Fl.below (zb W3).drew zr,Rq,vV.trans (KD.ai (zb W3).drew zr (Nat.le_trans Ed vV.cV.size))⟩ ⟨rfl,rfl,rfl,trivial⟩ ?_ ?_ ?_
 · iterate 7
    refine And.intro ?_ ?_
    · first
      | exact iU rfl rfl (by kernel_rfl)
      | exact ic rfl (by kernel_rfl) rfl rfl
      | exact gQ rfl (by kernel_rfl) rfl rfl (λw=>by simp[go_sem])
      | exact dV rfl (by kernel_rfl) rfl rfl (λw hS=>bT hS.2.1 Tryz.underlying145 (by rw[Gd];kernel_rfl))
      | exact dV rfl (by kernel_rfl) rfl rfl (λw hS=>by have c1:=lG hS.1.head;rw[CI] at c1;simp[go_sem,c1])
      | exact iQ rfl (by kernel_rfl) rfl rfl rfl (λw=>by simp[go_sem,Jz])
   exact trivial
 · intro a' wx hS hV hout next hn
   have e1:a'.eval (.tmp 30)=.pointer (some ⟨b2,i * 64,none⟩):=hV 6 _ 30 (by decide) rfl rfl;have e2:a'.eval (.tmp 29)=.agg Y:=hV 5 _ 29 (by decide) rfl rfl;have hst:=bK (P:=Tryz.prog) (T:=145) (o:=i * 64) (Y:=Y) hS.1.now (by rw[Gd];kernel_rfl) (by simp[Gd,va0,ak,yy,CI];omega) Up;refine aY rfl e1 e2 hst (hn _ _ ?_);have dL:=hS.1.J2 (S':={PS with now:=mO PS.now i (jV bs) }) rfl (xo hS.1.ln (by rw[CI];exact hin) hpl);have hrow:((va0 PS).toArray.toList.take (i * 64)++Y.toList++(va0 PS).toArray.toList.drop (i * 64+Y.size)).toArray=(va0 {PS with now:=mO PS.now i (jV bs) }).toArray:=by
    rw[←va2 hpl (by rw[CI];exact hin) hS.1.ln,Gd,←hY.out]
   rw[hrow];exact⟨dL,(setRow_other wx b2 _ _ Pf).trans hS.2.1,hS.2.2.row hS.1.now (.inr (.inl rfl)) hS.1.hB.2.2 (λhx=>(hX _ hx).2.2.1 rfl) _⟩
 · intro ax wx oO
   simp only[pq,pz,pw];clear Fl Rq vV yy;obtain⟨z8,TM,Ky⟩:=oO;obtain⟨PT,Kl⟩:∃PT,({PS with now:=mO PS.now i (jV bs) }:dc)=PT:=⟨_,rfl⟩
   rw[Kl] at z8;have CF:PT.n=S.n:=by rw[←Kl];exact CI
   have Ue:PT.pend=PS.pend:=by rw[←Kl]
   have Kl:=zh Kl;obtain⟨C,hC⟩:∃C,#[Value.int .i64 i]++Y=C:=⟨_,rfl⟩
   have OP:C.size=65:=by rw[←hC];simp[Gd]
   have NH:C.toList=.int .i64 i::aH (jV bs):=by rw[←hC,←hY.out];simp
   have NG:∀v∈C.toList,v.oneCell'=true:=λv hv=>by
    rw[NH] at hv;rcases List.mem_cons.1 hv with rfl|hv
    · rfl
    · obtain⟨b,_,rfl⟩:=List.mem_map.1 hv
      rfl
   have hC:=zh hC;obtain⟨i0,kN,hz0,hz1,hz2⟩:=aV yI;have UP:PT.pend.length≤100000:=by rw[Ue,Pk];exact N2
   go_upto_region 11 with fail;refine q8 (D:=λ_=>True) (w:=wx) 9 12 [0,10,11] [(0,vP a 0),(1,vI i),(8,vP w1.heap.size 0)] [vP a 0,vP a 0,vP a 0,vP a 2,.eq pv,vI i,.eq (.agg Y),.eq (.agg C),.prop λw v=>∃g,v=.slice (some ⟨g,0,none⟩) 1 1∧w.heap[g]? =some (.cells C 147 (0,0)),.prop λ_ _=>True,vP a 0,vP a 2]
    (λw'=>bw B w' a b1 b2 pv PT∧w'.heap[w1.heap.size]? =some (.cells Y 145 (0,0))∧KD X B w1 w')
    (λv w'=>w'.ownsRow B 147 65 v (PT.pend.length+1) (jW PT.pend++C.toList))
    (λw'=>w'.heap[a]? =some (.cells (zZ b1 b2 pv PT) 133 (0,0))∧w'.heap[b1]? =some (.cells (aH PT.iY).toArray 145 (0,0))∧w'.heap[b2]? =some (.cells (va0 PT).toArray 145 (0,0))∧KD X B w1 w')
    (λw'=>∃GM,bw B w' a b1 b2 GM {PT with pend:=PT.pend++[(i,jV bs)] }∧KD X B w1 w') (by kernel_rfl) rfl rfl rfl rfl
    (λw w' h hb=>⟨h.1.below hb zr,ag h.2.1 hb,h.2.2.trans (KD.ai hb zr (Nat.le_trans Ed h.2.2.cV.size))⟩) (λv w w' h hb=>aT h hb zr) (λw w' h hb=>⟨ag h.1 hb,ag h.2.1 hb,ag h.2.2.1 hb,h.2.2.2.trans (KD.ai hb zr (Nat.le_trans Ed h.2.2.2.cV.size))⟩)
    ⟨z8.below (zb wx).drew zr,TM,Ky.trans (KD.ai (zb wx).drew zr (Nat.le_trans Ed Ky.cV.size))⟩ ⟨rfl,rfl,rfl,trivial⟩ ?_ ?_ ?_ ?_ ?_
   · iterate 7
      refine And.intro ?_ ?_
      · first
        | exact iU rfl rfl (by kernel_rfl)
        | exact ic rfl (by kernel_rfl) rfl rfl
        | exact gQ rfl (by kernel_rfl) rfl rfl (λw=>by simp[go_sem])
        | exact dV rfl (by kernel_rfl) rfl rfl (λw hS=>bT hS.2.1 Tryz.underlying145 (by rw[Gd];kernel_rfl))
        | exact dV rfl (by kernel_rfl) rfl rfl (λw hS=>by have c1:=lG hS.1.head;simp[go_sem,c1])
     refine And.intro ?_ (And.intro ?_ trivial)
     · exact B5 (.tmp 36) (.tmp 37) (by kernel_rfl) rfl rfl rfl (λev w hS h1 h2=>by
        rw[←hC.out];unfold execOp;simp[h1,h2,go_sem];rw[if_neg (by simp[Gd]),K9 Gd]
        rfl)
     · refine rQ [(.tmp 38,.eq (.agg C))] (by kernel_rfl) rfl rfl (λa w Q hS hi next hnx=>?_)
       have h1:a.eval (.tmp 38)=.agg C:=hi (.tmp 38,.eq (.agg C)) (by simp);have hrun:(Instr.buildSlice 131 1 #[(0,.agg C)]).run Tryz.prog w=.ok (.slice (some ⟨w.heap.size,0,none⟩) 1 1) (w.alloc (.cells C 147)):=by
        simp[go_sem];rw[if_neg (by simp[OP]),FX (by rw[OP];rfl)];simp[go_sem]
       refine tC rfl h1 hrun ?_;exact hnx _ _ (λw' hb=>⟨_,rfl,(hb.block _ (aj (heap_alloc_new w _))).trans (heap_alloc_new w _)⟩) ((zb w).alloc zr _)
   · refine⟨⟨_,rfl,_,.tmp 0,_,rfl,rfl,λev w h=>by unfold execOp;simp[h,go_sem]⟩,⟨_,rfl,_,.tmp 31,_,rfl,rfl,λev w h=>by unfold execOp;simp[h,go_sem]⟩,⟨_,rfl,_,.tmp 41,_,rfl,rfl,λev w h=>by unfold execOp;simp[h,go_sem]⟩,trivial⟩
   · intro IQ w2 hS hV next hn
     have K8:IQ.eval (.tmp 35)=pv:=hV 4 _ 35 (by decide) (by decide) rfl rfl;obtain⟨g,Ot,hg⟩:=hV 8 _ 39 (by decide) (by decide) rfl rfl w2 (zb _);have hBw:B≤w2.heap.size:=Nat.le_trans Ed hS.2.2.cV.size;obtain⟨v',w',hr,h2,h3,h4⟩:=eG (P:=Tryz.prog) w2 B 131 131 147 i0 _ 65 72 (by kernel_rfl) kN hz0 hz1 hz2 (by kernel_rfl) (by decide) pv PT.pend.length _ hS.1.pend ⟨g,0,none⟩ 1 1 C.toList (by simp[OP]) (λj u hj=>by
      rw[eH];refine(af hg (0+j)).trans ?_
      simpa using hj) NG (by decide) (by unfold maxLen;omega) (by omega) hBw
     obtain⟨p1,p2,p3⟩:=hS.1.parts;have hrow:∀r,pv.ownBlock=some r→B≤r∧¬X r∧∃cs,w2.heap[r]? =some (.cells cs 147 (0,0)):=λr hr=>by
      rcases hS.1.pend.2 with⟨e,_⟩|⟨g',cap,cur,e,hb,tZ,_⟩
      · rw[e] at hr;cases hr
      · rw[e] at hr
        simp only[Value.ownBlock,Option.some.injEq] at hr;subst hr;exact⟨hb,λhx=>(hX _ hx).2.2.2 (by rw[e];rfl),_,tZ⟩
     refine mU rfl K8 Ot hr (hn _ _ h2 ⟨(h3.block a (aj hS.1.head) λe=>(p3 a e.symm).1 rfl).trans hS.1.head,(h3.block b1 (aj hS.1.iY) λe=>(p3 b1 e.symm).2.1 rfl).trans hS.1.iY,(h3.block b2 (aj hS.1.now) λe=>(p3 b2 e.symm).2.2 rfl).trans hS.1.now,hS.2.2.grown h3 hBw hrow⟩)
   · intro IQ w2 hS PD Ft next hn
     have NC:=PD 40 rfl;have Tp:IQ.eval (.tmp 42)=.pointer (some ⟨a,2,none⟩):=Ft 11 _ 42 rfl rfl;generalize To:IQ.eval (.tmp 40)=nv at NC;obtain⟨q,cq,rfl⟩:=aJ NC;have c1:=lG hS.1;have hst:(Instr.storeAt 131 (.pointer (some ⟨a,2,none⟩)) (.slice q (PT.pend.length+1) cq)).run Tryz.prog w2=.ok () (w2.setCell ⟨a,2,none⟩ (.slice q (PT.pend.length+1) cq)):=by simp[go_sem,c1]
     refine aY rfl Tp To hst (hn _ _ ⟨_,⟨heap_setCell_same w2 a 2 _ _ _ hS.1,(heap_setCell_other w2 ⟨a,2,none⟩ b1 _ ?_).trans hS.2.1,(heap_setCell_other w2 ⟨a,2,none⟩ b2 _ ?_).trans hS.2.2.1,z8.ne,z8.ld,z8.ln,?_,?_,z8.hn,z8.hB⟩,hS.2.2.2.put hS.1 (.inl rfl) z8.hB.1 (λhx=>(hX _ hx).1 rfl) _⟩)
     · exact λe=>z8.parts.1 e.symm
     · exact λe=>z8.parts.2.1 e.symm
     · have hpe:jW (PT.pend++[(i,jV bs)])=jW PT.pend++C.toList:=by rw[NH];simp[jW]
       rw[hpe];dsimp only;rw[List.length_append,List.length_singleton];refine aG NC λg hg=>heap_setCell_other w2 ⟨a,2,none⟩ g _ λe=>?_
       rcases NC.2 with⟨e1,_⟩|⟨g',cap,cur,e1,hb,tZ,_⟩
       · rw[e1] at hg;cases hg
       · rw[e1] at hg
         simp only[Value.ownBlock,Option.some.injEq] at hg;subst hg;subst e;rw[hS.1] at tZ;cases tZ
     · intro x hx
       dsimp only at hx ⊢;rcases List.mem_append.1 hx with hx|hx
       · exact z8.pl x hx
       · obtain rfl:=List.mem_singleton.1 hx
         exact⟨by rw[CF];exact hin,hpl⟩
   · rintro IQ w2 ⟨GM,yl,CG⟩
     simp only[pq,pz,pw];rw[←Kl.out] at yl;dsimp only at yl;rw[←Kk.out] at yl;go_wp2_with fail;go_ret;exact⟨rfl,⟨GM,yl⟩,CG⟩
theorem yJ:(Tryz.prog.info? 145).map (λi=>(i.zero,i.size,i.bytes))=some (some (.agg xO),64,64):=by kernel_rfl
theorem zR (n:Nat):madeCells (Value.agg xO).cells (n * 64)=(aH (List.replicate (n * 64) 0)).toArray:=by
 have hz:(Value.agg xO).cells=(List.replicate 64 (Value.int .u8 0)).toArray:=by rfl
 rw[hz]
 have h4:∀(L:List Value) (i:Nat),L=List.replicate 64 (Value.int .u8 0)→(L.toArray[i % L.toArray.size]!)=Value.int .u8 0:=λL i hL=>by
  have h5:L.toArray.size=64:=by rw[hL];simp
  have h3:i % 64<64:=Nat.mod_lt _ (by decide);rw[h5,getElem!_def,List.getElem?_toArray,hL,List.getElem?_replicate,if_pos h3]
 unfold madeCells aH
 refine Array.ext_getElem? λi=>?_
 rw[Array.getElem?_map]
 refine Eq.trans ?_ ((List.getElem?_toArray ..).trans ((List.getElem?_map ..).trans (congrArg _ (List.getElem?_replicate ..)))).symm
 by_cases h:i<n * 64
 · rw[if_pos h,Array.getElem?_range,if_pos h]
   exact congrArg some (h4 _ i rfl)
 · rw[if_neg h,Array.getElem?_range,if_neg h]
   rfl
theorem uD (n:Nat) (h:n≤65536) (W:World):(Instr.makeSlice 130 (.int .i64 n) (.int .i64 n)).run Tryz.prog W=.ok (.slice (some ⟨W.heap.size,0,none⟩) n n) (W.alloc (.cells (aH (List.replicate (n * 64) 0)).toArray 145)):=by
 obtain⟨i0,kN,hz0,hz1,hz2⟩:=aV yJ
 have hr:=run_make (P:=Tryz.prog) W 130 145 i0 _ (by kernel_rfl) kN hz0 .i64 .i64 n n (by omega) (by omega) (by rw[hz2];omega) (by omega)
 simp only[Int.toNat_natCast] at hr
 rw[hr,hz1,zR]
abbrev oZ (n:Nat):dc:=⟨n,List.replicate (n * 64) 0,List.replicate (n * 64) 0,[],false,false,0,n,[]⟩
theorem Ng {α:Type} (h:Array α) (x y z:α):(((h.push x).push y).push z)[h.size+1+1]? =some z:=by
 have:((h.push x).push y).size=h.size+1+1:=by simp
 rw[←this,Array.getElem?_push_size]
theorem Iy {α:Type} (h:Array α) (x y z:α):(((h.push x).push y).push z)[h.size+1]? =some y:=by
 have:(h.push x).size=h.size+1:=by simp
 rw[Array.getElem?_push,if_neg (by simp),←this,Array.getElem?_push_size]
theorem Iw {α:Type} (h:Array α) (x y z:α):(((h.push x).push y).push z)[h.size]? =some x:=by
 rw[Array.getElem?_push,if_neg (by simp;omega),Array.getElem?_push,if_neg (by simp),Array.getElem?_push_size]
theorem r9 (w:World) (n:Nat) (hn:64≤n∧n≤65536) {b1 b2:Nat} (hb:(b1=w.heap.size∧b2=w.heap.size+1)∨(b1=w.heap.size+1∧b2=w.heap.size)) {Z:Array Value} (hZ:(aH (List.replicate (n * 64) 0)).toArray=Z):
 bw w.heap.size (((w.alloc (.cells Z 145)).alloc (.cells Z 145)).alloc (.cells #[.slice (some ⟨b1,0,none⟩) n n,.slice (some ⟨b2,0,none⟩) n n,.slice none 0 0,.bool false,.bool false,.int .i64 0] 133)).drew (w.heap.size+1+1) b1 b2 (.slice none 0 0) (oZ n)∧
 Below w.heap.size w (((w.alloc (.cells Z 145)).alloc (.cells Z 145)).alloc (.cells #[.slice (some ⟨b1,0,none⟩) n n,.slice (some ⟨b2,0,none⟩) n n,.slice none 0 0,.bool false,.bool false,.int .i64 0] 133)).drew:=by
 have hh:∀x y z:Obj,(((w.alloc x).alloc y).alloc z).drew.heap=((w.heap.push x).push y).push z:=λ_ _ _=>rfl
 have hp:∀(u:World) (x:Obj),(u.alloc x).heap=u.heap.push x:=λ_ _=>rfl
 subst hZ
 refine⟨⟨?_,?_,?_,?_,?_,?_,?_,?_,hn,?_⟩,((((zb w).alloc zr _).alloc (by simp[hp]) _).alloc (by simp[hp];omega) _).drew⟩
 · rw[hh,Ng];rfl
 · rw[hh]
   rcases hb with⟨rfl,rfl⟩|⟨rfl,rfl⟩
   · exact Iw ..
   · exact Iy ..
 · rw[hh]
   rcases hb with⟨rfl,rfl⟩|⟨rfl,rfl⟩
   · exact(Iy ..).trans (congrArg (λz=>some (Obj.cells (List.toArray z) 145 (0,0))) (List.append_nil _).symm)
   · exact(Iw ..).trans (congrArg (λz=>some (Obj.cells (List.toArray z) 145 (0,0))) (List.append_nil _).symm)
 · omega
 · simp
 · simp
 · exact⟨by simp[jW],.inl ⟨rfl,rfl⟩⟩
 · intro x hx;cases hx
 · omega
set_option maxRecDepth 8000 in
theorem wY (n:Nat) (hn:64≤n∧n≤65536) (w:World):Calls Tryz.prog 31 #[.int .i64 n] w λe w'=>(∃a b1 b2,e=.returned (.tuple #[.pointer (some ⟨a,0,none⟩),.int .i64 0])∧bw w.heap.size w' a b1 b2 (.slice none 0 0) (oZ n))∧Below w.heap.size w w':=by
 have HW:=λW=>qX n 64 65536 W
 rw[show(decide ((64:Int)≤(n:Int))&&decide ((n:Int)≤65536))=true by simp;omega] at HW
 have hmk:=uD n hn.2
 obtain⟨Z,hZ⟩:∃Z,(aH (List.replicate (n * 64) 0)).toArray=Z:=⟨_,rfl⟩
 rw[hZ] at hmk
 have hZ:=zh hZ
 go_enter Tryz.func31,Tryz.ntmps31
 go_upto_region 3 with(go_at_call 65;refine(HW _).mono ?_;rintro e w1 ⟨rfl,rfl⟩)
 go_region
 · go_wp2_with fail
   refine bodyPost_ret (v:=.tuple #[.pointer (some ⟨w1.heap.size+1+1,0,none⟩),.int .i64 0]) (by simp[results,Tryz.results31,go_sem]) rfl ?_;have hx:=r9 w1 n hn (.inl ⟨rfl,rfl⟩) hZ.out;exact⟨⟨_,_,_,rfl,hx.1⟩,hx.2⟩
 · go_wp2_with fail
   refine bodyPost_ret (v:=.tuple #[.pointer (some ⟨w1.heap.size+1+1,0,none⟩),.int .i64 0]) (by simp[results,Tryz.results31,go_sem]) rfl ?_;have hx:=r9 w1 n hn (.inr ⟨rfl,rfl⟩) hZ.out;exact⟨⟨_,_,_,rfl,hx.1⟩,hx.2⟩
theorem bw.J1 {B:Nat} {w:World} {a b1 b2:Nat} {pv:Value} {S S':dc} (h:bw B w a b1 b2 pv S) (hS:S'={S with iY:=S'.iY }) (hl:S'.iY.length=S.n * 64):bw B (w.setRow b1 (aH S'.iY).toArray) a b1 b2 pv S':=by
 obtain⟨p1,p2,p3⟩:=h.parts
 have ho:∀b,b≠b1→(w.setRow b1 (aH S'.iY).toArray).heap[b]? =w.heap[b]? :=λb hb=>setRow_other w b1 b _ hb
 rw[hS]
 exact⟨(ho a p1).trans h.head,setRow_heap w b1 _ _ _ _ h.iY,(ho b2 h.ne.symm).trans h.now,h.ne,hl,h.ln,aG h.pend λg hg=>ho g (p3 g hg).2.1,h.pl,h.hn,h.hB⟩
theorem bw.drop {B:Nat} {w:World} {a b1 b2:Nat} {pv:Value} {S:dc} (h:bw B w a b1 b2 pv S):bw B (w.setCell ⟨a,2,none⟩ (.slice none 0 0)) a b1 b2 (.slice none 0 0) {S with pend:=[] }:=by
 obtain⟨p1,p2,p3⟩:=h.parts
 have ho:∀b,b≠a→(w.setCell ⟨a,2,none⟩ (.slice none 0 0)).heap[b]? =w.heap[b]? :=λb hb=>heap_setCell_other w ⟨a,2,none⟩ b _ hb
 exact⟨heap_setCell_same w a 2 _ _ _ h.head,(ho b1 p1.symm).trans h.iY,(ho b2 p2.symm).trans h.now,h.ne,h.ld,h.ln,⟨by simp[jW],.inl ⟨rfl,rfl⟩⟩,(λx hx=>absurd hx List.not_mem_nil),h.hn,h.hB⟩
def AX (x:Nat×List UInt8):List Value:=.int .i64 (x.1:Int)::aH x.2
theorem zY {x:Nat×List UInt8} (h:x.2.length=64):(AX x).length=65:=by simp[AX,ak,h]
theorem FK (x:Nat×List UInt8):∀v∈(AX x).toArray.toList,v.oneCell'=true:=λv hv=>by
 rw[List.toList_toArray] at hv
 rcases List.mem_cons.1 hv with rfl|hv
 · rfl
 · obtain⟨b,_,rfl⟩:=List.mem_map.1 hv
   rfl
theorem sU:∀(l:List (Nat×List UInt8)),(∀x∈l,x.2.length=64)→∀(k:Nat) (x:Nat×List UInt8),l[k]? =some x→∀(j:Nat) (v:Value),(AX x)[j]? =some v→(jW l)[k * 65+j]? =some v
 | [],_,k,x,hk,_,_,_=>by simp at hk
 | y::t,hl,0,x,hk,j,v,hj=>by
  obtain rfl:y=x:=by simpa using hk
  rw[Nat.zero_mul,Nat.zero_add]
  show(AX y++jW t)[j]? =some v
  rw[List.getElem?_append_left (List.getElem?_eq_some_iff.1 hj).1];exact hj
 | y::t,hl,k+1,x,hk,j,v,hj=>by
  have hy:=zY (hl y (by simp))
  show(AX y++jW t)[(k+1) * 65+j]? =some v
  rw[List.getElem?_append_right (by omega),hy,show(k+1) * 65+j - 65=k * 65+j by omega];exact sU t (λx hx=>hl x (by simp[hx])) k x (by simpa using hk) j v hj
def lJ (S:dc) (k:Nat):List UInt8:=(S.pend.take k).foldl (λd x=>mO d x.1 x.2) S.iY
theorem A3 (S:dc):lJ S 0=S.iY:=by simp[lJ]
theorem A2 {S:dc} {k:Nat} {x:Nat×List UInt8} (h:S.pend[k]? =some x):lJ S (k+1)=mO (lJ S k) x.1 x.2:=by
 unfold lJ
 rw[List.take_add_one,h]
 simp
set_option maxRecDepth 8000 in
theorem yj {X:Nat→Prop} {B:Nat} {a b1 b2:Nat} {pv:Value} {S:dc} (w:World) (h:bw B w a b1 b2 pv S) (hc: -9223372036854775807≤S.calls∧S.calls≤9223372036854775807) (hi:FB S 0=0) (hp:zg S=true) (N2:S.pend.length≤100000) (hX:∀b,X b→b≠a∧b≠b1):
 Calls Tryz.prog 44 #[.pointer (some ⟨a,0,none⟩)] w λe w'=>e=.returned (.int .i64 0)∧bw B w' a b1 b2 (.slice none 0 0) {gh S with iY:=lJ (gh S) S.pend.length,pend:=[] }∧KD X B w w':=by
 have HU:=λW (hW:Below w.heap.size w W)=>E9 W (h.below hW zr) 0
 have HP:=λW (hW:Below w.heap.size w W)=>sV W (h.below hW zr) hc
 rw[hi] at HU
 rw[hp] at HP
 obtain⟨p,cp,rfl⟩:=aJ h.pend
 have Pk:(gh S).pend=S.pend:=by unfold gh;split<;>rfl
 have CI:(gh S).n=S.n:=by unfold gh;split<;>rfl
 have hk0:∀k u,KD X B w (w.setCell ⟨a,k,none⟩ u):=λk u=>(KD.refl X B w).put (k:=k) h.head (.inl rfl) h.hB.1 (λhx=>(hX _ hx).1 rfl) u
 have Ed:B≤w.heap.size:=by have:=(h.lt (.inl rfl));omega
 go_enter Tryz.func44,Tryz.ntmps44
 go_upto_region 6 with(first
  | (go_at_call 87;refine(HP _ (zb _)).mono ?_;rintro e w1 ⟨rfl,Fk,k,u,rfl⟩)
  | (go_at_call 81;refine(HU _ (zb _)).mono ?_;rintro e w1 ⟨rfl,rfl⟩))
 have hk1:=hk0 k u
 have hz1:(w1.setCell ⟨a,k,none⟩ u).heap.size=w1.heap.size:=by simp[World.setCell]
 generalize Kk:gh S=PS at *
 have Kk:=zh Kk
 generalize (w1.setCell ⟨a,k,none⟩ u)=W2 at *
 have c1:=lG Fk.head
 generalize hL:S.pend.length=L at *
 have Wa:PS.pend.length=L:=by rw[Pk,hL]
 have hL:=zh hL
 clear h HU HP hk0
 go_upto_region 7 with fail
 clear c1
 have hdl:(lJ PS 0)=PS.iY:=A3 PS
 go_loopw [19] (λy wx=>∃k:Nat,k≤L∧y=.int .i64 k∧bw B wx a b1 b2 (.slice p L cp) {PS with iY:=lJ PS k }∧KD X B w1 wx) (λy _=>L - (intOf y).toNat)
 case atStart=>exact⟨0,Nat.zero_le _,by go_num,by rw[hdl];exact Fk,hk1⟩
 case round =>
  obtain⟨k,hk,rfl,hD,hK⟩:=hrel;clear Fk hdl hk1
  by_cases hlt:k<L
  case neg=>
   obtain rfl:k=L:=by omega
   have c1:=lG hD.head;go_wp2_with fail;go_ret;have e:=hD.drop;dsimp only at e;rw[CI] at e;exact⟨rfl,e,hK.put (k:=2) hD.head (.inl rfl) hD.hB.1 (λhx=>(hX _ hx).1 rfl) _⟩
  case pos=>
   obtain⟨x,hx⟩:∃x,PS.pend[k]? =some x:=⟨_,List.getElem?_eq_getElem (by omega)⟩
   have uh:=hD.pl x (List.mem_of_getElem? hx);dsimp only at uh;obtain⟨g,rfl,hg⟩:∃g,p=some ⟨g,0,none⟩∧∀j u,(jW PS.pend)[j]? =some u→wr.cell? ((⟨g,0,none⟩:Addr).add j)=some u:=by
    have hp:=hD.pend;rcases hp.2 with⟨_,h0⟩|⟨g,cap,cur,e,_⟩
    · exfalso
      dsimp only at h0;omega
    · injection e with e1 _ _
      subst e1;exact⟨g,rfl,λj u hj=>hp.cells (g:=g) rfl j u hj⟩
   have xU:wr.rangeAt g (k * 65) (AX x):=λj v hj=>by
    have:=hg _ _ (sU PS.pend (λy hy=>(hD.pl y hy).2) k x hx j v hj)
    rwa [eH,Nat.zero_add] at this
   have hcl:=zY uh.2;have Jy:(Tryz.prog.info? 147).map (·.size)=some (AX x).length:=by rw[hcl];kernel_rfl
   have sA:(k:Int)<(L:Int):=by omega
   go_upto_region 9 with(first
    | (refine wpList_load_mid (op:=⟨some 22,_,_,_,_,_⟩) rfl 147 (.tmp 21) rfl g (k * 65) rfl (AX x) _ xU Tryz.underlying147 rfl Jy ?_)
    | (refine gj (o:=⟨none,_,_,_,_,_⟩) rfl (.tmp 5) (.tmp 22) rfl rfl rfl (bK (o:=0) (heap_alloc_new _ _) (by rw[List.size_toArray];exact Jy) (by rw[List.size_toArray,hcl];decide) (FK x)) ?_))
   generalize hW:World.setRow _ _ _=W3;have R9:W3.heap[wr.heap.size]? =some (.cells (AX x).toArray 147 (0,0)):=by
    rw[←hW];refine(cI _ _ _ _).1.trans (congrArg (λz=>some (Obj.cells z 147 (0,0))) ?_);rw[List.take_zero,List.nil_append,List.drop_eq_nil_of_le (by rw[List.size_toArray,hcl];decide),List.append_nil]
   have xT:Below wr.heap.size wr W3:=by
    rw[←hW];exact(cI _ _ _ _).2
   clear hW hg xU Jy hcl;have Fl:=hD.below xT zr;have hBw:B≤wr.heap.size:=Nat.le_trans Ed hK.cV.size;have rA:=hK.trans (KD.ai xT zr hBw);obtain⟨i,bs⟩:=x;obtain⟨hin,xS⟩:=uh;dsimp only at hin xS;have Jz:(i:Int)<(PS.n:Int):=by omega
   have hds:=A2 hx;dsimp only at hds;have hNb:∀b,(b=a∨b=b1∨b=b2)→wr.heap.size≠b:=λb hb e=>by
    have:=(hD.lt (b:=b) (by rcases hb with h|h|h;exact .inl h;exact .inr (.inl h);exact .inr (.inr (.inl h)))).2;omega
   simp only[Act.put];refine cF (D:=λ_=>True) (w:=W3) 9 [(0,vP a 0),(5,vP wr.heap.size 0)] [vP a 0,vP a 0,vP a 0,.eq (.slice (some ⟨b1,0,none⟩) PS.n PS.n),vP wr.heap.size 0,vI i,vP wr.heap.size 1,.eq (.agg (aH bs).toArray),vP b1 (i * 64)]
    (λw'=>bw B w' a b1 b2 (.slice (some ⟨g,0,none⟩) L cp) {PS with iY:=lJ PS k }∧w'.heap[wr.heap.size]? =some (.cells (AX (i,bs)).toArray 147 (0,0))∧KD X B w1 w')
    (λw'=>bw B w' a b1 b2 (.slice (some ⟨g,0,none⟩) L cp) {PS with iY:=lJ PS (k+1) }∧KD X B w1 w') (by kernel_rfl) rfl rfl
    (λw w' h hb=>⟨h.1.below hb zr,ag h.2.1 hb,h.2.2.trans (KD.ai hb zr (Nat.le_trans Ed h.2.2.cV.size))⟩) ⟨Fl.below (zb W3).drew zr,R9,rA.trans (KD.ai (zb W3).drew zr (Nat.le_trans Ed rA.cV.size))⟩ ⟨rfl,rfl,trivial⟩ ?_ ?_ ?_
   · refine⟨iU rfl rfl (by kernel_rfl),ic rfl (by kernel_rfl) rfl rfl,gQ rfl (by kernel_rfl) rfl rfl (λw=>by simp[go_sem]),?_,gQ rfl (by kernel_rfl) rfl rfl (λw=>by simp[go_sem]),?_,gQ rfl (by kernel_rfl) rfl rfl (λw=>by simp[go_sem]),?_,iQ rfl (by kernel_rfl) rfl rfl rfl (λw=>by simp[go_sem,Jz]),trivial⟩
     · exact dV rfl (by kernel_rfl) rfl rfl (λw hS=>by have c1:=lG hS.1.head;simp[go_sem,c1])
     · exact dV rfl (by kernel_rfl) rfl rfl (λw hS=>by have c1:w.cell? ⟨wr.heap.size,0,none⟩=some (.int .i64 i):=(af hS.2.1 0).trans (by simp[AX]);simp[go_sem,c1])
     · exact dV rfl (by kernel_rfl) rfl rfl (λw hS=>run_loadAt_mid w wr.heap.size 1 145 (aH bs) _ (λj v hj=>(af hS.2.1 (1+j)).trans (by rw[Nat.add_comm 1 j];simpa[AX] using hj)) Tryz.underlying145 rfl (by rw[ak,xS];kernel_rfl))
   · intro a' wx hS hV hout next hn
     have e1:a'.eval (.tmp 31)=.pointer (some ⟨b1,i * 64,none⟩):=hV 8 _ 31 (by decide) rfl rfl;have e2:a'.eval (.tmp 30)=.agg (aH bs).toArray:=hV 7 _ 30 (by decide) rfl rfl;have Bk:=hS.1.ld;dsimp only at Bk;have Gd:(aH bs).toArray.size=64:=by simp[ak,xS]
     have hst:=bK (P:=Tryz.prog) (T:=145) (o:=i * 64) (Y:=(aH bs).toArray) hS.1.iY (by rw[Gd];kernel_rfl) (by simp[ak,Bk,xS];omega) (λv hv=>by
      rw[List.toList_toArray] at hv;obtain⟨b,_,rfl⟩:=List.mem_map.1 hv
      rfl)
     refine aY rfl e1 e2 hst (hn _ _ ?_);have dL:=hS.1.J1 (S':={PS with iY:=mO (lJ PS k) i bs }) rfl (xo Bk hin xS);have hrow:((aH (lJ PS k)).toArray.toList.take (i * 64)++(aH bs).toArray.toList++(aH (lJ PS k)).toArray.toList.drop (i * 64+(aH bs).toArray.size)).toArray=(aH (mO (lJ PS k) i bs)).toArray:=by
      rw[←qF (lJ PS k) i bs xS];simp
     rw[hrow];rw[hds];exact⟨dL,hS.2.2.row hS.1.iY (.inr (.inl rfl)) hS.1.hB.2.1 (λhx=>(hX _ hx).2 rfl) _⟩
   · intro ax wx oO
     simp only[pq,pz,pw];clear hD Fl rA R9 xT hK hds;have hk1:(k:Int)+1≤9223372036854775807:=by omega
     go_wp2_with fail;exact⟨⟨k+1,hlt,by go_num,oO.1,oO.2⟩,by simp only[intOf];omega⟩
def qK (x:Obj):Prop:=∃cs t fl,x=.cells cs t fl∧t≠133∧t≠145∧t≠147∧t≠198
theorem qK.vG {x:Obj} (h:qK x):vG x:=by
 obtain⟨cs,t,fl,rfl,h1,h2,h3,_⟩:=h
 intro cs' t' Nv e
 cases e
 exact⟨h1,h2,h3⟩
theorem BF (es:Array MapEntry) (c:Nat):vG (.map es c):=λ_ _ _ e=>by cases e
theorem fH {cs:Array Value} {t:TypeId} {fl:Nat×Nat} (h:t≠133∧t≠145∧t≠147∧t≠198):qK (.cells cs t fl):=⟨cs,t,fl,rfl,h⟩
structure KS (B:Nat) (w w':World):Prop where
 cV:Below B w w'
 keep:∀(b:Nat) (x:Obj),w.heap[b]? =some x→(qK x∨∃es c,x=.map es c)→w'.heap[b]? =some x
theorem KS.trans {B:Nat} {a b c:World} (h:KS B a b) (h':KS B b c):KS B a c:=⟨h.cV.trans h'.cV,λx o e ho=>h'.keep x o (h.keep x o e ho) ho⟩
theorem KS.ai {B K:Nat} {a b:World} (h:Below K a b) (hK:a.heap.size≤K) (hB:B≤K):KS B a b:=⟨aa h hB,λx o e _=>(h.block x (by have:=aj e;omega)).trans e⟩
theorem KS.Ar {X:Nat→Prop} {B:Nat} {a b:World} (h:KD X B a b):KS B a b:=⟨h.cV,λx o e ho=>h.keep x o e (.inl (by
 rcases ho with ho|⟨es,c,rfl⟩
 · exact ho.vG
 · exact BF es c))⟩
theorem KS.put {B:Nat} {a b:World} (h:KS B a b) {g k:Nat} {cs:Array Value} (hg:b.heap[g]? =some (.cells cs 198 (0,0))) (hB:B≤g) (u:Value):KS B a (b.setCell ⟨g,k,none⟩ u):=
 ⟨h.cV.setCell (p := ⟨g, k, none⟩) hB u, fun x o e ho => by
  have e2:=h.keep x o e ho;refine(heap_setCell_other b ⟨g,k,none⟩ x u λe3=>?_).trans e2;subst e3;rw[hg] at e2;cases e2;rcases ho with⟨_,_,_,e4,_,_,_,h4⟩|⟨_,_,e4⟩
  · cases e4;exact h4 rfl
  · cases e4⟩
theorem KS.row {B:Nat} {a b:World} (h:KS B a b) {g:Nat} {cs:Array Value} (hg:b.heap[g]? =some (.cells cs 198 (0,0))) (hB:B≤g) (ds:Array Value):KS B a (b.setRow g ds):=
 ⟨below_setRow h.cV hB ds, fun x o e ho => by
  have e2:=h.keep x o e ho;refine(setRow_other b g x ds λe3=>?_).trans e2;subst e3;rw[hg] at e2;cases e2;rcases ho with⟨_,_,_,e4,_,_,_,h4⟩|⟨_,_,e4⟩
  · cases e4;exact h4 rfl
  · cases e4⟩
structure mX where
 at_:Nat
 last:List UInt8
 failed:Bool
def fZ (a:Nat) (L:mX):Array Value:=(.pointer (some ⟨a,0,none⟩)::.int .i64 (L.at_:Int)::(aH L.last++[.bool L.failed])).toArray
structure jH (w:World) (lg a:Nat) (L:mX):Prop where
 head:w.heap[lg]? =some (.cells (fZ a L) 198 (0,0))
 len:L.last.length=32
theorem jH.of_block {w w':World} {lg a:Nat} {L:mX} (h:jH w lg a L) (hb:w'.heap[lg]? =w.heap[lg]?):jH w' lg a L:=⟨hb.trans h.head,h.len⟩
theorem jH.below {w w':World} {lg a K:Nat} {L:mX} (h:jH w lg a L) (hb:Below K w w') (hK:w.heap.size≤K):jH w' lg a L:=h.of_block (hb.block lg (by have:=aj h.head;omega))
theorem mG (a:Nat) (L:mX) (h:L.last.length=32):(fZ a L)[0]? =some (.pointer (some ⟨a,0,none⟩))∧(fZ a L)[1]? =some (.int .i64 (L.at_:Int))∧(fZ a L)[34]? =some (.bool L.failed)∧(fZ a L).size=35:=by
 refine⟨rfl,rfl,?_,?_⟩
 · unfold fZ
   simp[ak,h]
 · unfold fZ
   simp[ak,h]
theorem jH.cells {w:World} {lg a:Nat} {L:mX} (h:jH w lg a L):w.cell? ⟨lg,0,none⟩=some (.pointer (some ⟨a,0,none⟩))∧w.cell? ⟨lg,1,none⟩=some (.int .i64 (L.at_:Int))∧w.cell? ⟨lg,34,none⟩=some (.bool L.failed):=by
 obtain⟨h1,h2,h3,_⟩:=mG a L h.len
 exact⟨(af h.head 0).trans h1,(af h.head 1).trans h2,(af h.head 34).trans h3⟩
theorem GD (a:Nat) (L:mX) (n:Nat):(fZ a L).setIfInBounds 1 (.int .i64 (n:Int))=fZ a {L with at_:=n }:=rfl
theorem BE (a:Nat) (L:mX) (ds:List UInt8) (h:L.last.length=32) (_hd:ds.length=32):((fZ a L).toList.take 2++aH ds++(fZ a L).toList.drop 34).toArray=fZ a {L with last:=ds }:=by
 unfold fZ
 congr 1
 simp only[List.take_succ_cons,List.take_zero,List.cons_append,List.nil_append,List.drop_succ_cons]
 rw[List.drop_append_of_le_length (by rw[ak,h];omega),List.drop_eq_nil_of_le (by rw[ak,h];exact nl _)]
 rfl
end Go.Proofs.YtemjidmkolfgnaaGreatDoor
