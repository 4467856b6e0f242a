/-
  Lemmas for the statement: contracts: of the package face: sig, raising, equals. Conditions: bounds of lengths; the variable strings.asciiSpace.
-/
import Derived.Laws.AppendOwnNone
import Derived.Test.YtemjidmkolfgnaaGreatDoorSBn
import Derived.Test.YtemjidmkolfgnaaGreatDoorSB16
set_option maxHeartbeats 3200000
namespace Go.Proofs.YtemjidmkolfgnaaGreatDoor
open Go.RowKit
theorem aV {t:TypeId} {z:Value} {n b:Nat} (h:(Tryz.prog.info? t).map (λi=>(i.zero,i.size,i.bytes))=some (some z,n,b)):∃i,Tryz.prog.info? t=some i∧i.zero=some z∧i.size=n∧i.bytes=b:=by
 cases hi:Tryz.prog.info? t with
 | none=>rw[hi] at h;simp at h
 | some i=>
  rw[hi] at h;simp only[Option.map_some,Option.some.injEq,Prod.mk.injEq] at h;exact⟨i,rfl,h.1,h.2.1,h.2.2⟩
theorem fL:(Tryz.prog.info? 9).map (λi=>(i.zero,i.size,i.bytes))=some (some (.string ⟨#[]⟩),1,16):=by kernel_rfl
theorem B7 (ss:List (List UInt8)):∀u∈aA ss,u.oneCell'=true:=by
 intro u hu
 obtain⟨s,_,rfl⟩:=List.mem_map.1 hu
 rfl
set_option maxRecDepth 4000 in
theorem Dj {D:Nat→Prop} (v:Value) (ss:List (List UInt8)) (w:World) (hv:SS D w v ss) (hn:ss.length≤100000):
 Calls Tryz.prog 19 #[v] w λe w'=>∃v',e=.returned v'∧w'.ownsRow w.heap.size 9 1 v' ss.length (aA ss)∧Below w.heap.size w w':=by
 obtain⟨i0,kN,hz0,hz1,hz2⟩:=aV fL
 obtain⟨p,c,rfl,hc,hm,hl,h4⟩:=hv
 have Bj:=λ(w:World) (a:Option Addr) (n c:Nat)=>Lib.run_eql_slice_nil (P:=Tryz.prog) w 31 9 a n c 0 0 dg
 cases p with
 | none=>
  obtain rfl:ss=[]:=by
   rcases h4 with h4|⟨b,o,e,_⟩
   · exact h4
   · cases e
  clear hc hm hl h4 hn;go_enter Tryz.func19,Tryz.ntmps19;go_wp2_with fail;go_ret;exact⟨_,rfl,World.ownsRow_nil _ _ _ _,zb _⟩
 | some a=>
  have hnew:∀j u,(aA ss)[j]? =some u→w.cell? (a.add j)=some u:=by
   intro j u hu;rcases h4 with rfl|⟨b,o,e,_,_,hcell⟩
   · simp[aA] at hu
   · injection e with e
     subst e;have hj:j<ss.length:=by
      have:=(List.getElem?_eq_some_iff.1 hu).1
      simpa[aA] using this
     rw[nT ss j hj] at hu;cases hu;rw[Go.WideShapes.add_plain];exact hcell j hj
  clear h4;have hE:(w.alloc (.cells #[] 9)).ownsRow w.heap.size 9 1 (.slice (some ⟨w.heap.size,0,none⟩) 0 0) 0 []:=
   ⟨rfl,.inr ⟨w.heap.size,0,#[],rfl,nl _,heap_alloc_new w _,nl _,Nat.zero_le _,rfl,rfl⟩⟩
  have DU:∀(j:Nat) (u:Value),(aA ss)[j]? =some u→(w.alloc (.cells #[] 9)).cell? (a.add j)=some u:=λj u hj=>
   Below.keep ((zb w).alloc zr _) (hnew j u hj)
  have hlen:(aA ss).length=ss.length * 1:=by simp[aA]
  have hone:=B7 ss;clear hnew hl hm hc;generalize aA ss=xs at *;generalize ss.length=n at *;go_enter Tryz.func19,Tryz.ntmps19;go_wp2_with (at_builtin;refine wpList_append_own (w.alloc (.cells #[] 9)) rfl _ _ 31 rfl w.heap.size 9 i0 _ 1 16 dg kN hz0 hz1 hz2 rfl (by decide) (.slice (some ⟨w.heap.size,0,none⟩) 0 0) 0 [] rfl hE a n c xs rfl hlen DU hone (by unfold maxLen;omega) (by omega) (by simp) ?_;intro v' w3 ew hgr _);go_ret;rw[List.nil_append,Nat.zero_add] at ew;exact⟨v',rfl,ew,((zb w).alloc zr _).grown hgr (by simp) (λb e=>by cases e;exact nl _)⟩
set_option maxRecDepth 4000 in
theorem Cc {D:Nat→Prop} (x:Value) (s:fT) (w:World) (hx:iX D w x s) (h1:s.args.length≤100000):
 Calls Tryz.prog 204 #[x] w λe w'=>∃v,e=.returned v∧SS (λb=>w.heap.size≤b) w' v (dH s)∧Below w.heap.size w w':=by
 obtain⟨i0,kN,hz0,hz1,hz2⟩:=aV fL
 obtain⟨av,sv,rfl,hr,ha,hs⟩:=hx
 have hal:=zh ha.le
 have Nr:=λW (hW:Below w.heap.size w W)=>Dj _ _ _ (ha.below hW zr) h1
 obtain⟨p1,c1,rfl,_⟩:=ha.shape
 obtain⟨p2,c2,rfl,_⟩:=hs.shape
 obtain⟨it,ar,re,sg⟩:=s
 dsimp only at *
 have hA:=((zb w).alloc zr (.cells #[.bool it,.slice p1 ar.length c1,str re,.slice p2 sg.length c2] 176))
 have hg:=heap_alloc_new w (.cells #[.bool it,.slice p1 ar.length c1,str re,.slice p2 sg.length c2] 176)
 by_cases he:re=[]
 · have he':re.isEmpty=true:=by rw[he];rfl
   have HT:=zh (show dH ⟨it,ar,re,sg⟩=ar by unfold dH;rw[if_pos he];simp);clear he;go_enter Tryz.func204,Tryz.ntmps204;go_wp2_with (go_at_call 19;refine(Nr _ hA).mono ?_;clear Nr;rintro e w1 ⟨v1,rfl,wg,aP⟩;obtain⟨q1,d1,rfl⟩:=aJ wg;have hg:=ag hg aP;have bx:=(fV hg).1);go_ret;rw[HT.out];exact⟨_,rfl,SS.eZ wg hal.out (λb hb=>by have:=(wg.lt b hb).1;simp at this;omega),hA.trans (aa aP (by simp))⟩
 · have he':re.isEmpty=false:=by simpa using he
   have HT:=zh (show dH ⟨it,ar,re,sg⟩=ar++[re] by unfold dH;rw[if_neg he]);clear he;go_enter Tryz.func204,Tryz.ntmps204;go_wp2_with (first
    | (at_builtin;refine wpList_append_own (w1.alloc (.cells #[str re] 9)) rfl _ _ 31 rfl (w.heap.size+1) 9 i0 _ 1 16 dg kN hz0 hz1 hz2 rfl (by decide) _ _ (aA ar) rfl (wg.alloc _) ⟨w1.heap.size,0,none⟩ 1 1 [str re] rfl rfl (cell_one_new _ _ _) (by intro u hu;rw[List.mem_singleton.1 hu];rfl) (by unfold maxLen;omega) (by omega) (by simp;omega) ?_;intro v' w3 ew hgr _)
    | (go_at_call 19;refine(Nr _ hA).mono ?_;clear Nr;rintro e w1 ⟨v1,rfl,wg,aP⟩;rw[World.size_alloc] at wg;obtain⟨q1,d1,rfl⟩:=aJ wg;have hsz:=aP.size;rw[World.size_alloc] at hsz;have hg:=ag hg aP;have bx:=(fV hg).1))
   go_ret;have hl1:ar.length+1=(ar++[re]).length:=by simp
   rw[hl1,show aA ar++[str re]=aA (ar++[re]) by simp[aA]] at ew;rw[HT.out];refine⟨_,rfl,SS.eZ ew ?_ (λb hb=>by have:=(ew.lt b hb).1;omega),?_⟩
   · intro s hs
     rcases List.mem_append.1 hs with hs|hs
     · exact hal.out s hs
     · rw[List.mem_singleton.1 hs];exact hr
   · exact((hA.trans (aa aP (by simp))).alloc (by omega) _).grown hgr (by simp;omega) (λk hk=>by
      have:=(wg.lt k hk).1;omega)
def CS (D:Nat→Prop) (w:World) (v:Value) (x:dw):Prop:=
 ∃a s,v=.agg #[str x.name,.bool x.sig.iter,a,str x.sig.res,s]∧AN x∧SS D w a x.sig.args∧SS D w s x.sig.sigs
theorem CS.below {D:Nat→Prop} {K:Nat} {w w':World} {v:Value} {x:dw} (h:CS D w v x) (hb:Below K w w') (hK:w.heap.size≤K):CS D w' v x:=by
 obtain⟨a,s,h1,h4,h2,h3⟩:=h
 exact⟨a,s,h1,h4,h2.below hb hK,h3.below hb hK⟩
def uQ (w:World) (b:Nat) (a0 a1 a2 a3:Value):World:=(((w.setCell ⟨b,0,none⟩ a0).setCell ⟨b,1,none⟩ a1).setCell ⟨b,2,none⟩ a2).setCell ⟨b,3,none⟩ a3
theorem Below.uQ {B:Nat} {a w:World} (h:Below B a w) {b:Nat} (hb:B≤b) (a0 a1 a2 a3:Value):Below B a (uQ w b a0 a1 a2 a3):=
 (((h.setCell (p:=⟨b,0,none⟩) hb _).setCell (p:=⟨b,1,none⟩) hb _).setCell (p:=⟨b,2,none⟩) hb _).setCell (p:=⟨b,3,none⟩) hb _
theorem SS.uQ {D:Nat→Prop} {w:World} {v:Value} {ss:List (List UInt8)} (h:SS D w v ss) {b:Nat} (hb:∀b',D b'→b'≠b) (a0 a1 a2 a3:Value):SS D (uQ w b a0 a1 a2 a3) v ss:=
 (((h.set (a:=⟨b,0,none⟩) hb _).set (a:=⟨b,1,none⟩) hb _).set (a:=⟨b,2,none⟩) hb _).set (a:=⟨b,3,none⟩) hb _
end Go.Proofs.YtemjidmkolfgnaaGreatDoor
