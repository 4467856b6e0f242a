/-
  Lemmas: the law StorePuts, plainly: which units are stale behind Put and Drop. Conditions: bounds of lengths; the variable strings.asciiSpace.
-/
import Derived.Test.YtemjidmkolfgnaaGreatDoorSBn
import Derived.Test.YtemjidmkolfgnaaGreatDoorSO1
set_option maxHeartbeats 25600000
namespace Go.Proofs.YtemjidmkolfgnaaGreatDoor
section
open Go
section
variable {us:List (List UInt8×az)}
def vcf:List (List (List UInt8))→Nat→List (List UInt8×Nat)
 | [],_=>[]
 | g::G,i=>g.map (λx=>(x,i))++vcf G (i+1)
theorem vc2 (g:List (List UInt8)):∀(G:List (List (List UInt8))) (i:Nat),vcf (G++[g]) i=vcf G i++g.map λx=>(x,i+G.length)
 | [],i=>by simp[vcf]
 | h::G,i=>by
  rw[List.cons_append]
  show h.map _++vcf (G++[g]) (i+1)=(h.map _++vcf G (i+1))++_
  rw[vc2 g G (i+1),List.append_assoc,List.length_cons]
  congr 3
  funext x
  congr 1
  omega
theorem vbh {x:List UInt8} {j:Nat}:∀{G:List (List (List UInt8))} {i:Nat},(x,j)∈vcf G i↔∃(k:Nat) (g:List (List UInt8)),j=i+k∧G[k]? =some g∧x∈g
 | [],i=>by simp[vcf]
 | g::G,i=>by
  show(x,j)∈g.map _++vcf G (i+1)↔_
  rw[List.mem_append,vbh]
  constructor
  · rintro(h|⟨k,h,h1,h2,h3⟩)
    · obtain⟨y,hy,e⟩:=List.mem_map.1 h
      cases e;exact⟨0,g,rfl,rfl,hy⟩
    · exact⟨k+1,h,by omega,by simpa using h2,h3⟩
  · rintro⟨k,h,rfl,h2,h3⟩
    rcases k with _|k
    · cases h2
      exact .inl (List.mem_map.2 ⟨x,h3,rfl⟩)
    · exact .inr ⟨k,h,by omega,by simpa using h2,h3⟩
theorem vc1 {x:List UInt8} {G:List (List (List UInt8))} {i:Nat}:x∈(vcf G i).map (·.1)↔∃g∈G,x∈g:=by
 constructor
 · intro h
   obtain⟨⟨y,j⟩,hy,rfl⟩:=List.mem_map.1 h;obtain⟨k,g,_,h2,h3⟩:=vbh.1 hy;exact⟨g,List.mem_of_getElem? h2,h3⟩
 · rintro⟨g,hg,hx⟩
   obtain⟨k,hk⟩:=List.getElem?_of_mem hg;exact List.mem_map.2 ⟨(x,i+k),vbh.2 ⟨k,g,rfl,hk,hx⟩,rfl⟩
structure vb4 (us:List (List UInt8×az)) (G:List (List (List UInt8))):Prop where
 all:∀x,(aq us x).isSome=true↔∃g∈G,x∈g
 vf9:∀g∈G,∃n,(aq us n).isSome=true∧g=nA us n
 dj:∀(i j:Nat) (g h:List (List UInt8)) (x:List UInt8),G[i]? =some g→G[j]? =some h→x∈g→x∈h→i=j
 vgd:∀(i j:Nat) (g h:List (List UInt8)) (x y:List UInt8),G[i]? =some g→G[j]? =some h→x∈g→y∈h→Edge us x y→j≤i
theorem ve4 {L:bh} {j:Nat} (h:vau L j):∃G,iz L.units L.units.length [] []=some G∧vb4 L.units G:=by
 obtain⟨G,d,h1,h2,h3⟩:=vca h.nd L.units.length [] [] vbz.new (by simp)
 refine⟨G,h1,⟨λx=>?_,h2.vf9,h2.dj,λi k g g' x y hi hk hx hy he=>?_⟩⟩
 · rw [← h2.mem]
   constructor
   · intro hx
     refine Classical.byContradiction λhn=>?_
     have h4:(x::d).length≤(L.units.map (·.1)).length:=vah (List.nodup_cons.2 ⟨hn,h2.nd⟩) λy hy=>by
      rcases List.mem_cons.1 hy with rfl|hy
      · exact bJ.1 hx
      · exact bJ.1 (h2.key y hy)
     rw[List.length_cons,List.length_map] at h4;omega
   · exact h2.key x
 · rcases h2.vgd i g hi x hx y he with e|⟨m,g2,hm,e1,e2⟩
   · exact Nat.le_of_eq (h2.dj k i g' g y hk hi hy e)
   · have:=h2.dj k m g' g2 y hk e1 hy e2
     omega
theorem vb4.nodup {G:List (List (List UInt8))} (h:vb4 us G):∀g∈G,g.Nodup∧g.Pairwise (· ≤ ·)∧g≠[]:=λg hg=>by
 obtain⟨n,hn,rfl⟩:=h.vf9 g hg
 refine⟨vb2 n,?_,λe=>?_⟩
 · unfold nA iy
   exact(gv _).filter _
 · have:=(vag hn).2 ⟨.refl n,.refl n⟩
   rw[e] at this;cases this
theorem vdq {n f:List UInt8} {S:List (List UInt8)} (hn:(aq us n).isSome=true) (hf:f∈nA us n) (hcl:∀x,x∈S∨x=f→∀y,Edge us x y→y∈nA us n→y∈S) (hS:∀x∈S,x∈nA us n) (hnd:S.Nodup) (hl:1<(nA us n).length):S.length=(nA us n).length:=by
 have hin:∀a c b,a∈nA us n→Edge us a c→Reach us c b→b∈nA us n→c∈nA us n:=λa c b ha hac hcb hb=>by
  rw[vag hn] at ha hb ⊢;exact⟨ha.1.trans (.step hac (.refl c)),hcb.trans hb.2⟩
 have k1:∀a b,Reach us a b→a∈S→b∈nA us n→b∈S:=λa b hab=>by
  induction hab with
  | refl a=>exact λha _=>ha
  | step e hcb ih=>exact λha hb=>ih (hcl _ (.inl ha) _ e (hin _ _ _ (hS _ ha) e hcb hb)) hb
 have k2:∀y∈nA us n,y≠f→y∈S:=λy hy hne=>by
  have hr:Reach us f y:=((vag hn).1 hf).2.trans ((vag hn).1 hy).1;cases hr with
  | refl=>exact absurd rfl hne
  | step e hcb=>exact k1 _ y hcb (hcl f (.inr rfl) _ e (hin f _ y hf e hcb hy)) hy
 have k3 : ∀ y ∈ nA us n, y ∈ S := fun y hy => by
  by_cases e:y=f
  · subst e
    obtain⟨z,hz,vjc⟩:∃z∈nA us n,z≠y:=Classical.byContradiction λhno=>by
     have h1:(nA us n).length≤[y].length:=vah (vb2 n) λz hz=>by
      rw[List.mem_singleton];exact Classical.byContradiction λe=>hno ⟨z,hz,e⟩
     simp at h1;omega
    exact k1 z y (((vag hn).1 hz).2.trans ((vag hn).1 hy).1) (k2 z hz vjc) hy
  · exact k2 y hy e
 exact Nat.le_antisymm (vah hnd hS) (vah (vb2 n) k3)
theorem vbr:∀{G:List (List (List UInt8))},(∀g∈G,g≠[])→G.length≤G.flatten.length
 | [],_=>nl _
 | g::G,h=>by
  have h1:=vbr (G:=G) λx hx=>h x (by simp[hx])
  have h2:=List.length_pos_iff.2 (h g (by simp));rw[List.flatten_cons,List.length_append,List.length_cons];omega
theorem vbd:∀{G:List (List (List UInt8))},(∀g∈G,g.Nodup)→(∀(i j:Nat) (g h:List (List UInt8)) (x:List UInt8),G[i]? =some g→G[j]? =some h→x∈g→x∈h→i=j)→G.flatten.Nodup
 | [],_,_=>List.nodup_nil
 | g::G,h1,h2=>by
  rw[List.flatten_cons,List.nodup_append];refine⟨h1 g (by simp),vbd (λx hx=>h1 x (by simp[hx])) λi j a b x hi hj hx hy=>?_,λx hx y hy e=>?_⟩
  · have:=h2 (i+1) (j+1) a b x (by simpa using hi) (by simpa using hj) hx hy
    omega
  · subst e
    obtain⟨g',hg',hx'⟩:=List.mem_flatten.1 hy;obtain⟨j,hj⟩:=List.getElem?_of_mem hg';have:=h2 0 (j+1) g g' x rfl (by simpa using hj) hx hx';omega
theorem vb4.flat {G:List (List (List UInt8))} (h:vb4 us G):G.flatten.Nodup:=vbd (λg hg=>(h.nodup g hg).1) h.dj
theorem vb4.vbk {G:List (List (List UInt8))} (h:vb4 us G) {x:List UInt8}:x∈G.flatten↔(aq us x).isSome=true:=by
 rw[List.mem_flatten,h.all]
theorem vb4.vcw {G:List (List (List UInt8))} (h:vb4 us G) (hn:(us.map (·.1)).Nodup):G.flatten.length=us.length:=by
 have h1:=vah (b:=us.map (·.1)) h.flat λx hx=>bJ.1 (h.vbk.1 hx)
 have h2:=vah (b:=G.flatten) hn λx hx=>h.vbk.2 (bJ.2 hx)
 rw[List.length_map] at h1 h2
 omega
theorem vb6:∀(G:List (List (List UInt8))) (i:Nat),(vcf G i).map (·.1)=G.flatten
 | [],_=>rfl
 | g::G,i=>by
  show(g.map _++vcf G (i+1)).map _=_
  rw[List.map_append,vb6 G (i+1),List.map_map,List.flatten_cons]
  congr 1
  exact List.map_id _
theorem vb4.small {L:bh} {G:List (List (List UInt8))} {j:Nat} (h:vb4 L.units G) (hi:vau L j):G.length≤20∧∀g∈G,g.length≤20:=by
 have hk:=hi.vkl
 have hf:=h.vcw hi.nd
 refine⟨?_,λg hg=>?_⟩
 · have:=vbr (G:=G) λg hg=>(h.nodup g hg).2.2
   omega
 · have:=vah (h.nodup g hg).1 (b:=G.flatten) λx hx=>List.mem_flatten.2 ⟨g,hg,hx⟩
   omega
end
theorem vcv {l:List (List UInt8)} {s:List UInt8}:(l.any λy=>s==y)=decide (s∈l):=by
 rw[Bool.eq_iff_iff,List.any_eq_true,decide_eq_true_iff]
 simp
section
variable {x:vbp} {L vjr:bh} {vk5:Bool} {F:List UInt8} {j:Nat} {u:az}
end
end
section
open Go Go.RowKit
theorem vaz.mono {D D':Nat→Prop} {w:World} {v:Value} {l:List vbp} (h:vaz D w v l) (hD:∀b,D b→D' b):vaz D' w v l:=by
 obtain⟨p,c,h1,h2,h3,h4⟩:=h
 refine⟨p,c,h1,h2,h3,?_⟩
 rcases h4 with h4|⟨b,o,e,h5,h6,h7⟩
 · exact .inl h4
 · refine .inr ⟨b,o,e,hD b h5,h6,λj x hj=>?_⟩
   obtain⟨va,vb,vc,k1,k2⟩:=h7 j x hj;exact⟨va,vb,vc,⟨k1.a.mono hD,k1.b.mono hD,k1.c.mono hD,k1.kd,k1.le⟩,k2⟩
theorem vd2 (W:World) (a:Addr) (v:Value):W.grownBy (W.setCell a v) (some a.block):=⟨rfl,rfl,rfl,by simp[World.setCell],λk _ hne=>heap_setCell_other W a k v λe=>hne (by rw[e])⟩
def vaq (w:World) (K:Nat) (v:Value) (l:List (List UInt8)):Prop:=
 ∃(g o c:Nat) (cur:Array Value),v=.slice (some ⟨g,o,none⟩) l.length c∧K≤g∧w.heap[g]? =some (.cells cur 9 (0,0))∧l.length≤c∧c≤maxLen∧o+c≤cur.size∧∀(i:Nat) (s:List UInt8),l[i]? =some s→cur[o+i]? =some (str s)
theorem vaq.eZ {w:World} {K:Nat} {v:Value} {l:List (List UInt8)} (h:w.ownsRow K 9 1 v l.length (aA l)) (hl:0<l.length):vaq w K v l:=by
 rcases h.2 with⟨_,h0⟩|⟨g,cap,cur,rfl,hb,hh,h1,h2,h3,h4⟩
 · omega
 · refine⟨g,0,cap,cur,rfl,hb,hh,h1,h2,by omega,λi s hi=>?_⟩
   have h5:=congrArg (λz:List Value=>z[i]?) h4;have hil:=(List.getElem?_eq_some_iff.1 hi).1;simp only[Nat.mul_one] at h5;rw[List.getElem?_take_of_lt hil,Array.getElem?_toList] at h5;rw[Nat.zero_add,h5];unfold aA;rw[List.getElem?_map,hi]
   rfl
theorem vaq.shape {w:World} {K:Nat} {v:Value} {l:List (List UInt8)} (h:vaq w K v l):∃g o c,v=.slice (some ⟨g,o,none⟩) l.length c∧K≤g∧g<w.heap.size∧l.length≤c:=by
 obtain⟨g,o,c,cur,e,h1,h2,h3,_⟩:=h
 exact⟨g,o,c,e,h1,aj h2,h3⟩
theorem vaq.cell {w:World} {K g o n c:Nat} {l:List (List UInt8)} (h:vaq w K (.slice (some ⟨g,o,none⟩) n c) l) {i:Nat} {s:List UInt8} (hi:l[i]? =some s):w.cell? ⟨g,o+i,none⟩=some (str s):=by
 obtain⟨g',o',c',cur,e,_,h2,_,_,_,h6⟩:=h
 injection e with e _ _
 injection e with e
 injection e with e1 e2 _
 subst e1 e2
 exact(af h2 _).trans (h6 i s hi)
theorem vaq.block {w w':World} {K:Nat} {v:Value} {l:List (List UInt8)} (h:vaq w K v l) (hb:∀b,v.ownBlock=some b→w'.heap[b]? =w.heap[b]?):vaq w' K v l:=by
 obtain⟨g,o,c,cur,rfl,h1,h2,h3⟩:=h
 exact⟨g,o,c,cur,rfl,h1,(hb g rfl).trans h2,h3⟩
theorem vaq.below {w w':World} {K B:Nat} {v:Value} {l:List (List UInt8)} (h:vaq w K v l) (hb:Below B w w') (hB:w.heap.size≤B):vaq w' K v l:=h.block λb e=>hb.block b (by
 obtain⟨g,o,c,rfl,_,h2,_⟩:=h.shape
 have e:g=b:=by injection e
 omega)
theorem vaq.veb {w:World} {K:Nat} {v:Value} {l:List (List UInt8)} (h:vaq w K v l) (b:Nat) (hb:v.ownBlock=some b):b<w.heap.size:=by
 obtain⟨g,o,c,rfl,_,h2,_⟩:=h.shape
 have e:g=b:=by injection hb
 omega
theorem vaq.ve8 {w:World} {K:Nat} {v:Value} {l:List (List UInt8)} (h:vaq w K v l) (b:Nat) (hb:v.ownBlock=some b):K≤b:=by
 obtain⟨g,o,c,rfl,h1,_,_⟩:=h.shape
 have e:g=b:=by injection hb
 omega
theorem vaq.tail {w:World} {K g o n c:Nat} {x:List UInt8} {l:List (List UInt8)} (h:vaq w K (.slice (some ⟨g,o,none⟩) n c) (x::l)):vaq w K (.slice (some ⟨g,o+1,none⟩) (n - 1) (c - 1)) l∧(c=1→vaq w K (.slice (some ⟨g,o,none⟩) (n - 1) 0) l):=by
 obtain⟨g',o',c',cur,e,h1,h2,h3,h4,h5,h6⟩:=h
 injection e with e e2 e3
 injection e with e
 injection e with e1 e4 _
 subst e1 e4 e2 e3
 rw[List.length_cons] at h3 ⊢
 refine⟨⟨g,o+1,c - 1,cur,by rw[Nat.add_sub_cancel],h1,h2,by omega,by omega,by omega,λi s hi=>?_⟩,λhc=>?_⟩
 · have:=h6 (i+1) s (by simpa using hi)
   rwa [show o+(i+1)=o+1+i by omega] at this
 · have hl:l=[]:=List.length_eq_zero_iff.1 (by omega)
   subst hl;exact⟨g,o,0,cur,rfl,h1,h2,Nat.zero_le _,Nat.zero_le _,by omega,λi s hi=>by simp at hi⟩
theorem vbn {ops:Array Oper} {rest:List Oper} {o:Oper} {a:Act} {w:World} {Q:Exit→Act→World→Prop} (hgd:o.guard=none) (s x:Operand)
 (ho:o.op=.call {callee:=.builtin .append,args:= #[s,x],argTypes:= #[31,31] }) {K:Nat} {v:Value} {l:List (List UInt8)} {y:List UInt8} (hs:a.eval s=v) (hown:vaq w K v l) (hl:l.length≤100000) (ad:Addr) (c1:Nat) (hx:a.eval x=.slice (some ad) 1 c1) (hy:w.cell? (ad.add 0)=some (str y)) (hK:K≤w.heap.size)
 (h:∀v' w',vaq w' K v' (l++[y])→w.grownBy w' v.ownBlock→(∀b,v'.ownBlock=some b→v.ownBlock=some b∨w.heap.size≤b)→wpList Tryz.prog ops Q rest (a.put o.dst v') w'):wpList Tryz.prog ops Q (o::rest) a w:=by
 obtain⟨i0,kN,hz0,hz1,hz2⟩:=aV fL
 refine wpList_plain hgd λvjq O1=>?_
 have key : ∃ v' w', (Builtin.append_ #[31, 31] o.type #[v, .slice (some ad) 1 c1]).run Tryz.prog w = .ok v' w' ∧ vaq w' K v' (l ++ [y]) ∧ w.grownBy w' v.ownBlock ∧ (∀ b, v'.ownBlock = some b → v.ownBlock = some b ∨ w.heap.size ≤ b) := by
  obtain⟨g,of,c,cur,rfl,h1,h2,h3,h4,h5,h6⟩:=hown;have hn:∀(j:Nat) (u:Value),[str y][j]? =some u→w.cell? (ad.add j)=some u:=λj u hj=>by
   rcases j with _|j
   · cases hj
     exact hy
   · simp at hj
  have h11:∀u∈[str y],u.oneCell'=true:=λu hu=>by
   rw[List.mem_singleton.1 hu]
   rfl
  by_cases hc:l.length+1≤c
  · have hlt:of+l.length<cur.size:=by omega
    have hr:=run_append_room_cells (P:=Tryz.prog) w 31 o.type 9 i0 (by kernel_rfl) kN g of l.length c ad 1 c1 [str y] (by rw[hz1];rfl) hn h11 hc (λj hj=>by
     obtain rfl:j=0:=by simp at hj;omega
     rw[hz1,Nat.mul_one,Nat.add_zero,af h2,Array.getElem?_eq_getElem hlt]
     rfl) λj _=>au h2 _
    rw[hz1,Nat.mul_one] at hr;refine⟨_,_,hr,⟨g,of,c,cur.setIfInBounds (of+l.length) (str y),by simp,h1,heap_setCell_same w g (of+l.length) cur 9 (str y) h2,by simp;omega,h4,by simp;omega,λi s hi=>?_⟩,vd2 w ⟨g,of+l.length,none⟩ (str y),λb hb=>.inl hb⟩;rw[Array.getElem?_setIfInBounds];rw[List.getElem?_append] at hi;split at hi
    · rw[if_neg (by omega)]
      exact h6 i s hi
    · rename_i hil
      have kN:i=l.length:=by
       have:=(List.getElem?_eq_some_iff.1 hi).1;simp at this;omega
      subst kN;rw[if_pos rfl,if_pos hlt];simp at hi;rw[hi]
  · obtain⟨v',w',hr,KB,hg⟩:=run_append_arg_grows (P:=Tryz.prog) w 31 o.type 9 i0 _ 1 16 (by kernel_rfl) kN hz0 hz1 hz2 rfl (by decide) ⟨g,of,none⟩ l.length c (aA l) (by simp[aA]) (λj u hj=>by
     unfold aA at hj;rw[List.getElem?_map,Option.map_eq_some_iff] at hj;obtain⟨s,hs,rfl⟩:=hj;rw[Addr.add_lit];exact(af h2 _).trans (h6 j s hs)) ad 1 c1 [str y] rfl hn (by omega) (by unfold maxLen;omega) (by omega)
    refine⟨v',w',hr,?_,⟨hg.os,hg.tape,hg.output,hg.size,λk hk _=>hg.block k hk (λe=>by cases e)⟩,λb hb=>.inr ((KB.lt b hb).1)⟩;have Sk:w'.ownsRow w.heap.size 9 1 v' (l++[y]).length (aA (l++[y])):=by
     rw[List.length_append];unfold aA;rw[List.map_append];exact KB
    obtain⟨g',o',c',cur',e,k1,k2⟩:=vaq.eZ Sk (by simp);exact⟨g',o',c',cur',e,Nat.le_trans hK k1,k2⟩
 obtain⟨v',w',hr,k1,k2,k3⟩:=key
 unfold Oper.wp execOp
 simp only[ho,resolve,invoke,builtin,Sem.run_bind,Sem.run_pure,Result.andThen_ok,List.map_toArray,List.map_cons,List.map_nil,hs,hx,hr]
 exact O1 _ _ (h v' w' k1 k2 k3)
theorem vat.lt {w:World} {b:Nat} (h:vat w b):b<w.heap.size:=by
 obtain⟨_,_,e,_⟩:=h
 exact aj e
theorem vdo {L:bh} {j:Nat} (h:vau L j):∀n∈sN L.units,n.length≤12:=λn hn=>by
 unfold sN Iq at hn
 rw[kJ,sr,List.mem_filter,List.mem_flatMap] at hn
 rcases hn with hn|⟨⟨⟨k,u⟩,hu,hn⟩,_⟩
 · cases hn
 · exact(vaj ((h.units k u (uC h.nd hu)).un n hn).1).2.1
end
open Go Go.RowKit Go.Maps
def vka (g:List (List UInt8)) (i:Nat):List (List UInt8×Value):=g.map λx=>(x,.int .i64 (i:Int))
def vbo (G:List (List (List UInt8))):List (List UInt8×Value):=(vcf G 0).map λx=>(x.1,.int .i64 (x.2:Int))
theorem vde {G:List (List (List UInt8))} {i:Nat} {g:List (List UInt8)} (h:G[i]? =some g):vbo (G.take (i+1))=vbo (G.take i)++vka g i:=by
 have hl:=(List.getElem?_eq_some_iff.1 h).1
 unfold vbo vka
 rw[List.take_add_one,h]
 show(vcf (G.take i++[g]) 0).map _=_
 rw[vc2,List.map_append,List.map_map,List.length_take,Nat.min_eq_left (Nat.le_of_lt hl),Nat.zero_add]
 rfl
theorem vdx {g:List (List UInt8)} {i k:Nat} {x:List UInt8} (h:g[k]? =some x):vka (g.take (k+1)) i=vka (g.take k) i++[(x,.int .i64 (i:Int))]:=by
 unfold vka
 rw[List.take_add_one,h,List.map_append]
 rfl
theorem vcx (g:List (List UInt8)) (i:Nat):(vka g i).map (·.1)=g:=by
 unfold vka
 rw[List.map_map]
 exact List.map_id _
theorem vb1 (G:List (List (List UInt8))):(vbo G).map (·.1)=(vcf G 0).map (·.1):=by
 unfold vbo
 rw[List.map_map]
 rfl
theorem vb4.ve3 {us:List (List UInt8×az)} {G:List (List (List UInt8))} (h:vb4 us G) {i k:Nat} {g:List (List UInt8)} {x:List UInt8} (hi:G[i]? =some g) (hk:g[k]? =some x):aq (vbo (G.take i)++vka (g.take k) i) x=none:=by
 rcases hq:aq (vbo (G.take i)++vka (g.take k) i) x with _|v
 · rfl
 · have hm:=bJ.1 (show(aq (vbo (G.take i)++vka (g.take k) i) x).isSome=true by rw[hq];rfl)
   rw[List.map_append,vb1,vcx,List.mem_append] at hm;rcases hm with hm|hm
   · obtain⟨g',hg',hx⟩:=vc1.1 hm
     obtain⟨j,hj⟩:=List.getElem?_of_mem hg';rw[List.getElem?_take] at hj;split at hj
     · rename_i hji
       have:=h.dj i j g g' x hi hj (List.mem_of_getElem? hk) hx;omega
     · cases hj
   · obtain⟨j,hj⟩:=List.getElem?_of_mem hm
     rw[List.getElem?_take] at hj;split at hj
     · rename_i hjk
       have hn:=(h.nodup g (List.mem_of_getElem? hi)).1;have:=(List.getElem?_inj (List.getElem?_eq_some_iff.1 hj).1 hn).1 (hj.trans hk.symm);omega
     · cases hj
theorem vcz {w:World} {B n c:Nat} {D:Nat→Prop} {p:Option Go.Addr} {G:List (List (List UInt8))} (h:Rows w B D (.slice p n c) G) {i:Nat} {g:List (List UInt8)} (hi:G[i]? =some g):∃b p' c',p=some ⟨b,0,none⟩∧w.cell? ⟨b,i,none⟩=some (.slice p' g.length c')∧SS (λb=>D b∧fU w b) w (.slice p' g.length c') g:=by
 obtain⟨GL,h1,h2,h3⟩:=h
 subst h1
 rw[List.getElem?_map,Option.map_eq_some_iff] at hi
 obtain⟨x,hx,rfl⟩:=hi
 have hs:=h3 x (List.mem_of_getElem? hx)
 have hs0:=hs
 obtain⟨p',c',e,_⟩:=hs0
 rcases h2.2 with⟨_,h0⟩|⟨b,cap,cur,e1,_,hh,_⟩
 · have:=(List.getElem?_eq_some_iff.1 hx).1
   omega
 · have e2:=e1
   injection e1 with e1 _ _;refine⟨b,p',c',e1,?_,by rw[←e];exact hs⟩;have hc:=h2.cells (g:=b) (by rw[e2];rfl) i x.2 (by rw[List.getElem?_map,hx];rfl);rw[eH,Nat.zero_add] at hc;rw[hc,e]
theorem vdd {g:List (List UInt8)} (hs:g.Pairwise (· ≤ ·)) (hn:g.Nodup) {k:Nat} {x y:List UInt8} (hy:g[k]? =some y) (hx:g[k+1]? =some x):Op.bytesLess y x=true:=by
 obtain⟨h1,e1⟩:=List.getElem?_eq_some_iff.1 hy
 obtain⟨h2,e2⟩:=List.getElem?_eq_some_iff.1 hx
 have hle:=List.pairwise_iff_getElem.1 hs k (k+1) h1 h2 (Nat.lt_succ_self k)
 rw[e1,e2] at hle
 rw[Go.Proofs.bytesLess_eq,decide_eq_true_iff]
 refine Classical.byContradiction λh=>?_
 have he:y=x:=List.le_antisymm hle h
 rw[←he] at hx
 have:=(List.getElem?_inj h1 hn).1 (hy.trans hx.symm)
 omega
def vgn (us:List (List UInt8×az)) (w:World) (lm K:Nat) (ns:List (List UInt8)):Prop:=∃AL:List (List UInt8×Value),aQ w lm AL∧AL.length≤ns.length∧∀n∈ns,∃(p:Nat) (S:List (List UInt8)),aq AL n=some (.map (some p))∧aQ w p (fO S)∧K≤p∧∀y,y∈S↔Edge us n y
theorem vb4.vbi {us:List (List UInt8×az)} {G:List (List (List UInt8))} (h:vb4 us G) {j:Nat} {g:List (List UInt8)} {x:List UInt8} (hj:G[j]? =some g) (hx:x∈g):aq (vbo G) x=some (.int .i64 (j:Int)):=by
 refine uC ?_ (List.mem_map.2 ⟨(x,j),vbh.2 ⟨j,g,(Nat.zero_add j).symm,hj,hx⟩,rfl⟩)
 rw[vb1,vb6]
 exact h.flat
theorem vdw {G:List (List (List UInt8))} {us:List (List UInt8×az)} (h:vb4 us G) {x:List UInt8} (hx:¬(aq us x).isSome=true):aq (vbo G) x=none:=by
 rcases hq:aq (vbo G) x with _|v
 · rfl
 · have hm:=bJ.1 (show(aq (vbo G) x).isSome=true by rw[hq];rfl)
   rw[vb1,vb6,h.vbk] at hm;exact absurd hm hx
theorem ve2 {us:List (List UInt8×az)} {x:List UInt8} (hx:(aq us x).isSome=true):(sN us).any (λy=>x==y)=false:=by
 rw[vcv,decide_eq_false]
 intro h
 unfold sN Iq at h
 rw[kJ,sr,List.mem_filter] at h
 rcases h with h|⟨_,h⟩
 · cases h
 · rcases hq:aq us x with _|v
   · rw[hq] at hx
     cases hx
   · rw[hq] at h
     cases h
theorem vdp {us:List (List UInt8×az)} {n x:List UInt8} {u:az} (hu:aq us n=some u) (vg9:x∈u.uses) (hx:¬(aq us x).isSome=true):(sN us).any (λy=>x==y)=true:=by
 rw[vcv,decide_eq_true]
 unfold sN Iq
 rw[kJ,sr,List.mem_filter,List.mem_flatMap]
 refine .inr ⟨⟨_,eS hu,vg9⟩,?_⟩
 rcases hq:aq us x with _|v
 · rfl
 · rw[hq] at hx
   exact absurd rfl hx
set_option maxRecDepth 8000 in
theorem vbg (l : List vbp) (v : Value) (w : World) (hv : vaz (fun b => b < w.heap.size) w v l) (ht : gx w) (hm : fe w) (hp : 0 < w.heap.size) :
 Calls Tryz.prog 3 #[v] w λe w'=>e=.returned (.bool true)∧Below w.heap.size w w':=by
 have MT:=hv
 obtain⟨p,c,rfl,-,-,-⟩:=hv
 have vgm:=vcq l (.slice p l.length c) w MT
 go_enter Tryz.func3,Tryz.ntmps3
 go_upto_region 1 with fail
 go_cut [32] from 30 to 33 (λq wx=>∃b:Bool,q=.bool b∧Below w.heap.size w wx∧(b=false→(∀y∈l,vbq y)∧l.length≤30))
 case first=>
  go_wp2_with (go_at_call 11;refine vgm.mono ?_;clear vgm;rintro e w2 ⟨⟨q1,rfl,hq1⟩,bO⟩;replace hq1:=zh hq1)
  go_meet
  exact⟨_,rfl,bO,λe=>hq1.out (by simpa using e)⟩
 case rest =>
  obtain⟨b,rfl,hbc,vi4⟩:=hcut;have vhe:=ht.below hbc zr;have vaf:=hm.below hbc;cases b
  case true=>
   go_wp2_with (go_at_call 12;refine(s6 wc vhe vaf (by have:=hbc.size;omega)).mono ?_;rintro e w5 ⟨rfl,oo⟩);refine bodyPost_ret (v:=.bool true) (by simp[results,Tryz.results3,go_sem]) rfl ⟨rfl,hbc.trans (aa oo hbc.size)⟩
  case false =>
   obtain⟨hok,vfy⟩:=vi4 rfl;clear vi4
   rename World=>vl1
   have HR:=vdn l (.slice p l.length c) vl1 ((MT.agree λb hb _=>hbc.block b hb).mono λb hb=>by have:=hbc.size;omega) hok vfy vhe vaf (by have:=hbc.size;omega);go_upto_region 4 with(go_at_call 13;refine HR.mono ?_;clear HR;rintro e w3 ⟨lo,rfl,NS⟩)
   replace NS:vai (λb=>vl1.heap.size≤b) w w3 lo (vet l) 30:=NS.ves hbc ht hm hp
   generalize hL:vet l=L at *;clear hL hok vfy vhe vaf hbc vgm MT;have hinv:=NS.inv;obtain⟨G,hG,vbw⟩:=ve4 hinv;have hnl:∀n,(aq L.units n).isSome=true→n.length≤12:=λn hn=>by
    obtain⟨u,hu⟩:=Option.isSome_iff_exists.1 hn;exact(vaj (hinv.units n u hu).nm).2.1
   have Wm:G.length≤20∧∀g∈G,g.length≤20:=vbw.small hinv
   have HO:=zA w3 NS.read (λn hn=>by have:=hnl n hn;unfold maxLen;omega) hG (by have:=hinv.vkl;omega)
   replace hG:=trivial
   have hmm:=@run_makeMap Tryz.prog;go_upto_region 7 with(first
    | (go_at_call 15;refine HM.mono ?_;clear HM;rintro e w5 ⟨mv,rfl,Sm,oo⟩;obtain⟨mp,mc,rfl⟩:=aJ Sm)
    | (go_at_call 14;refine HO.mono ?_;clear HO;rintro e w4 ⟨ov,rfl,vgs,hb4⟩;have HM:=uR _ (NS.below hb4).read;obtain⟨vkc,gc,rfl⟩:=vgs.shape))
   have vfm:=hb4.trans (aa oo hb4.size);have vho:=NS.below vfm;have RM:=vgs.below oo zr;have LV:SS Any w5 (.slice mp (sN L.units).length mc) (sN L.units):=SS.eZ Sm (λn hn=>by have:=vdo hinv n hn;unfold maxLen;omega) λ_ _=>trivial
   have hA:=(zb w5).alloc zr (.map #[] 0);have hD:=aQ.made w5;have MJ:w5.heap.size<(w5.alloc (.map #[] 0)).heap.size:=by simp
   clear NS vgs hb4 oo vfm Sm;go_upto_region 9 with fail;generalize w5.alloc (.map #[] 0)=W6 at *;clear hmm;obtain⟨vje,Wm⟩:=Wm;generalize vfg:G.length=vjx at *
   replace vfg:=zh vfg
   go_loopw [49] (λy wx=>∃i:Nat,i≤vjx∧y=.int .i64 i∧aQ wx w5.heap.size (vbo (G.take i))∧Below w5.heap.size w5 wx∧w5.heap.size<wx.heap.size) (λy _=>vjx - (intOf y).toNat)
   case atStart=>exact⟨0,Nat.zero_le _,by go_num,hD,hA,MJ⟩
   case round =>
    obtain⟨i,hi,rfl,vex,gN,N3⟩:=hrel;clear hD hA MJ
    by_cases hlt:i<vjx
    case pos =>
     obtain⟨g,hg⟩:∃g,G[i]? =some g:=⟨_,List.getElem?_eq_getElem (by rw[vfg.out];exact hlt)⟩
     obtain⟨b,p',c',rfl,vk4,Pt⟩:=vcz RM hg;have vgo:=Below.keep gN vk4;have hil:(i:Int)<(vjx:Int):=by omega
     have Sd:=(vbw.nodup g (List.mem_of_getElem? hg)).2.1;have hgd:=(vbw.nodup g (List.mem_of_getElem? hg)).1;have viy:=Wm g (List.mem_of_getElem? hg);have vej:∀x∈g,x.length≤12:=λx hx=>hnl x ((vbw.all x).2 ⟨g,List.mem_of_getElem? hg,hx⟩)
     generalize vdb:g.length=vjz at *
     replace vdb:=zh vdb
     replace hg:=zh hg
     replace Sd:=zh Sd
     replace hgd:=zh hgd
     go_upto_region 12 with fail;go_loopw [56] (λy wx=>∃k:Nat,k≤vjz∧y=.int .i64 k∧aQ wx w5.heap.size (vbo (G.take i)++vka (g.take k) i)∧Below w5.heap.size w5 wx∧w5.heap.size<wx.heap.size) (λy _=>vjz - (intOf y).toNat)
     case atStart=>exact⟨0,Nat.zero_le _,by go_num,by rw[List.take_zero,show vka [] i=[] from rfl,List.append_nil];exact vex,gN,N3⟩
     case round=>
      obtain⟨k,hk,rfl,vew,hby,vf4⟩:=hrel;clear vex gN N3 vgo
      by_cases sA:k<vjz
      case pos =>
       obtain⟨x,hx⟩:∃x,g[k]? =some x:=⟨_,List.getElem?_eq_getElem (by rw[vdb.out];exact sA)⟩
       have hxl:=vej x (List.mem_of_getElem? hx);have uh:x.length≤maxLen:=by unfold maxLen;omega
       have oO:=Pt.below hby zr;obtain⟨bg,og,rfl,_,vk6⟩:=oO.at hx;have hno:=vbw.ve3 hg.out hx;have hlk:=vew.look uh Tryz.underlying33 (z:=.int .i64 0) (by kernel_rfl);rw[hno] at hlk;have vfx:(k:Int)<(vjz:Int):=by omega
       have hput:eN (vbo (G.take i)++vka (g.take k) i) x (.int .i64 (i:Int))=vbo (G.take i)++vka (g.take (k+1)) i:=by
        unfold eN;rw[hno,if_neg (by decide),vdx hx,List.append_assoc]
       have hml:(vbo (G.take i)++vka (g.take k) i).length<maxLen:=by
        have h1:=vew.nd;have h2:=vah (b:=L.units.map (·.1)) h1 λy hy=>by
         rw[List.map_append,vb1,vcx,List.mem_append] at hy;refine bJ.1 ((vbw.all y).2 ?_);rcases hy with hy|hy
         · obtain⟨g',h3,h4⟩:=vc1.1 hy
           exact⟨g',List.mem_of_mem_take h3,h4⟩
         · exact⟨g,List.mem_of_getElem? hg.out,List.mem_of_mem_take hy⟩
        rw[List.length_map,List.length_map] at h2;have:=hinv.vkl;unfold maxLen;omega
       replace hno:=zh hno
       replace hput:=zh hput
       rcases k with _|k
       · have hk0:¬(0:Int)<((0:Nat):Int):=by omega
         rw[Nat.add_zero] at vk6
         replace hx:=zh hx
         go_wp2_with (at_mapUpdate;refine iq rfl _ _ _ rfl Tryz.underlying33 vew hml (f:=.int .i64 (i:Int)) rfl rfl rfl uh ?_;intro w8 vdt vhd);rw[hput.out] at vdt;have vfu:=vhd.grown;have xQ:=hby.grown vfu (Nat.le_of_lt vf4) (λb e=>by injection e with e;omega);exact⟨⟨0+1,sA,by go_num,vdt,xQ,Nat.lt_of_lt_of_le vf4 vfu.size⟩,by simp only[intOf];omega⟩
       · have hk0:(0:Int)<((k+1:Nat):Int):=by omega
         obtain⟨y,hy⟩:∃y,g[k]? =some y:=⟨_,List.getElem?_eq_getElem (by rw[vdb.out];omega)⟩
         obtain⟨vjd,vjk,eg,_,vk7⟩:=oO.at hy;injection eg with eg;injection eg with vii eg2;subst vii eg2;have vjg:wrap64 (((k+1:Nat):Int) - 1)=(k:Int):=by unfold wrap64;omega
         have hkk:(k:Int)<(vjz:Int):=by omega
         have hls:=vdd Sd.out hgd.out hy hx
         replace hx:=zh hx
         replace hy:=zh hy
         go_wp2_with (at_mapUpdate;refine iq rfl _ _ _ rfl Tryz.underlying33 vew hml (f:=.int .i64 (i:Int)) rfl rfl rfl uh ?_;intro w8 vdt vhd);rw[hput.out] at vdt;have vfu:=vhd.grown;have xQ:=hby.grown vfu (Nat.le_of_lt vf4) (λb e=>by injection e with e;omega);exact⟨⟨k+1+1,sA,by go_num,vdt,xQ,Nat.lt_of_lt_of_le vf4 vfu.size⟩,by simp only[intOf];omega⟩
      case neg=>
       have hnk:¬(k:Int)<(vjz:Int):=by omega
       have hke:k=vjz:=by omega
       rw[show g.take k=g by rw[hke,←vdb.out,List.take_length],←vde hg.out] at vew;go_wp2_with fail;exact⟨⟨i+1,hlt,by go_num,vew,hby,vf4⟩,by simp only[intOf];omega⟩
    case neg =>
     have hni:¬(i:Int)<(vjx:Int):=by omega
     rw[show G.take i=G by rw[show i=G.length by rw[vfg.out];omega,List.take_length]] at vex;have vgu:=vho.below gN;have vhn:=RM.below gN zr;have Dz:=LV.below gN zr;have veh:(vbo G).length=L.units.length:=by
      rw[←List.length_map (λx:List UInt8×Value=>x.1),vb1,vb6,vbw.vcw hinv.nd]
     have ve0:(bZ L.units).length=L.units.length:=by
      unfold bZ;rw[iP,List.length_map]
     have vij:(((vbo G).length:Int) != ((bZ L.units).length:Int))=false:=by rw[veh,ve0];simp
     have hBm:((bZ L.units).map (van L.units)).length≤20:=by
      have:=hinv.vkl;rw[List.length_map,ve0];exact this
     have HN:=zy _ vgu.read;have hl1:∀ty,(Builtin.len_ #[33] ty #[.map (some w5.heap.size)]).run Tryz.prog wr=.ok (.int .i64 ((vbo G).length:Int)) wr:=λty=>vex.len Tryz.underlying33 ty
     obtain⟨vjo,vey⟩:∃vjo,(bZ L.units).map (van L.units)=vjo:=⟨_,rfl⟩
     rw[vey] at hBm;have hnm:∀u∈vjo,vdc u.name u∧aq L.units u.name=some u:=λu hu=>by
      rw[←vey] at hu;obtain⟨n,hn,rfl⟩:=List.mem_map.1 hu;rw[vbt] at hn;obtain⟨v,hv⟩:=Option.isSome_iff_exists.1 hn;have hi:=hinv.units n v hv;unfold van;rw[hv]
      show vdc v.name v∧aq L.units v.name=some v
      rw[hi.name];exact⟨hi,hv⟩
     have hall:∀n,(aq L.units n).isSome=true→n∈vjo.map (·.name):=λn hn=>by
      obtain⟨u,hu⟩:=Option.isSome_iff_exists.1 hn;rw[←vey,List.map_map,List.mem_map];exact⟨n,vbt.2 hn,by show(van L.units n).name=n;unfold van;rw[hu];exact(hinv.units n u hu).name⟩
     replace hnm:=zh hnm
     replace vey:=zh vey
     replace hall:=zh hall
     replace veh:=zh veh
     replace ve0:=zh ve0
     have hmm:=@run_makeMap Tryz.prog;clear vho RM LV;go_upto_region 22 with(go_at_call 16;refine HN.mono ?_;clear HN;rintro e w7 ⟨nv,rfl,vi2,vfn⟩;obtain⟨np,nc,rfl⟩:=aJ vi2);have vgv:=vgu.below vfn;have RN:=vhn.below vfn zr;have RF:=Dz.below vfn zr;have OD:=vex.below vfn zr;have vdt:=(zb w7).alloc zr (.map #[] 0);have vhm:=aQ.made w7;have Sr:w7.heap.size<(w7.alloc (.map #[] 0)).heap.size:=by simp
     have HU:=vct (vgv.below vdt);rw[vey.out] at HU;clear vhn Dz vex vgu vfn vi2 vij hl1;go_upto_region 24 with(go_at_call 17;refine HU.mono ?_;clear HU;rintro e w9 ⟨⟨uv,rfl,vgx⟩,kM⟩;obtain⟨up,uc,rfl,N4,-⟩:=(show vb0 _ _ _ _ from vgx));generalize w7.alloc (.map #[] 0)=W8 at *;clear hmm;generalize vgf:vjo.length=NB at *
     replace vgf:=zh vgf
     have vfo:=vdt.trans (aa kM vdt.size);have vj5:=kM.size;have vfe:vgn L.units w9 w7.heap.size w9.heap.size []:=⟨[],vhm.below kM zr,nl _,λn hn=>by cases hn⟩;clear kM vhm vdt;go_loopw [96] (λy wx=>∃j:Nat,j≤NB∧y=.int .i64 j∧vgn L.units wx w7.heap.size w9.heap.size ((vjo.take j).map (·.name))∧(∀b,b<w9.heap.size→b≠w7.heap.size→wx.heap[b]? =w9.heap[b]?)∧Below w7.heap.size w7 wx∧w9.heap.size≤wx.heap.size) (λy _=>NB - (intOf y).toNat)
     case atStart=>exact⟨0,Nat.zero_le _,by go_num,vfe,λ_ _ _=>rfl,vfo,nl _⟩
     case round =>
      obtain⟨j,hj,rfl,TP,hkp,hby,vf4⟩:=hrel;clear vfe vfo
      by_cases hjl:j<NB
      case pos =>
       obtain⟨u,hu⟩:∃u,vjo[j]? =some u:=⟨_,List.getElem?_eq_getElem (by rw[vgf.out];exact hjl)⟩
       obtain⟨b,o,rfl,va,vc,vd,U1,xU⟩:=(vgx.agree (w':=wr) λb hb hl=>hkp b hl (by have:=hb.1;omega)).at hu;obtain⟨Fw,JJ,Qt⟩:SS _ _ va u.uses∧CV _ _ vc (aH u.code)∧ck _ _ vd u.used:=⟨U1.a,U1.c,U1.d⟩;clear U1;obtain⟨t1,t2,rfl,-⟩:=Fw.shape;obtain⟨t3,t4,rfl,-⟩:=JJ.shape;obtain⟨t5,t6,rfl,-⟩:=Qt.shape;have c8:=vcr xU;obtain⟨vg5,CJ⟩:=hnm.out u (List.mem_of_getElem? hu);have vj0:(j:Int)<(NB:Int):=by omega
       have uh:u.name.length≤maxLen:=by have:=(vaj vg5.nm).2.1;unfold maxLen;omega
       have Ws:=vg5.nu;have hnx:(vjo.take (j+1)).map (·.name)=(vjo.take j).map (·.name)++[u.name]:=by
        rw[List.take_add_one,hu,List.map_append]
        rfl
       replace hnx:=zh hnx
       replace vg5:=zh vg5
       replace CJ:=zh CJ
       clear xU JJ Qt;go_upto_region 26 with fail;generalize vby:World.alloc _ _=W2;have bO:Below wr.heap.size wr W2:=by rw[←vby];exact(zb wr).alloc zr _
       have Fu:W2.heap[wr.heap.size]? =some (.cells #[.string ⟨u.name.toArray⟩,.int .i64 (u.version:Int),.string ⟨u.source.toArray⟩,.string ⟨u.aO.toArray⟩,.slice t1 u.uses.length t2,.bool u.built,.slice t3 (aH u.code).length t4,.slice t5 u.used.length t6] 41 (0,0)):=by rw[←vby];exact heap_alloc_new wr _
       have NM:wr.heap.size<W2.heap.size:=aj Fu;clear vby c8;obtain⟨AL,vhl,veg,vfc⟩:=TP;have A7:=(zb W2).alloc zr (.map #[] 0);have sF:(W2.alloc (.map #[] 0)).heap.size=W2.heap.size+1:=by simp
       have vfb:=(vhl.below bO zr).below A7 zr;have Fl:=aQ.made W2;have vf3:=ag Fu A7;have hml:AL.length<maxLen:=by
        rw[List.length_map,List.length_take] at veg;unfold maxLen;omega
       have c2:=(vax Fu).1;have c3:=(vax vf3).1;have hmm:=@run_makeMap Tryz.prog;go_upto_region 28 with(at_mapUpdate;refine iq rfl _ _ _ rfl Tryz.underlying35 vfb hml (f:=.map (some W2.heap.size)) rfl rfl rfl uh ?_;intro CL vfa vg2;have vd5:=vg2.grown;have vdy:=(vd5.block wr.heap.size (by omega) (λe=>by injection e with e;omega)).trans vf3;have c10:=(vax vdy).1);clear hmm c2 c3 c10 vfb hml;generalize W2.alloc (.map #[] 0)=W3 at *;have vi5:=vd5.size;have hr3:Below wr.heap.size wr W3:=bO.trans (aa A7 bO.size);have vj3:=hr3.size;have vit:=hby.size;have yx:∀b,b<wr.heap.size→b≠w7.heap.size→CL.heap[b]? =wr.heap[b]? :=λb h1 h2=>(vd5.block b (by omega) (λe=>h2 (by injection e))).trans (hr3.block b h1)
       have vfh:aQ CL W2.heap.size (fO []):=Fl.of_block (vd5.block _ (by omega) (λe=>by injection e with e;omega));have vdg:Below w7.heap.size w7 CL:=(hby.trans (aa hr3 hby.size)).grown vd5 (by omega) (λb e=>by injection e with e;omega);have vg3:=Fw.agree (w':=CL) λb hb hl=>yx b hl (by have:=hb.1;omega)
       have holds:∀n∈(vjo.take j).map (·.name),∃(q:Nat) (S:List (List UInt8)),aq AL n=some (.map (some q))∧aQ CL q (fO S)∧w9.heap.size≤q∧q<wr.heap.size∧∀y,y∈S↔Edge L.units n y:=λn hn=>by
        obtain⟨q,S,k1,k2,k3,k4⟩:=vfc n hn;exact⟨q,S,k1,k2.of_block (yx q k2.lt (by omega)),k3,k2.lt,k4⟩
       have vdh:∀b,b<w9.heap.size→b≠w7.heap.size→CL.heap[b]? =w9.heap[b]? :=λb h1 h2=>(yx b (by omega) h2).trans (hkp b h1 h2)
       have vgq:wr.heap.size<W2.heap.size:=NM;generalize vd3:u.uses.length=vjy at *
       replace vd3:=zh vd3
       replace holds:=zh holds
       replace vdh:=zh vdh
       clear Fw vhl vfc hkp yx Fl A7 vd5 vg2 Fu vf3 hr3 bO;generalize wr.heap.size=vjp at *;have vgy:W2.heap.size<CL.heap.size:=by omega
       clear sF;generalize W2.heap.size=ip at *;go_loopw [107] (λy wx=>∃(k:Nat) (S:List (List UInt8)),k≤vjy∧y=.int .i64 k∧aQ wx ip (fO S)∧(∀z,z∈S↔z∈u.uses.take k∧(aq L.units z).isSome=true)∧S.length≤k∧Below ip CL wx∧ip<wx.heap.size) (λy _=>vjy - (intOf y).toNat)
       case atStart=>exact⟨0,[],Nat.zero_le _,by go_num,vfh,λz=>by simp,nl _,zb _,vgy⟩
       case round =>
        obtain⟨k,S,hk,rfl,Kk,vez,Bc,hbz,hsz⟩:=hrel;clear vfh;have cz:=(vax ((hbz.block vjp vgq).trans vdy)).1
        by_cases sA:k<vjy
        case pos=>
         obtain⟨x,hx⟩:∃x,u.uses[k]? =some x:=⟨_,List.getElem?_eq_getElem (by rw[vd3.out];exact sA)⟩
         obtain⟨bu,ou,rfl,_,vk6⟩:=(vg3.agree (w':=wr) λb hb _=>hbz.block b (by have:=hb.2.lt;omega)).at hx;have vg9:=List.mem_of_getElem? hx;have hxl:x.length≤maxLen:=by have:=(vaj (vg5.out.un x vg9).1).2.1;unfold maxLen;omega
         have vfd:aQ wr w5.heap.size (vbo G):=(OD.below vdg zr).of_block (hbz.block _ (by have:=OD.lt;omega));have hlz:aQ wr w7.heap.size (eN AL u.name (.map (some ip))):=vfa.of_block (hbz.block _ (by omega));have vio:=(RF.fresh.below vdg zr).agree (w':=wr) λb hb _=>hbz.block b (by have:=hb.2;omega)
         have vfx:(k:Int)<(vjy:Int):=by omega
         have qi:u.uses.take (k+1)=u.uses.take k++[x]:=by
          rw[List.take_add_one,hx]
          rfl
         replace hx:=zh hx
         have l1:=vfd.look hxl Tryz.underlying33 (z:=.int .i64 0) (by kernel_rfl);have HC:=vw (sN L.units) x _ wr vio;have vfv:ip≤wr.heap.size:=Nat.le_of_lt hsz
         by_cases hkx:(aq L.units x).isSome=true
         · obtain⟨vke,Ml,vg8⟩:=(vbw.all x).1 hkx
           obtain⟨vkg,vgi⟩:=List.getElem?_of_mem Ml;obtain⟨vkd,viz,vi8⟩:=(vbw.all u.name).1 (by rw[CJ.out];rfl);obtain⟨ju,vgh⟩:=List.getElem?_of_mem viz;have hle:=vbw.vgd ju vkg vkd vke u.name x vgh vgi vi8 vg8 ⟨u,CJ.out,vg9,hkx⟩;have v8:=vbw.vbi vgh vi8;rw[vbw.vbi vgi vg8] at l1;rw[ve2 hkx] at HC;have hgt:¬(ju:Int)<(vkg:Int):=by omega
           have hml:(fO S).length<maxLen:=by
            rw[fP];unfold maxLen;omega
           have hmem:∀z,z∈fq S x↔z∈u.uses.take (k+1)∧(aq L.units z).isSome=true:=λz=>by
            rw[ve,vez,qi,List.mem_append,List.mem_singleton]
            constructor
            · rintro(⟨h1,h2⟩|rfl)
              · exact⟨.inl h1,h2⟩
              · exact⟨.inr rfl,hkx⟩
            · rintro⟨h1|rfl,h2⟩
              · exact .inl ⟨h1,h2⟩
              · exact .inr rfl
           have hal:=zzq S x
           replace hkx:=zh hkx
           replace hmem:=zh hmem
           replace vgi:=zh vgi
           replace vgh:=zh vgh
           replace v8:=zh v8
           clear vez qi;go_wp2_with (first
            | (at_mapUpdate;refine iq rfl _ _ _ rfl Tryz.underlying42 vgt hml (f:=.bool true) rfl rfl rfl hxl ?_;intro vjn vfi vhc)
            | (go_at_call 18;refine HC.mono ?_;clear HC;rintro e Od ⟨rfl,PE⟩;have l2:=(vfd.below PE zr).get uh Tryz.underlying33 (z:=.int .i64 0) (by kernel_rfl);rw[v8.out] at l2;have l3:=(hlz.below PE zr).get uh Tryz.underlying35 (z:=.map none) (by kernel_rfl);rw[kG,if_pos rfl] at l3;have c11:=(vax (ag ((hbz.block vjp vgq).trans vdy) PE)).1;have vgt:=Kk.below PE zr))
           rw[nP] at vfi;have vft:=vhc.grown;have L9:=(hbz.trans (aa PE vfv)).grown vft (by have:=PE.size;omega) (λb e=>by injection e with e;omega);exact⟨⟨k+1,fq S x,sA,by go_num,vfi,hmem.out,by omega,L9,by have:=PE.size;have:=vft.size;omega⟩,by simp only[intOf];omega⟩
         · rw [vdw vbw hkx] at l1
           rw [vdp CJ.out vg9 hkx] at HC;have hmem : ∀ z, z ∈ S ↔ z ∈ u.uses.take (k + 1) ∧ (aq L.units z).isSome = true := fun z => by
            rw[vez,qi,List.mem_append,List.mem_singleton]
            constructor
            · rintro⟨h1,h2⟩
              exact⟨.inl h1,h2⟩
            · rintro⟨h1|rfl,h2⟩
              · exact⟨h1,h2⟩
              · exact absurd h2 hkx
           replace hkx:=zh hkx
           replace hmem:=zh hmem
           clear vez qi;go_wp2_with (go_at_call 18;refine HC.mono ?_;clear HC;rintro e Od ⟨rfl,PE⟩;have c11:=(vax (ag ((hbz.block vjp vgq).trans vdy) PE)).1);exact⟨⟨k+1,S,sA,by go_num,Kk.below PE zr,hmem.out,by omega,hbz.trans (aa PE vfv),by have:=PE.size;omega⟩,by simp only[intOf];omega⟩
        case neg=>
         have hnk:¬(k:Int)<(vjy:Int):=by omega
         have hke:u.uses.take k=u.uses:=by rw[show k=u.uses.length by rw[vd3.out];omega,List.take_length]
         have vff : vgn L.units wr w7.heap.size w9.heap.size ((vjo.take (j + 1)).map (·.name)) := by
          refine⟨eN AL u.name (.map (some ip)),vfa.of_block (hbz.block _ (by omega)),?_,λn hn=>?_⟩
          · rw[xm,hnx.out,List.length_append]
            show(if _ then _ else _)≤_+1
            split
            · exact Nat.le_succ_of_le veg
            · exact Nat.succ_le_succ veg
          · rw [kG]
            by_cases hnn:n=u.name
            · subst hnn
              refine⟨ip,S,by rw[if_pos rfl],Kk,by omega,λy=>?_⟩;rw[vez,hke];exact⟨λh=>⟨u,CJ.out,h.1,h.2⟩,λ⟨u',h1,h2,h3⟩=>by
               rw[CJ.out] at h1;cases h1;exact⟨h2,h3⟩⟩
            · rw[hnx.out,List.mem_append,List.mem_singleton] at hn
              obtain⟨q,S',k1,k2,k3,k4,k5⟩:=holds.out n (hn.resolve_right hnn);exact⟨q,S',by rw[if_neg hnn];exact k1,k2.of_block (hbz.block q (by omega)),k3,k5⟩
         have hkn:∀b,b<w9.heap.size→b≠w7.heap.size→wr.heap[b]? =w9.heap[b]? :=λb h1 h2=>(hbz.block b (by omega)).trans (vdh.out b h1 h2)
         have fS:=vdg.trans (aa hbz (by omega));have vd6:w9.heap.size≤wr.heap.size:=by omega
         replace vff:=zh vff
         replace hkn:=zh hkn
         clear vez hke cz Kk;go_wp2_with fail;exact⟨⟨j+1,hjl,by go_num,vff.out,hkn.out,fS,vd6⟩,by simp only[intOf];omega⟩
      case neg =>
       have vji:¬(j:Int)<(NB:Int):=by omega
       rw[show vjo.take j=vjo by rw[show j=vjo.length by rw[vgf.out];omega,List.take_length]] at TP;have RP:=RN.below hby zr;have vfd:=OD.below hby zr;have vip:=vgv.below hby;have vgp:∀n,(aq L.units n).isSome=true→∃(q:Nat) (S:List (List UInt8)),(∀W,(∀b,b<wr.heap.size→W.heap[b]? =wr.heap[b]?)→(Instr.lookup 35 (.map (some w7.heap.size)) (str n) false).run Tryz.prog W=.ok (.map (some q)) W)∧aQ wr q (fO S)∧∀y,y∈S↔Edge L.units n y:=λn hn=>by
        obtain⟨AL,h1,_,h3⟩:=TP;obtain⟨q,S,k1,k2,_,k4⟩:=h3 n (hall.out n hn);refine⟨q,S,λW hW=>?_,k2,k4⟩;have:=(h1.of_block (hW _ h1.lt)).get (k:=n) (by have:=hnl n hn;unfold maxLen;omega) Tryz.underlying35 (z:=.map none) (by kernel_rfl);rw[k1] at this;exact this
       have vj7:w7.heap.size<wr.heap.size:=by omega
       replace vgp:=zh vgp
       clear TP hkp vgx RN OD RF vgv
       rename World=>wz
       go_upto_region 38 with fail;go_loopw [143] (λy wx=>∃n:Nat,n≤vjx∧y=.int .i64 n∧Below wz.heap.size wz wx) (λy _=>vjx - (intOf y).toNat)
       case atStart=>exact⟨0,Nat.zero_le _,by go_num,zb _⟩
       case round =>
        obtain⟨n,hn,rfl,Ut⟩:=hrel
        by_cases DV:n<vjx
        case neg=>
         have hnn:¬(n:Int)<(vjx:Int):=by omega
         have Pn:=vip.below Ut;have vhj:=s6 wr (ht.below Pn.cV zr) (hm.below Pn.cV) (by have:=Pn.cV.size;omega);go_wp2_with (go_at_call 12;refine vhj.mono ?_;clear vhj;rintro e w14 ⟨rfl,vh0⟩);exact bodyPost_ret (v:=.bool true) (by simp[results,Tryz.results3,go_sem]) rfl ⟨rfl,(Pn.below vh0).cV⟩
        case pos =>
         obtain⟨g,hg⟩:∃g,G[n]? =some g:=⟨_,List.getElem?_eq_getElem (by rw[vfg.out];exact DV)⟩
         obtain⟨b,p',c',rfl,vk4,Pt⟩:=vcz RP hg;have vgo:=Below.keep Ut vk4;have hil:(n:Int)<(vjx:Int):=by omega
         have viy:=Wm g (List.mem_of_getElem? hg);have vej:∀x∈g,(aq L.units x).isSome=true:=λx hx=>(vbw.all x).2 ⟨g,List.mem_of_getElem? hg,hx⟩
         generalize vdb:g.length=vjz at *
         replace vdb:=zh vdb
         replace hg:=zh hg
         replace vej:=zh vej
         go_upto_region 41 with fail;clear vgo;go_loopw [149] (λy wx=>∃k:Nat,k≤vjz∧y=.int .i64 k∧Below wz.heap.size wz wx) (λy _=>vjz - (intOf y).toNat)
         case atStart=>exact⟨0,Nat.zero_le _,by go_num,Ut⟩
         case round =>
          obtain⟨k,hk,rfl,vfq⟩:=hrel;clear Ut
          by_cases sA:k<vjz
          case neg=>
           have hnk:¬(k:Int)<(vjz:Int):=by omega
           go_wp2_with fail;exact⟨⟨n+1,DV,by go_num,vfq⟩,by simp only[intOf];omega⟩
          case pos =>
           obtain⟨f,hf⟩:∃x,g[k]? =some x:=⟨_,List.getElem?_eq_getElem (by rw[vdb.out];exact sA)⟩
           obtain⟨bg,og,rfl,_,vk6⟩:=(Pt.below vfq zr).at hf;have hfg:=List.mem_of_getElem? hf;have hfl:=hnl f (vej.out f hfg);have viv:f.length≤maxLen:=by unfold maxLen;omega
           have vfx:(k:Int)<(vjz:Int):=by omega
           have hmm:=@run_makeMap Tryz.prog;have Rb:=(zb wr).alloc zr (.map #[] 0);have hs1:(wr.alloc (.map #[] 0)).heap.size=wr.heap.size+1:=by simp
           have Cz:=(zb (wr.alloc (.map #[] 0))).alloc zr (.cells #[str f] 9);have Fk:aQ (wr.alloc (.map #[] 0)) wr.heap.size (fO []):=aQ.made wr;have Lu:=Fk.below Cz zr;have hr2:=heap_alloc_new (wr.alloc (.map #[] 0)) (.cells #[str f] 9);rw[hs1] at hr2;have vhk:=Rb.trans (aa Cz (by omega));have vgk:=vfq.size
           replace hf:=zh hf
           go_upto_region 45 with fail;have vfk:vaq ((wr.alloc (.map #[] 0)).alloc (.cells #[str f] 9)) (wr.heap.size+1) (.slice (some ⟨wr.heap.size+1,0,none⟩) 1 1) [f]:=⟨wr.heap.size+1,0,1,#[str f],rfl,nl _,hr2,nl _,by unfold maxLen;decide,by simp,λi s hi=>by
            rcases i with _|i
            · cases hi
              rfl
            · simp at hi⟩
           have hs2:((wr.alloc (.map #[] 0)).alloc (.cells #[str f] 9)).heap.size=wr.heap.size+2:=by simp
           generalize ((wr.alloc (.map #[] 0)).alloc (.cells #[str f] 9))=vk1 at *;have R7:Below wz.heap.size wz vk1:=vfq.trans (aa vhk vgk);clear hmm Rb hs1 Cz Fk hr2 vhk vfq vk6;generalize wr.heap.size=sm at *
           go_loopg [27] (2 * vjz+1) (λgk vky wx=>∃(S T:List (List UInt8)),aQ wx sm (fO S)∧vaq wx (sm+1) vky T∧(∀y∈S,y∈g)∧(∀z∈T,z∈S∨z=f)∧(∀z,z∈S∨z=f→z∉T→∀y,Edge L.units z y→y∈g→y∈S)∧2 * (vjz - S.length)+T.length≤gk∧gk≤2 * vjz+1∧Below sm vk1 wx∧sm+1<wx.heap.size)
           case atStart=>exact⟨[],[f],Lu,vfk,(λy hy=>by cases hy),λz hz=>.inr (List.mem_singleton.1 hz),λz hz Vf=>absurd (hz.elim (λh=>by cases h) λe=>List.mem_singleton.2 e) Vf,by simp,nl _,zb _,by omega⟩
           case round =>
            obtain⟨S,T,hS,hT,vd4,L2,hcl,vgj,viw,vh2,hst⟩:=hrel;clear Lu vfk;have Uu:=R7.trans (aa vh2 vgk);have vgw:S.Nodup:=by
             have:=hS.nd
             rwa [s5] at this
            rcases T with _|⟨x,T⟩
            · obtain⟨gt,vkn,ct,rfl,_,_,_⟩:=hT.shape
              have Bc:1<vjz→S.length=vjz:=λh1=>by
               obtain⟨n0,hn0,hge⟩:=vbw.vf9 g (List.mem_of_getElem? hg.out);have:=vdq (S:=S) hn0 (by rw[←hge];exact hfg) (λz hz y he hy=>hcl z hz (by simp) y he (by rw[hge];exact hy)) (λy hy=>by rw[←hge];exact vd4 y hy) vgw (by rw[←hge,vdb.out];exact h1)
               rwa [←hge,vdb.out] at this
              have l1:∀ty,(Builtin.len_ #[42] ty #[.map (some sm)]).run Tryz.prog wr=.ok (.int .i64 (S.length:Int)) wr:=λty=>by rw[hS.len Tryz.underlying42 ty,fP]
              by_cases h1:1<vjz
              · have vik:(1:Int)<(vjz:Int):=by omega
                have hne:((S.length:Int) != (vjz:Int))=false:=by rw[Bc h1];simp
                clear Bc hcl L2;go_wp2_with fail;exact⟨⟨k+1,sA,by go_num,Uu⟩,by simp only[intOf];omega⟩
              · have vik:¬(1:Int)<(vjz:Int):=by omega
                clear Bc hcl L2;go_wp2_with fail;exact⟨⟨k+1,sA,by go_num,Uu⟩,by simp only[intOf];omega⟩
            · obtain ⟨gt, vkn, ct, rfl, hgt, vjf, hct⟩ := hT.shape
              have vg8:x∈g:=(L2 x (by simp)).elim (vd4 x) (λe=>e▸hfg);have hxl:=hnl x (vej.out x vg8);have uh:x.length≤maxLen:=by unfold maxLen;omega
              obtain⟨px,U,hlk,hU,vfl⟩:=vgp.out x (vej.out x vg8);have dT:=hT.cell (i:=0) (s:=x) rfl;rw[Nat.add_zero] at dT;have vdf:(x::T).length=T.length+1:=List.length_cons;generalize F9:(x::T).length=vkk at *
              replace F9:=zh F9
              have L1:(0:Int)<(vkk:Int):=by omega
              have F8:(1:Int)≤(vkk:Int):=by omega
              replace vdf:=zh vdf
              replace hcl:=zh hcl
              replace L2:=zh L2
              replace vfl:=zh vfl
              replace vd4:=zh vd4
              replace vgj:=zh vgj
              go_upto_region 47 with fail
              go_cut [27] from 162 to 164 (λvky wx=>wx=wr∧vaq wr (sm+1) vky T∧∀b,vky.ownBlock=some b→b=gt)
              case first=>
               by_cases hc1:ct=1
               · subst hc1
                 have vgg:=hT.tail.2 rfl;rw[show vkk - 1=0 by omega] at vgg;go_wp2_with fail
                 go_meet
                 exact⟨rfl,vgg,λb hb=>by injection hb with hb;exact hb.symm⟩
               · have yp:¬ct - 1=0:=by omega
                 have Kr:1≤ct:=by omega
                 have vgg:=hT.tail.1;go_wp2_with fail
                 go_meet
                 exact⟨rfl,vgg,λb hb=>by injection hb with hb;exact hb.symm⟩
              case rest =>
               obtain⟨vg7,vhr,tZ⟩:=hcut;clear L1 F8;subst vg7;have vhh:∀b,b<wz.heap.size→wc.heap[b]? =wz.heap[b]? :=λb hb=>Uu.block b hb
               have lk:=hlk wc vhh;have vhv:aQ wc px (fO U):=hU.of_block (vhh _ hU.lt);have hpx:px<sm:=Nat.lt_of_lt_of_le hU.lt vgk;go_wp2_with (at_range;refine fF rfl _ rfl Tryz.underlying42 rfl vhv ?_;intro w0 qg vU hs0);rw[s5] at qg;have yo:=hS.kept vU (λe=>by cases e);have vfk:=vhr.block (w':=w0) λb hb=>vU.block b (by have:=tZ b hb;omega) (λe=>by cases e)
               have hb0:Below sm vk1 w0:=vh2.grown vU (by omega) (λb e=>by cases e);generalize vhp:wc.heap.size=r at *
               replace vhp:=zh vhp
               go_frame
               have vfz:2 * (vjz - S.length)+T.length+1≤gk:=by have:=vgj.out;have:=vdf.out;omega
               have vhq:=vd4.out;have vht:=L2.out;have vhx:=hcl.out;rw[show decide (0<vkk)=true from decide_eq_true (by have:=vdf.out;omega)];go_loopw [27] (λvky wx=>∃(S2 T2 ss rm:List (List UInt8)),mq wx px r (fO U) rm∧(ss++rm).Perm U∧aQ wx sm (fO S2)∧vaq wx (sm+1) vky T2∧(∀b,vky.ownBlock=some b→b≠r)∧(∀y∈S2,y∈g)∧(∀z∈T2,z∈S2∨z=f)∧(∀y∈ss,y∈g→y∈S2)∧(∀z,z∈S2∨z=f→z∉T2→z≠x→∀y,Edge L.units z y→y∈g→y∈S2)∧2 * (vjz - S2.length)+T2.length+1≤gk∧Below sm vk1 wx∧r<wx.heap.size) (λ_ wx=>wx.rangeLeft px r)
               case atStart=>exact⟨S,T,[],U,qg,.refl _,yo,vfk,λb hb=>by have:=tZ b hb;omega,vhq,λz hz=>vht z (List.mem_cons_of_mem _ hz),(λy hy=>by cases hy),λz hz Vf vf5 y he hy=>vhx z hz (λh=>(List.mem_cons.1 h).elim vf5 Vf) y he hy,vfz,hb0,by omega⟩
               case round =>
                obtain⟨S2,T2,ss,rm,xU,vg1,jO,F8,vf2,hg2,ht2,hss,Gf,hm2,vh3,hrs⟩:=hrel;clear qg yo vfk hb0 vhx vht vhq vgj vfz;go_wp2_with (at_next;refine gw rfl _ rfl rfl xU ?_ ?_)
                · rintro rfl
                  rw[List.append_nil] at vg1;obtain⟨vkb,rfl⟩:∃m,gk=m+1:=⟨gk - 1,by omega⟩
                  have NV:∀z,z∈S2∨z=f→z∉T2→∀y,Edge L.units z y→y∈g→y∈S2:=λz hz Vf y he hy=>by
                   by_cases vf5:z=x
                   · subst vf5
                     exact hss y (vg1.mem_iff.2 ((vfl.out y).2 he)) hy
                   · exact Gf z hz Vf vf5 y he hy
                  replace NV:=zh NV
                  clear Gf hss;go_wp2_with fail
                  go_roundg vkb
                  case measure=>exact Nat.lt_succ_self _
                  case rel=>exact⟨S2,T2,jO,F8,hg2,ht2,NV.out,by omega,by omega,vh3,by omega⟩
                · intro k0 v0 ve7 hk0 vh9 ven yC hg3 sF hlt3 Bj
                  have vi1:k0∈U:=vg1.mem_iff.1 (List.mem_append_right _ hk0);have vhy:=(vfl.out k0).1 vi1;have hkk:(aq L.units k0).isSome=true:=vhy.choose_spec.2.2;have JE:=jf vg1 hk0;have Jg:=jO.kept hg3 (λe=>by injection e with e;omega);have vf0:=F8.block (w':=ve7) λb hb=>hg3.block b (by exact F8.veb b hb) (λe=>vf2 b hb (by injection e))
                  have cK:Below sm vk1 ve7:=vh3.grown hg3 (by omega) (λb e=>by injection e with e;omega);have vid:∀b,b<wz.heap.size→ve7.heap[b]? =wz.heap[b]? :=λb hb=>(R7.trans (aa cK vgk)).block b hb
                  have A7:aQ ve7 w5.heap.size (vbo G):=vfd.of_block (vid _ vfd.lt);obtain⟨vkf,vhz,vea⟩:=(vbw.all k0).1 hkk;obtain⟨vkh,vfw⟩:=List.getElem?_of_mem vhz;have l1:=A7.get ven Tryz.underlying33 (z:=.int .i64 0) (by kernel_rfl);have l2:=A7.get viv Tryz.underlying33 (z:=.int .i64 0) (by kernel_rfl);rw[vbw.vbi vfw vea] at l1;rw[vbw.vbi hg.out hfg] at l2;have l3:=zv Jg ven;have vg6:r<ve7.heap.size:=by omega
                  have hjn:k0∈g→vkh=n:=λhin=>vbw.dj vkh n vkf g k0 vfw hg.out vea hin
                  have vh8:¬k0∈g→vkh≠n:=λhin e=>hin (by rw[e,hg.out] at vfw;cases vfw;exact vea)
                  replace JE:=zh JE
                  replace vf2:=zh vf2
                  replace hg2:=zh hg2
                  replace ht2:=zh ht2
                  clear xU jO F8 vh3 vh9 vhy hg3 vid vhh vg1 A7 vfw vhz vea hkk vi1 lk hlk vhv hT hS vhr vh2 Uu tZ vU hs0 dT F9 hcl L2 vd4 vfl vdf
                  by_cases hin:k0∈g
                  · obtain rfl:=hjn hin
                    have heq:((vkh:Int)==(vkh:Int))=true:=by simp
                    by_cases hiS:k0∈S2
                    · rw [decide_eq_true hiS] at l3
                      have vd6:∀y∈ss++[k0],y∈g→y∈S2:=λy hy vea=>by
                       rcases List.mem_append.1 hy with hy|hy
                       · exact hss y hy vea
                       · rw[List.mem_singleton.1 hy]
                         exact hiS
                      replace vd6:=zh vd6
                      replace Gf:=zh Gf
                      clear hss;go_wp2_with fail;exact⟨⟨S2,T2,ss++[k0],rm.erase k0,yC,JE.out,Jg,vf0,vf2.out,hg2.out,ht2.out,vd6.out,Gf.out,hm2,cK,vg6⟩,hlt3⟩
                    · rw [decide_eq_false hiS] at l3
                      have vfj:S2.Nodup:=by
                       have:=Jg.nd
                       rwa [s5] at this
                      have hlen:S2.length+1≤vjz:=by
                       have:=vah (a:=k0::S2) (b:=g) (List.nodup_cons.2 ⟨hiS,vfj⟩) λy hy=>by
                        rcases List.mem_cons.1 hy with rfl|hy
                        · exact hin
                        · exact hg2.out y hy
                       rw[vdb.out,List.length_cons] at this;exact this
                      have hml:(fO S2).length<maxLen:=by
                       rw[fP];unfold maxLen;omega
                      have PC:fq S2 k0=S2++[k0]:=by
                       unfold fq;rw[if_neg hiS]
                      have vd6:∀y∈ss++[k0],y∈g→y∈S2++[k0]:=λy hy vea=>by
                       rcases List.mem_append.1 hy with hy|hy
                       · exact List.mem_append_left _ (hss y hy vea)
                       · exact List.mem_append_right _ hy
                      have NV:∀z,z∈S2++[k0]∨z=f→z∉T2++[k0]→z≠x→∀y,Edge L.units z y→y∈g→y∈S2++[k0]:=λz hz Vf vf5 y he hy=>by
                       refine List.mem_append_left _ (Gf z ?_ (λh=>Vf (List.mem_append_left _ h)) vf5 y he hy);rcases hz with hz|hz
                       · rcases List.mem_append.1 hz with hz|hz
                         · exact .inl hz
                         · exact absurd (List.mem_append_right _ hz) Vf
                       · exact .inr hz
                      have vek:∀y∈S2++[k0],y∈g:=λy hy=>by
                       rcases List.mem_append.1 hy with hy|hy
                       · exact hg2.out y hy
                       · rw[List.mem_singleton.1 hy]
                         exact hin
                      have vep:∀z∈T2++[k0],z∈S2++[k0]∨z=f:=λz hz=>by
                       rcases List.mem_append.1 hz with hz|hz
                       · rcases ht2.out z hz with h|h
                         · exact .inl (List.mem_append_left _ h)
                         · exact .inr h
                       · exact .inl (List.mem_append_right _ hz)
                      have F9:T2.length≤100000:=by omega
                      replace vd6:=zh vd6
                      replace NV:=zh NV
                      replace vek:=zh vek
                      replace vep:=zh vep
                      replace PC:=zh PC
                      replace hiS:=zh hiS
                      clear hss Gf hg2 ht2 vfj;go_wp2_with (first
                       | (at_builtin;refine vbn rfl _ _ rfl rfl vir F9 ⟨vds.heap.size,0,none⟩ 1 rfl (by rw[Addr.add_lit];exact(af (heap_alloc_new vds (.cells #[str k0] 9)) (0+0)).trans rfl) (by simp;omega) ?_;intro v6 vev Uc HH vhb)
                       | (at_mapUpdate;refine iq rfl _ _ _ rfl Tryz.underlying42 Jg hml (f:=.bool true) rfl rfl rfl ven ?_;intro vds Hu vj8;have hg4:=vj8.grown;have vj4:=hg4.size;have vir:=(vf0.block (w':=vds) λb hb=>hg4.block b (vf0.veb b hb) (λe=>by injection e with e;have:=vf0.ve8 b hb;omega)).below ((zb vds).alloc zr (.cells #[str k0] 9)) zr))
                      rw[nP,PC.out] at Hu;have D8:=HH.size;have ow:(vds.alloc (.cells #[str k0] 9)).heap.size=vds.heap.size+1:=by simp
                      have UR:∀b,b<ve7.heap.size→b≠sm→vds.heap[b]? =ve7.heap[b]? :=λb h1 h2=>hg4.block b h1 (λe=>by injection e with e;exact h2 e)
                      have ME:∀b,b<vds.heap.size→(∀c,Value.ownBlock u27=some c→b≠c)→vev.heap[b]? =vds.heap[b]? :=λb h1 h2=>(HH.block b (by omega) (λe=>h2 b e.symm rfl)).trans (((zb vds).alloc zr (.cells #[str k0] 9)).block b h1)
                      have vel:=vf0.ve8;have vfr:=vf2.out;have vk8:vev.heap[px]? =ve7.heap[px]? :=(ME px (by omega) λc hc e=>by have:=vel c hc;omega).trans (UR px (by omega) (by omega));have vk9:vev.heap[r]? =ve7.heap[r]? :=(ME r (by omega) λc hc e=>vfr c hc e.symm).trans (UR r (by omega) (by omega));have DA:aQ vev sm (fO (S2++[k0])):=Hu.of_block (ME sm Hu.lt λc hc e=>by have:=vel c hc;omega);have hb4:Below sm vk1 vds:=cK.grown hg4 (by omega) (λb e=>by injection e with e;omega);have rE:Below sm vk1 vev:=(hb4.alloc (by omega) (.cells #[str k0] 9)).grown HH (by omega) (λb e=>by have:=vel b e;omega);have vh1:∀b,v6.ownBlock=some b→b≠r:=λb hb e=>by
                       rcases vhb b hb with h|h
                       · exact vfr b h e
                       · omega
                      have vha:vev.rangeLeft px r<wr.rangeLeft px r:=by rw[gu vk8 vk9];exact hlt3
                      have vj1:2 * (vjz - (S2++[k0]).length)+(T2++[k0]).length+1≤gk:=by rw[List.length_append,List.length_append,List.length_singleton];omega
                      have KE:r<vev.heap.size:=by omega
                      exact⟨⟨S2++[k0],T2++[k0],ss++[k0],rm.erase k0,yC.of_block vk8 vk9,JE.out,DA,Uc,vh1,vek.out,vep.out,vd6.out,NV.out,vj1,rE,KE⟩,vha⟩
                  · have hne:((vkh:Int)==(n:Int))=false:=by
                     have:=vh8 hin;simp;omega
                    have vd6:∀y∈ss++[k0],y∈g→y∈S2:=λy hy ver=>by
                     rcases List.mem_append.1 hy with hy|hy
                     · exact hss y hy ver
                     · rw[List.mem_singleton.1 hy] at ver
                       exact absurd ver hin
                    replace vd6:=zh vd6
                    replace Gf:=zh Gf
                    clear hss;go_wp2_with fail;exact⟨⟨S2,T2,ss++[k0],rm.erase k0,yC,JE.out,Jg,vf0,vf2.out,hg2.out,ht2.out,vd6.out,Gf.out,hm2,cK,vg6⟩,hlt3⟩
