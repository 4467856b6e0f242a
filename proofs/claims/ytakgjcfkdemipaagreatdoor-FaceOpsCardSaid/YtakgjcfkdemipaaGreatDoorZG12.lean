/-
  Lemmas for the statement: contract: the program's kind.sorted at parts: a few parts in the order of their names. Contracts: slices.stableCmpFunc, slices.SortStableFunc and kind.sorted at a few parts. Contracts: whether a part has no name (slices.ContainsFunc at api.Part); parts as lists (plain, and in memory). Conditions: bounds of lengths; the variable strings.asciiSpace.
-/
import Derived.Shelf.SlSortCmp.InsertionK
import Derived.Test.YtakgjcfkdemipaaGreatDoorZGn
import Derived.Test.YtakgjcfkdemipaaGreatDoorZG10
import Derived.Test.YtakgjcfkdemipaaGreatDoorZG11
set_option maxHeartbeats 6400000
namespace Go.Proofs.YtakgjcfkdemipaaGreatDoor
open Go.RowKit Go.Sort
abbrev PV:=List UInt8×Tr×Option Addr×Nat×Nat
def ET (x:PV):List Value:=[str x.1,.int .u8 x.2.1.k,str x.2.1.n,.slice x.2.2.1 x.2.2.2.1 x.2.2.2.2]
def Gr (W W':World):Prop:=∃q os,W'=grow (W.drewN q) os
theorem Gr.refl (W:World):Gr W W:=⟨0,#[],by simp[World.drewN]⟩
theorem Gr.alloc {W W':World} (h:Gr W W') (o:Obj):Gr W (W'.alloc o):=by
 obtain⟨q,os,rfl⟩:=h
 exact⟨q,os++ #[o],by rw[alloc_eq_grow,grow_grow]⟩
theorem Gr.drew {W W':World} (h:Gr W W'):Gr W W'.drew:=by
 obtain⟨q,os,rfl⟩:=h
 exact⟨q+1,os,rfl⟩
end Go.Proofs.YtakgjcfkdemipaaGreatDoor
namespace Go.Proofs.YtakgjcfkdemipaaGreatDoor
open Go.RowKit Go.Sort Go.Shelf
instance:Inhabited Tr:=⟨⟨0,[],.nil⟩⟩
theorem Ag:∀(ps:List PV) (t:Nat),t<ps.length * 4→(ps.flatMap ET)[t]? =some ((ET ps.toArray[t / 4]!)[t % 4]!)
 | [],t,h=>by simp at h
 | x :: ps, t, h => by
  have hx:(ET x).length=4:=rfl;rw[List.flatMap_cons]
  by_cases ht:t<4
  · rw[List.getElem?_append_left (by rw[hx];exact ht),show t / 4=0 from by omega,show t % 4=t from by omega]
    have:(x::ps).toArray[0]! =x:=by simp
    rw[this,List.getElem?_eq_getElem (by rw[hx];exact ht),List.getElem!_eq_getElem?_getD,List.getElem?_eq_getElem (by rw[hx];exact ht)]
    rfl
  · rw[List.getElem?_append_right (by rw[hx];omega),hx,Ag ps (t - 4) (by simp only[List.length_cons] at h;omega)]
    have h1:(t - 4) % 4=t % 4:=by omega
    have h2:t / 4=(t - 4) / 4+1:=by omega
    have h3:(x::ps).toArray[(t - 4) / 4+1]! =ps.toArray[(t - 4) / 4]! :=by
     simp only[List.getElem!_toArray,List.getElem!_eq_getElem?_getD,List.getElem?_cons_succ]
    rw[h1,h2,h3]
end Go.Proofs.YtakgjcfkdemipaaGreatDoor
namespace Go.Proofs.YtakgjcfkdemipaaGreatDoor
open Go.RowKit Go.Sort Go.Shelf
end Go.Proofs.YtakgjcfkdemipaaGreatDoor
namespace Go.Proofs.YtakgjcfkdemipaaGreatDoor
open Go.RowKit
def DS (w:World) (v:Value) (ps:List (List UInt8×List UInt8)):Prop:=
 (v=.slice none 0 0∧ps=[])∨∃b o c,v=.slice (some ⟨b,o,none⟩) ps.length c∧b<w.heap.size∧∀j (h:j<ps.length),w.cell? ⟨b,o+j * 2,none⟩=some (str ps[j].1)∧w.cell? ⟨b,o+j * 2+1,none⟩=some (str ps[j].2)
theorem DS.below {w w':World} {v:Value} {ps:List (List UInt8×List UInt8)} (h:DS w v ps) (hb:Below w.heap.size w w'):DS w' v ps:=by
 rcases h with h|⟨b,o,c,rfl,hl,hc⟩
 · exact .inl h
 · refine .inr ⟨b,o,c,rfl,Nat.lt_of_lt_of_le hl hb.size,λj h=>⟨Below.keep hb (hc j h).1,Below.keep hb (hc j h).2⟩⟩
theorem DS.shape {w:World} {v:Value} {ps:List (List UInt8×List UInt8)} (h:DS w v ps):∃p c,v=.slice p ps.length c:=by
 rcases h with⟨rfl,rfl⟩|⟨b,o,c,rfl,_⟩
 · exact⟨none,0,rfl⟩
 · exact⟨_,_,rfl⟩
theorem DS.at {w:World} {v:Value} {ps:List (List UInt8×List UInt8)} (h:DS w v ps) {j:Nat} (hj:j<ps.length):∃b o c x,v=.slice (some ⟨b,o,none⟩) ps.length c∧ps[j]? =some x∧w.cell? ⟨b,o+j * 2,none⟩=some (str x.1)∧w.cell? ⟨b,o+j * 2+1,none⟩=some (str x.2):=by
 rcases h with⟨rfl,rfl⟩|⟨b,o,c,rfl,hl,hc⟩
 · simp at hj
 · exact⟨b,o,c,ps[j],rfl,List.getElem?_eq_getElem hj,(hc j hj).1,(hc j hj).2⟩
end Go.Proofs.YtakgjcfkdemipaaGreatDoor
namespace Go.Proofs.YtakgjcfkdemipaaGreatDoor
open Go.RowKit
def PR (w:World) (D:Nat→Prop) (v:Value) (l:List PV):Prop:=
 w.ownsRow 0 192 4 v l.length (l.flatMap ET)∧(∀b,v.ownBlock=some b→D b)∧∀x∈l,eX w (λb=>D b∧v.ownBlock≠some b) x.2.1.sub (.slice x.2.2.1 x.2.2.2.1 x.2.2.2.2)
theorem PR.nil (w:World) (D:Nat→Prop):PR w D (.slice none 0 0) []:=⟨World.ownsRow_nil _ _ _ _,by intro b h;simp[Value.ownBlock] at h,by simp⟩
theorem PR.shape {w:World} {D:Nat→Prop} {v:Value} {l:List PV} (h:PR w D v l):∃p c,v=.slice p l.length c:=aS h.1
theorem PR.sorted {w w':World} {D:Nat→Prop} {g cap:Nat} {l qs:List PV} (h:PR w D (.slice (some ⟨g,0,none⟩) l.length cap) l) (hp:qs.Perm l) (ho:w'.ownsRow 0 192 4 (.slice (some ⟨g,0,none⟩) l.length cap) l.length (qs.flatMap ET)) (hg:w.grownBy w' (some g)):PR w' D (.slice (some ⟨g,0,none⟩) qs.length cap) qs:=by
 rw[hp.length_eq]
 refine⟨by rw[hp.length_eq];exact ho,h.2.1,λx hx=>?_⟩
 exact(h.2.2 x (hp.mem_iff.1 hx)).kept λb hb hlt=>hg.block b hlt λe=>hb.2 (by first|(rw[e];done)|(rw[e];rfl))
theorem EW {l:List PV} {j:Nat} {x:PV} (h:l[j]? =some x):(l.flatMap ET)[j * 4]? =some (str x.1):=by
 obtain⟨hj,e⟩:=List.getElem?_eq_some_iff.1 h
 rw[Ag l (j * 4) (by omega)]
 rw[show j * 4 / 4=j by omega,show j * 4 % 4=0 by omega]
 rw[getElem!_pos l.toArray j (by simpa using hj)]
 simp only[List.getElem_toArray,e]
 rfl
theorem PR.name {w:World} {D:Nat→Prop} {g cap n:Nat} {l:List PV} (h:PR w D (.slice (some ⟨g,0,none⟩) n cap) l) {j:Nat} {x:PV} (hx:l[j]? =some x):w.cell? ⟨g,j * 4,none⟩=some (str x.1):=by
 have h2:=(World.ownsRow.cells h.1 (g:=g) rfl) (j * 4) _ (EW hx)
 by_cases h0:j=0
 · subst h0;simpa[Addr.add] using h2
 · have h4:¬j * 4=0:=by omega
   simpa[Addr.add,h4,h0] using h2
end Go.Proofs.YtakgjcfkdemipaaGreatDoor
namespace Go.Proofs.YtakgjcfkdemipaaGreatDoor
open Go.RowKit Go.Sort
end Go.Proofs.YtakgjcfkdemipaaGreatDoor
namespace Go.Proofs.YtakgjcfkdemipaaGreatDoor
open Go.RowKit
def Fo.pts:Fo→List (List UInt8×List UInt8)
 | .nil=>[]
 | .cons pn k n sub rest=>(pn,Tr.txt ⟨k,n,sub⟩)::rest.pts
theorem Fo.qH:∀fo:Fo,fo.pts.length=fo.len
 | .nil=>rfl
 | .cons pn k n sub rest=>by rw[Fo.pts,List.length_cons,Fo.qH rest];rfl
def p7 (ps:List (List UInt8×List UInt8)):List Value:=ps.flatMap λx=>[str x.1,str x.2]
theorem Bh:∀(ps:List (List UInt8×List UInt8)) (j:Nat) (h:j<ps.length),(p7 ps)[j * 2]? =some (str ps[j].1)∧(p7 ps)[j * 2+1]? =some (str ps[j].2)
 | [],j,h=>by simp at h
 | x::ps,0,_=>⟨rfl,rfl⟩
 | x::ps,j+1,h=>by
  have:=Bh ps j (by simpa using h);unfold p7 at this ⊢;simp only[List.flatMap_cons];rw[show(j+1) * 2=j * 2+1+1 from by omega];exact this
theorem xW (ps:List (List UInt8×List UInt8)) (x:List UInt8×List UInt8):p7 (ps++[x])=p7 ps++[str x.1,str x.2]:=by simp[p7]
theorem DS.bG {w:World} {base:Nat} {e:TypeId} {v:Value} {ps:List (List UInt8×List UInt8)} (h:w.ownsRow base e 2 v ps.length (p7 ps)):DS w v ps:=by
 rcases h.2 with⟨rfl,h0⟩|⟨g,cap,cur,rfl,_⟩
 · exact .inl ⟨rfl,List.length_eq_zero_iff.1 h0⟩
 · refine .inr ⟨g,0,cap,rfl,aV h rfl,λj hj=>?_⟩
   have hc:∀j x,(p7 ps)[j]? =some x→w.cell? ⟨g,j,none⟩=some x:=by
    intro j x hx;have:=h.cells (g:=g) rfl _ _ hx;simp only[Addr.add] at this;split at this
    · rename_i e;rw[e];exact this
    · simpa using this
   have h2:=Bh ps j hj;rw[Nat.zero_add];exact⟨hc _ _ h2.1,hc _ _ h2.2⟩
theorem IL:(Tryz.prog.info? 155).map (λi=>(i.zero,i.size,i.bytes))=some (some (.agg #[.string ⟨#[]⟩,.string ⟨#[]⟩]),2,32):=by kernel_rfl
theorem BR:Tryz.prog.underlying 151=some (.slice 155):=by kernel_rfl
theorem Fx {b pn:List UInt8} {k:Nat} {n:List UInt8} {sub rest:Fo} {s:List UInt8} {i:Nat} (h:Wf (some b) (.cons pn k n sub rest)) (hs:s.drop i=(Fo.cons pn k n sub rest).tx++[93]) (hi:i≤s.length):
 aj (s.drop i)=pn.length∧List.drop i (List.take (i+pn.length) s)=pn∧eB (s.drop (i+pn.length+1))=(Tr.txt ⟨k,n,sub⟩).length∧List.drop (i+pn.length+1) (List.take (i+pn.length+1+(Tr.txt ⟨k,n,sub⟩).length) s)=Tr.txt ⟨k,n,sub⟩∧
 i+pn.length+(Tr.txt ⟨k,n,sub⟩).length+2≤s.length∧((rest=.nil∧i+pn.length+(Tr.txt ⟨k,n,sub⟩).length+2=s.length)∨(Wf (some pn) rest∧s.drop (i+pn.length+(Tr.txt ⟨k,n,sub⟩).length+2)=rest.tx++[93])):=by
 have key:∀(c:UInt8) (Y:List UInt8),isName pn=true→Wf none (.cons [] k n sub .nil)→(c=93∨c=44)→s.drop i=pn++58::((Fo.cons [] k n sub .nil).tx++c::Y)→
  aj (s.drop i)=pn.length∧List.drop i (List.take (i+pn.length) s)=pn∧eB (s.drop (i+pn.length+1))=(Tr.txt ⟨k,n,sub⟩).length∧List.drop (i+pn.length+1) (List.take (i+pn.length+1+(Tr.txt ⟨k,n,sub⟩).length) s)=Tr.txt ⟨k,n,sub⟩∧
  s.length=i+pn.length+(Tr.txt ⟨k,n,sub⟩).length+2+Y.length∧s.drop (i+pn.length+(Tr.txt ⟨k,n,sub⟩).length+2)=Y:=by
  intro c Y hn h hc hs;have ho:(Tr.mk k n sub).ok:=h;have e:(Fo.cons [] k n sub .nil).tx=(Tr.mk k n sub).txt:=by rw[Tr.eT];rfl
  rw[e] at hs;generalize hT:(Tr.mk k n sub).txt=T at hs ⊢;have hlen:s.length=i+pn.length+T.length+2+Y.length:=by
   have:=congrArg List.length hs;simp only[List.length_drop,List.length_append,List.length_cons] at this;omega
  have d1:s.drop (i+pn.length+1)=T++c::Y:=by
   rw[show i+pn.length+1=i+(pn.length+1) from by omega,←List.drop_drop,hs,←List.drop_drop,List.drop_left];rfl
  refine⟨?_,?_,?_,?_,hlen,?_⟩
  · rw[hs];exact nh _ (eO hn) _ (by rw[bI];rfl)
  · rw[List.drop_take,hs];simp
  · rw[d1,←hT]
    refine Eq.trans ?_ rfl;unfold eB;rw[ho.reads (r:=c::Y) (by rcases hc with rfl|rfl;exact kV _;exact oZ _)];simp
  · rw[List.drop_take,d1];simp
  · rw[show i+pn.length+T.length+2=(i+pn.length+1)+(T.length+1) from by omega,←List.drop_drop,d1,←List.drop_drop,List.drop_left];rfl
 cases h with
 | last _ _ _ _ _ hn hb h=>
  rw[Fo.jr,fB hn] at hs;obtain⟨a1,a2,a3,a4,a5,a6⟩:=key 93 [] hn h (.inl rfl) (by rw[hs];simp);exact⟨a1,a2,a3,a4,by omega,.inl ⟨rfl,by rw[a5];rfl⟩⟩
 | more _ _ _ _ _ _ hn hb h h2=>
  rw[Fo.js _ _ _ _ _ h2.ne,fB hn] at hs;obtain⟨a1,a2,a3,a4,a5,a6⟩:=key 44 (rest.tx++[93]) hn h (.inr rfl) (by rw[hs];simp);exact⟨a1,a2,a3,a4,by omega,.inr ⟨h2,a6⟩⟩
def mU (s:List UInt8) (fo:Fo) (i:Nat) (ps:List (List UInt8×List UInt8)):Prop:=∃OC,fo.pts=ps++OC.pts∧i≤s.length∧((OC=.nil∧i=s.length)∨∃b,Wf (some b) OC∧s.drop i=OC.tx++[93])
theorem mU.cases {s:List UInt8} {fo:Fo} {i:Nat} {ps:List (List UInt8×List UInt8)} (h:mU s fo i ps):(i=s.length∧fo.pts=ps)∨
 ∃n m,∃a b:List UInt8,i<s.length∧aj (s.drop i)=n∧List.drop i (List.take (i+n) s)=a∧eB (s.drop (i+n+1))=m∧List.drop (i+n+1) (List.take (i+n+1+m) s)=b∧i+n+m+2≤s.length∧mU s fo (i+n+m+2) (ps++[(a,b)])∧ps.length<fo.len:=by
 obtain⟨OC,h1,hi,h2|⟨b,h2,h3⟩⟩:=h
 · obtain⟨rfl,rfl⟩:=h2
   exact .inl ⟨rfl,by rw[h1];simp[Fo.pts]⟩
 · cases OC with
   | nil=>exact absurd rfl h2.ne
   | cons pn k n sub rest=>
    obtain⟨a1,a2,a3,a4,a5,a6⟩:=Fx h2 h3 hi;have hl:ps.length<fo.len:=by
     have:=congrArg List.length h1;rw[Fo.qH,List.length_append,Fo.qH] at this;simp only[Fo.len] at this;omega
    refine .inr ⟨pn.length,_,pn,_,by omega,a1,a2,a3,a4,a5,⟨rest,by rw[h1,Fo.pts];simp,a5,?_⟩,hl⟩;rcases a6 with⟨rfl,e⟩|⟨e1,e2⟩
    · exact .inl ⟨rfl,e⟩
    · exact .inr ⟨pn,e1,e2⟩
theorem mU.start {k:Nat} {n:List UInt8} {fo:Fo} (h:(Tr.mk k n fo).ok) (hk:k=5∨k=6):mU (Tr.txt ⟨k,n,fo⟩) fo (aj (Tr.txt ⟨k,n,fo⟩)+1) []:=by
 have h':Wf none (.cons [] k n fo .nil):=h
 have e:(Tr.mk k n fo).txt=(Fo.cons [] k n fo .nil).tx:=by rw[Tr.eT];rfl
 have hw:=jk h' (by omega)
 rw[e,Fo.dR,nh _ hw _ (mZ _)]
 clear h e
 cases h' with
 | par=>simp at hk
 | word _ h3=>omega
 | arr=>simp at hk
 | nam=>simp at hk
 | app=>simp at hk
 | rcd _ _ _ hk2 h hl=>
  rw[Fo.jG h.ne];refine⟨fo,by simp,by simp,.inr ⟨[],h,?_⟩⟩;rw[←List.drop_drop,List.drop_left];rfl
set_option maxRecDepth 100000 in
theorem F4 (t:Tr) (h:t.ok) (hk:t.k=5∨t.k=6) (hl:t.txt.length≤100) (hf:t.sub.len≤6) (w:World):
 Calls Tryz.prog 200 #[str t.txt] w λe w'=>∃v,e=.returned v∧DS w' v t.sub.pts∧Below w.heap.size w w':=by
 have hS:=mU.start (k:=t.k) (n:=t.n) (fo:=t.sub) h hk
 have hc0:=cL t.txt
 obtain⟨i0,fV,hz0,hz1,hz2⟩:=info_parts IL
 change mU t.txt t.sub (aj t.txt+1) [] at hS
 have hb0:aj t.txt+1≤t.txt.length:=by obtain⟨_,_,h,_⟩:=hS;exact h
 generalize t.txt=s at *
 generalize t.sub=fo at *
 have HS:=Lib.hid hS
 clear hS h hk
 go_enter Tryz.func200,Tryz.ntmps200
 go_wp2_with (go_at_call 162;refine(bz _ _ (by unfold maxLen;omega)).mono ?_;rintro e w1 ⟨rfl,rfl⟩)
 go_loopw [3,4] (λo y wr=>∃(i:Nat) (ps:List (List UInt8×List UInt8)),i≤s.length∧y=.int .i64 i∧ps.length≤6∧wr.ownsRow w.heap.size 155 2 o ps.length (p7 ps)∧Hid (mU s fo i ps)∧Below w.heap.size w wr) (λ_ y _=>s.length - (intOf y).toNat)
 case atStart=>exact⟨aj s+1,[],hb0,by go_num,by simp,by simpa[p7] using World.ownsRow_nil _ _ _ _,HS,Below.refl _ _⟩
 case round =>
  obtain⟨i,ps,hi,rfl,hp6,hown,HL,hb⟩:=hrel;obtain⟨po,co,rfl⟩:=aS hown;rcases HL.out.cases with⟨rfl,hz⟩|⟨n,m,a,b,hlt,hn,ha,hm,hbb,hle,hnx,hpl⟩
  · obtain rfl:fo.pts=ps:=hz
    go_wp2_with fail;go_ret;exact⟨_,rfl,DS.bG hown,hb⟩
  · have hK:=λW=>bz (s.drop i) W (by simp;unfold maxLen;omega)
    have hR:=λW=>vk (s.drop (i+n+1)) 0 W (Int.le_refl _) (by simp;omega)
    rw[hn] at hK;rw[hm] at hR;generalize jN (s.drop (i+n+1))=L at hR;have HA:=Lib.hid ha;have Xt:=Lib.hid hbb;have Oq:=Lib.hid hnx;clear ha hbb hnx hn hm HL;go_upto_region 6 with(first
     | (go_at_call 162;refine(hK _).mono ?_;clear hK;rintro e w1 ⟨rfl,rfl⟩)
     | (go_at_call 140;refine(hR _).mono ?_;clear hR;rintro e w2 ⟨rfl,aA⟩))
    have aK:=hb.trans (af aA hb.size);have bq:=az hown aA (nl _);have s1:IntKind.i64.wrap ((i:Int)+(n:Int))=(i:Int)+(n:Int):=by rw[IntKind.wrap_i64];omega
    have s2:IntKind.i64.wrap ((i:Int)+(n:Int)+1)=(i:Int)+(n:Int)+1:=by rw[IntKind.wrap_i64];omega
    have s3:IntKind.i64.wrap ((i:Int)+(n:Int)+1+(m:Int))=(i:Int)+(n:Int)+1+(m:Int):=by rw[IntKind.wrap_i64];omega
    have t1:((i:Int)+(n:Int)).toNat=i+n:=by omega
    have t2:((i:Int)+(n:Int)+1).toNat=i+n+1:=by omega
    have t3:((i:Int)+(n:Int)+1+(m:Int)).toNat=i+n+1+m:=by omega
    have u1:(i:Int)≤(i:Int)+(n:Int):=by omega
    have u2:(i:Int)+(n:Int)≤(s.length:Int):=by omega
    have u3:(i:Int)+(n:Int)+1≤(i:Int)+(n:Int)+1+(m:Int):=by omega
    have u4:(i:Int)+(n:Int)+1+(m:Int)≤(s.length:Int):=by omega
    have u5:(0:Int)≤(i:Int)+(n:Int)+1:=by omega
    refine wp_region_held_drew (S:=(λ_=>True)) (by kernel_rfl) ?_ (λef=>?_)
    · trivial
    refine ey (i:=0) (d:=some 29) (v:=?_) rfl (by kernel_rfl) (by kernel_rfl) (by kernel_rfl) (by kernel_rfl) (λ_ _ _ h=>h) (by assumption) (by kernel_rfl) ?_ ?_;rotate_left
    · intro w aP
      try dsimp only at aP
      go_simp;try with_reducible rfl
    try simp only[pz,pw]
    refine ey (i:=1) (d:=some 30) (v:=?_) rfl (by kernel_rfl) (by kernel_rfl) (by kernel_rfl) (by kernel_rfl) (λ_ _ _ h=>h) (by assumption) (by kernel_rfl) ?_ ?_;rotate_left
    · intro w aP
      try dsimp only at aP
      go_simp;try with_reducible rfl
    try simp only[pz,pw]
    refine ey (i:=2) (d:=some 31) (v:=?_) rfl (by kernel_rfl) (by kernel_rfl) (by kernel_rfl) (by kernel_rfl) (λ_ _ _ h=>h) (by assumption) (by kernel_rfl) ?_ ?_;rotate_left
    · intro w aP
      try dsimp only at aP
      go_simp;try with_reducible rfl
    try simp only[pz,pw]
    refine ey (i:=3) (d:=some 32) (v:=?_) rfl (by kernel_rfl) (by kernel_rfl) (by kernel_rfl) (by kernel_rfl) (λ_ _ _ h=>h) (by assumption) (by kernel_rfl) ?_ ?_;rotate_left
    · intro w aP
      try dsimp only at aP
      go_simp;try with_reducible rfl
    try simp only[pz,pw]
    refine ey (i:=4) (d:=some 33) (v:=?_) rfl (by kernel_rfl) (by kernel_rfl) (by kernel_rfl) (by kernel_rfl) (λ_ _ _ h=>h) (by assumption) (by kernel_rfl) ?_ ?_;rotate_left
    · intro w aP
      try dsimp only at aP
      go_simp;try with_reducible rfl
    try simp only[pz,pw]
    refine ey (i:=5) (d:=some 34) (v:=?_) rfl (by kernel_rfl) (by kernel_rfl) (by kernel_rfl) (by kernel_rfl) (λ_ _ _ h=>h) (by assumption) (by kernel_rfl) ?_ ?_;rotate_left
    · intro w aP
      try dsimp only at aP
      go_simp;try with_reducible rfl
    try simp only[pz,pw]
    refine ey (i:=6) (d:=some 35) (v:=?_) rfl (by kernel_rfl) (by kernel_rfl) (by kernel_rfl) (by kernel_rfl) (λ_ _ _ h=>h) (by assumption) (by kernel_rfl) ?_ ?_;rotate_left
    · intro w aP
      try dsimp only at aP
      go_simp;try with_reducible rfl
    try simp only[pz,pw]
    refine ey (i:=7) (d:=some 36) (v:=?_) rfl (by kernel_rfl) (by kernel_rfl) (by kernel_rfl) (by kernel_rfl) (λ_ _ _ h=>h) (by assumption) (by kernel_rfl) ?_ ?_;rotate_left
    · intro w aP
      try dsimp only at aP
      go_simp;try with_reducible rfl
    try simp only[pz,pw]
    refine ey (i:=8) (d:=some 37) (v:=?_) rfl (by kernel_rfl) (by kernel_rfl) (by kernel_rfl) (by kernel_rfl) (λ_ _ _ h=>h) (by assumption) (by kernel_rfl) ?_ ?_;rotate_left
    · intro w aP
      try dsimp only at aP
      go_simp;try with_reducible rfl
    try simp only[pz,pw]
    refine ey (i:=9) (d:=some 38) (v:=?_) rfl (by kernel_rfl) (by kernel_rfl) (by kernel_rfl) (by kernel_rfl) (λ_ _ _ h=>h) (by assumption) (by kernel_rfl) ?_ ?_;rotate_left
    · intro w aP
      try dsimp only at aP
      go_simp;try with_reducible rfl
    try simp only[pz,pw]
    refine ey (i:=10) (d:=some 39) (v:=?_) rfl (by kernel_rfl) (by kernel_rfl) (by kernel_rfl) (by kernel_rfl) (λ_ _ _ h=>h) (by assumption) (by kernel_rfl) ?_ ?_;rotate_left
    · intro w aP
      try dsimp only at aP
      go_simp;try with_reducible rfl
    try simp only[pz,pw]
    refine ey (i:=11) (d:=some 40) (v:=?_) rfl (by kernel_rfl) (by kernel_rfl) (by kernel_rfl) (by kernel_rfl) (λ_ _ _ h=>h) (by assumption) (by kernel_rfl) ?_ ?_;rotate_left
    · intro w aP
      try dsimp only at aP
      go_simp;try with_reducible rfl
    try simp only[pz,pw]
    refine ey (i:=12) (d:=some 41) (v:=?_) rfl (by kernel_rfl) (by kernel_rfl) (by kernel_rfl) (by kernel_rfl) (λ_ _ _ h=>h) (by assumption) (by kernel_rfl) ?_ ?_;rotate_left
    · intro w aP
      try dsimp only at aP
      go_simp;try with_reducible rfl
    try simp only[pz,pw]
    refine ey (i:=13) (d:=some 42) (v:=?_) rfl (by kernel_rfl) (by kernel_rfl) (by kernel_rfl) (by kernel_rfl) (λ_ _ _ h=>h) (by assumption) (by kernel_rfl) ?_ ?_;rotate_left
    · intro w aP
      try dsimp only at aP
      go_simp;try with_reducible rfl
    try simp only[pz,pw]
    refine ey (i:=14) (d:=some 43) (v:=?_) rfl (by kernel_rfl) (by kernel_rfl) (by kernel_rfl) (by kernel_rfl) (λ_ _ _ h=>h) (by assumption) (by kernel_rfl) ?_ ?_;rotate_left
    · intro w aP
      try dsimp only at aP
      go_simp;try with_reducible rfl
    try simp only[pz,pw]
    refine ey (i:=15) (d:=some 44) (v:=?_) rfl (by kernel_rfl) (by kernel_rfl) (by kernel_rfl) (by kernel_rfl) (λ_ _ _ h=>h) (by assumption) (by kernel_rfl) ?_ ?_;rotate_left
    · intro w aP
      try dsimp only at aP
      go_simp;try with_reducible rfl
    try simp only[pz,pw]
    refine ey (i:=16) (d:=some 45) (v:=?_) rfl (by kernel_rfl) (by kernel_rfl) (by kernel_rfl) (by kernel_rfl) (λ_ _ _ h=>h) (by assumption) (by kernel_rfl) ?_ ?_;rotate_left
    · intro w aP
      try dsimp only at aP
      go_simp;try with_reducible rfl
    try simp only[pz,pw]
    refine ey (i:=17) (d:=some 46) (v:=?_) rfl (by kernel_rfl) (by kernel_rfl) (by kernel_rfl) (by kernel_rfl) (λ_ _ _ h=>h) (by assumption) (by kernel_rfl) ?_ ?_;rotate_left
    · intro w aP
      try dsimp only at aP
      go_simp;try with_reducible rfl
    try simp only[pz,pw]
    refine ey (i:=18) (d:=some 47) (v:=?_) rfl (by kernel_rfl) (by kernel_rfl) (by kernel_rfl) (by kernel_rfl) (λ_ _ _ h=>h) (by assumption) (by kernel_rfl) ?_ ?_;rotate_left
    · intro w aP
      try dsimp only at aP
      go_simp;try with_reducible rfl
    try simp only[pz,pw]
    refine ey (i:=19) (d:=some 48) (v:=?_) rfl (by kernel_rfl) (by kernel_rfl) (by kernel_rfl) (by kernel_rfl) (λ_ _ _ h=>h) (by assumption) (by kernel_rfl) ?_ ?_;rotate_left
    · intro w aP
      try dsimp only at aP
      go_simp;try with_reducible rfl
    try simp only[pz,pw]
    refine wpAnyH_ready (rs:=[20]) (by kernel_rfl) (by simp) ?_;refine AllReadyH.cons rfl (λK hK=>?_) AllReadyH.nil;go_simp;go_wp2_with (fail);refine hK.out _ _ ?_ (λef=>?_)
    · trivial
    clear hK K;try simp only[pz,pw]
    refine wpAnyH_ready (rs:=[21]) (by kernel_rfl) (by simp) ?_;refine AllReadyH.cons rfl (λK hK=>?_) AllReadyH.nil;refine wp_append_own _ _ _ 151 rfl w.heap.size 155 i0 (.agg #[.string ⟨#[]⟩,.string ⟨#[]⟩]) 2 32 BR fV hz0 hz1 hz2 rfl (by decide) (.slice po ps.length co) ps.length (p7 ps) rfl (by exact bq.alloc _) ⟨w2.heap.size,0,none⟩ 1 1 [str (List.drop i (List.take (i+n) s)),str (List.drop (i+n+1) (List.take (i+n+1+m) s))] rfl rfl (λj u h=>cell_two_new w2 _ _ _ j u h) (λx hx=>by simp at hx;rcases hx with rfl|rfl<;>rfl) (by unfold maxLen;omega) (by omega) (by have:=aK.size;simp;omega) ?_;intro v' w5 bM hgr _;refine hK.out _ _ trivial (λef=>?_);clear hK K;try simp only[Act.put,List.setIfInBounds_toArray]
    refine wpAnyH_ready (rs:=[22]) (by kernel_rfl) (by simp) ?_;refine AllReadyH.cons rfl (λK hK=>?_) AllReadyH.nil;go_simp;refine hK.out _ _ trivial (λef=>?_);clear hK K;refine wpAnyH_done (by kernel_rfl) ?_ _;have iE:Below w.heap.size w w5:=((aK.alloc aK.size (.cells #[str (List.drop i (List.take (i+n) s)),str (List.drop (i+n+1) (List.take (i+n+1+m) s))] 155)).drew).grown hgr (by have:=aK.size;simp;omega) (λb e=>(bq.lt b e).1);clear s1 s2 s3 t1 t2 t3 u1 u2 u3 u4 u5;go_wp2_with fail;refine⟨⟨i+n+m+2,ps++[(a,b)],hle,by go_num,by simp only[List.length_append,List.length_cons,List.length_nil];omega,?_,Oq.out,iE⟩,by simp only[intOf];omega⟩;rw[List.length_append,xW,←HA.out,←Xt.out];exact bM
end Go.Proofs.YtakgjcfkdemipaaGreatDoor
namespace Go.Proofs.YtakgjcfkdemipaaGreatDoor
open Go.RowKit
theorem y7 {s:List UInt8} {l:List Nat} {T:Tr} (h:aq s=(0,T)) (hk:l.contains T.k=true):lX s l=(0,T):=by unfold lX;rw[h];simp only[if_true];rw[hk];rfl
theorem Da {s:List UInt8} {l:List Nat} {T:Tr} (h:aq s=(0,T)) (hk:l.contains T.k=false):lX s l=(30,⟨0,[],.nil⟩):=by unfold lX;rw[h];simp only[if_true];rw[hk];rfl
theorem y6 {s:List UInt8} {l:List Nat} {T:Tr} {c:Nat} (h:aq s=(c,T)) (hc:c≠0):lX s l=(c,⟨0,[],.nil⟩):=by unfold lX;rw[h];simp only;rw[if_neg hc,(jR h hc).2]
theorem DU {T:Tr} (h:T.ok) (hk:T.k=4∨T.k=7):(T.sub.len=0∧aj T.txt=T.txt.length)∨
 (T.sub.len≠0∧aj T.txt+2≤T.txt.length∧List.drop (aj T.txt+1) (List.take (T.txt.length - 1) T.txt)=T.sub.first.txt∧T.sub.first.txt≠[]):=by
 obtain⟨k,n,sub⟩:=T
 have h':Wf none (.cons [] k n sub .nil):=h
 have hw:=jk h' (by simp only at hk;omega)
 simp only at hk ⊢
 rw[Tr.eT,Fo.one,Fo.dR,nh _ hw _ (mZ _)]
 have key:∀a:Fo,Wf none a→sub=a→sub.len≠0∧(cB k n).length+2≤(cB k n++sub.br).length∧List.drop ((cB k n).length+1) (List.take ((cB k n++sub.br).length - 1) (cB k n++sub.br))=sub.first.txt∧sub.first.txt≠[]:=by
  intro a ha e;subst e;obtain⟨A,rfl⟩:=ha.one;have hp:0<A.txt.length:=by
   have:=iF (Tr.ok.reads' (t:=A) ha)
   simpa using this
  have hf:(Fo.one A).first=A:=rfl
  rw[Fo.jG (by simp[Fo.one]),hf,←Tr.eT];refine⟨by simp[Fo.one,Fo.len],by simp,?_,λh=>by rw[h] at hp;simp at hp⟩;rw[show cB k n++91::(A.txt++[93])=(cB k n++91::A.txt)++[93] from by simp];have e2:((cB k n++91::A.txt)++[93]).length - 1=(cB k n++91::A.txt).length:=by rw[List.length_append];simp
  rw[e2,List.take_left,←List.drop_drop,List.drop_left]
  rfl
 clear h
 cases h' with
 | par=>simp at hk
 | word _ h3=>omega
 | arr _ h=>exact .inr (key _ h rfl)
 | rcd _ _ _ hk2=>omega
 | nam n hn=>exact .inl ⟨rfl,by simp[Fo.br]⟩
 | app _ _ _ h=>exact .inr (key _ h rfl)
set_option maxRecDepth 4000 in
theorem FW (T:Tr) (h:T.ok) (hk:T.k=4∨T.k=7) (hm:T.txt.length≤100) (w:World):
 Calls Tryz.prog 199 #[str T.txt] w λe w'=>e=.returned (str (if T.sub.len=0 then [] else T.sub.first.txt))∧w=w':=by
 have hc:=DU h hk
 have hC:=λW=>bz T.txt W (by unfold maxLen;omega)
 generalize T.txt=s at *
 generalize T.sub.first.txt=f at *
 have hle:=cL s
 generalize aj s=n at *
 generalize T.sub.len=N at *
 clear h hk
 rcases hc with⟨h0,h1⟩|⟨h0,h1,h2,h3⟩
 · rw[if_pos h0]
   have g:((n:Int)==(s.length:Int))=true:=by rw[h1];simp
   clear h0 h1;go_enter Tryz.func199,Tryz.ntmps199;go_wp2_with (go_at_call 162;refine(hC _).mono ?_;clear hC;rintro e w1 ⟨rfl,rfl⟩);go_ret;exact⟨rfl,rfl⟩
 · rw[if_neg h0]
   have g:((n:Int)==(s.length:Int))=false:=by rw[beq_eq_false_iff_ne];omega
   have H2:=Lib.hid h2;have hs1:1≤s.length:=by omega
   clear h0 h2 h3;go_enter Tryz.func199,Tryz.ntmps199;go_wp2_with (go_at_call 162;refine(hC _).mono ?_;clear hC;rintro e w1 ⟨rfl,rfl⟩);go_ret;rw[H2.out];exact⟨rfl,rfl⟩
theorem DK {s:List UInt8} {T:Tr} (h:aq s=(0,T)):T.ok∧T.txt=s∧s.length≤100∧kE s=T.k:=by
 obtain⟨h1,h2,h3,_⟩:=bE h
 exact⟨h1,h2,h3,by rw[←h2,h1.kE]⟩
set_option maxRecDepth 4000 in
theorem uY (s : List UInt8) (hm : s.length ≤ maxLen) (w : World) : Calls Tryz.prog 130 #[str s] w fun e w' => e = .returned (.tuple #[str (bQ s).1, .bool (bQ s).2.1, .int .i64 (bQ s).2.2]) ∧ Below w.heap.size w w' := by
 have hC:=λW=>eN s hm W
 have hK:=λW=>mh s hm W
 unfold bQ
 rcases hq:aq s with⟨c,T⟩
 rw[hq] at hC
 by_cases h0:c=0
 · subst h0
   obtain⟨o1,e1,l1,k1⟩:=DK hq;rw[k1] at hK
   by_cases hk:T.k=4∨T.k=7
   · have hA:=λW=>FW T o1 hk (by rw[e1];exact l1) W
     rw[e1] at hA;have ha:=DU o1 hk;rw[y7 hq (by rcases hk with h|h<;>rw[h]<;>rfl)];simp only;rcases ha with⟨n0,_⟩|⟨n0,_,_,n1⟩
     · rw[if_neg (by rw[n0];simp)]
       rw[if_pos n0] at hA;rcases hk with hk|hk
       all_goals
        rw[hk] at hK;clear hq o1 e1 l1 k1 hk n0;go_enter Tryz.func130,Tryz.ntmps130;go_wp2_with (first
         | (go_at_call 84;refine(hC _).mono ?_;clear hC;rintro e w1 ⟨rfl,ay⟩)
         | (go_at_call 164;refine(hK _).mono ?_;clear hK;rintro e w2 ⟨rfl,rfl⟩)
         | (go_at_call 199;refine(hA _).mono ?_;clear hA;rintro e w3 ⟨rfl,rfl⟩))
        go_ret3
        exact⟨rfl,ay⟩
     · rw[if_pos ⟨trivial,n0⟩]
       rw[if_neg n0] at hA;generalize T.sub.first.txt=F at hA n1 ⊢
       have g:(F==[])=false:=by simpa using n1
       rcases hk with hk|hk
       all_goals
        rw[hk] at hK;clear hq o1 e1 l1 k1 hk n0 n1;go_enter Tryz.func130,Tryz.ntmps130;go_wp2_with (first
         | (go_at_call 84;refine(hC _).mono ?_;clear hC;rintro e w1 ⟨rfl,ay⟩)
         | (go_at_call 164;refine(hK _).mono ?_;clear hK;rintro e w2 ⟨rfl,rfl⟩)
         | (go_at_call 199;refine(hA _).mono ?_;clear hA;rintro e w3 ⟨rfl,rfl⟩))
        go_ret3
        exact⟨rfl,ay⟩
   · have Nx:T.k≠4:=λh=>hk (.inl h)
     have kS:T.k≠7:=λh=>hk (.inr h)
     rw[Da hq (by simp[Nx,kS])];simp only;rw[if_neg (by simp)];generalize T.k=K at hK Nx kS;have g1:((K:Int) != 4)=true:=by rw[bne_iff_ne];omega
     have g2:((K:Int) != 7)=true:=by rw[bne_iff_ne];omega
     clear hq o1 e1 l1 k1 hk Nx kS;go_enter Tryz.func130,Tryz.ntmps130;go_wp2_with (first
      | (go_at_call 84;refine(hC _).mono ?_;clear hC;rintro e w1 ⟨rfl,ay⟩)
      | (go_at_call 164;refine(hK _).mono ?_;clear hK;rintro e w2 ⟨rfl,rfl⟩))
     go_ret3
     exact⟨rfl,ay⟩
 · rw[y6 hq h0]
   simp only;rw[if_neg (by simp[h0])];obtain⟨g1,g2⟩:=bC h0;clear hq h0 hK;go_enter Tryz.func130,Tryz.ntmps130;go_wp2_with (go_at_call 84;refine(hC _).mono ?_;clear hC;rintro e w1 ⟨rfl,ay⟩)
   go_ret3
   exact⟨rfl,ay⟩
theorem EM {T:Tr} (h:T.ok) (hk:T.k=7):List.take (aj T.txt) T.txt=T.n:=by
 obtain⟨k,n,sub⟩:=T
 obtain rfl:k=7:=hk
 have h':Wf none (.cons [] 7 n sub .nil):=h
 rw[Tr.eT,Fo.one,Fo.dR]
 exact(gv (jk h' (by decide)) (mZ _)).1
set_option maxRecDepth 4000 in
theorem x9 (s:List UInt8) (hm:s.length≤maxLen) (w:World):Calls Tryz.prog 129 #[str s] w λe w'=>e=.returned (.tuple #[str (dI s).1,.int .i64 (dI s).2])∧Below w.heap.size w w':=by
 have hC:=λW=>eN s hm W
 have hK:=λW=>mh s hm W
 have hT:=λW=>bz s W hm
 unfold dI
 rcases hq:aq s with⟨c,T⟩
 rw[hq] at hC
 by_cases h0:c=0
 · subst h0
   obtain⟨o1,e1,l1,k1⟩:=DK hq;rw[k1] at hK
   by_cases hk:T.k=7
   · have hn:=EM o1 hk
     rw[e1] at hn;have HN:=Lib.hid hn;have hle:=cL s;rw[y7 hq (by rw[hk];rfl)];simp only;rw[hk] at hK;clear hq o1 e1 k1 hk hn;go_enter Tryz.func129,Tryz.ntmps129;go_wp2_with (first
      | (go_at_call 84;refine(hC _).mono ?_;clear hC;rintro e w1 ⟨rfl,ay⟩)
      | (go_at_call 164;refine(hK _).mono ?_;clear hK;rintro e w2 ⟨rfl,rfl⟩)
      | (go_at_call 162;refine(hT _).mono ?_;clear hT;rintro e w3 ⟨rfl,rfl⟩))
     go_ret2;rw[←HN.out];exact⟨rfl,ay⟩
   · rw[Da hq (by simp[hk])]
     generalize T.k=K at hK hk;have g1:((K:Int) != 7)=true:=by rw[bne_iff_ne];omega
     clear hq o1 e1 l1 k1 hk hT;go_enter Tryz.func129,Tryz.ntmps129;go_wp2_with (first
      | (go_at_call 84;refine(hC _).mono ?_;clear hC;rintro e w1 ⟨rfl,ay⟩)
      | (go_at_call 164;refine(hK _).mono ?_;clear hK;rintro e w2 ⟨rfl,rfl⟩))
     go_ret2;exact⟨rfl,ay⟩
 · rw[y6 hq h0]
   obtain⟨g1,g2⟩:=bC h0;clear hq h0 hK hT;go_enter Tryz.func129,Tryz.ntmps129;go_wp2_with (go_at_call 84;refine(hC _).mono ?_;clear hC;rintro e w1 ⟨rfl,ay⟩);go_ret2;exact⟨rfl,ay⟩
def cK (s:List UInt8):List (List UInt8×List UInt8)×Nat:=if(lX s [5,6]).1=0 then((lX s [5,6]).2.sub.pts,0) else([],(lX s [5,6]).1)
theorem zh {T:Tr} (h:T.ok) (hk:T.k=5∨T.k=6):T.sub.len≤6:=by
 obtain⟨k,n,sub⟩:=T
 have h':Wf none (.cons [] k n sub .nil):=h
 simp only at hk ⊢
 clear h
 cases h' with
 | par=>simp at hk
 | word _ h3=>omega
 | arr _ h=>simp at hk
 | rcd _ _ _ hk2 h hl=>exact hl
 | nam _ _=>simp at hk
 | app _ _ _ h=>simp at hk
set_option maxRecDepth 4000 in
theorem vq (s:List UInt8) (hm:s.length≤maxLen) (w:World):Calls Tryz.prog 134 #[str s] w λe w'=>∃v,e=.returned (.tuple #[v,.int .i64 (cK s).2])∧DS w' v (cK s).1∧Below w.heap.size w w':=by
 have hC:=λW=>eN s hm W
 have hK:=λW=>mh s hm W
 unfold cK
 rcases hq:aq s with⟨c,T⟩
 rw[hq] at hC
 by_cases h0:c=0
 · subst h0
   obtain⟨o1,e1,l1,k1⟩:=DK hq;rw[k1] at hK
   by_cases hk:T.k=5∨T.k=6
   · have hA:=λW=>F4 T o1 hk (by rw[e1];exact l1) (zh o1 hk) W
     rw[e1] at hA;rw[y7 hq (by rcases hk with h|h<;>rw[h]<;>rfl)];simp only[if_true];rcases hk with hk|hk
     all_goals
      rw[hk] at hK;clear hq o1 e1 l1 k1 hk;go_enter Tryz.func134,Tryz.ntmps134;go_wp2_with (first
       | (go_at_call 84;refine(hC _).mono ?_;clear hC;rintro e w1 ⟨rfl,ay⟩)
       | (go_at_call 164;refine(hK _).mono ?_;clear hK;rintro e w2 ⟨rfl,rfl⟩)
       | (go_at_call 200;refine(hA _).mono ?_;clear hA;rintro e w3 ⟨v,rfl,hv,aK⟩;obtain⟨p,cc,rfl⟩:=hv.shape))
      go_ret2;exact⟨_,rfl,hv,ay.trans (af aK ay.size)⟩
   · have Nx:T.k≠5:=λh=>hk (.inl h)
     have kS:T.k≠6:=λh=>hk (.inr h)
     rw[Da hq (by simp[Nx,kS])];simp only;rw[if_neg (by simp)];generalize T.k=K at hK Nx kS;have g1:((K:Int) != 5)=true:=by rw[bne_iff_ne];omega
     have g2:((K:Int) != 6)=true:=by rw[bne_iff_ne];omega
     clear hq o1 e1 l1 k1 hk Nx kS;go_enter Tryz.func134,Tryz.ntmps134;go_wp2_with (first
      | (go_at_call 84;refine(hC _).mono ?_;clear hC;rintro e w1 ⟨rfl,ay⟩)
      | (go_at_call 164;refine(hK _).mono ?_;clear hK;rintro e w2 ⟨rfl,rfl⟩))
     go_ret2;exact⟨_,rfl,.inl ⟨rfl,rfl⟩,ay⟩
 · rw[y6 hq h0]
   simp only;rw[if_neg h0];obtain⟨g1,g2⟩:=bC h0;clear hq h0 hK;go_enter Tryz.func134,Tryz.ntmps134;go_wp2_with (go_at_call 84;refine(hC _).mono ?_;clear hC;rintro e w1 ⟨rfl,ay⟩);go_ret2;exact⟨_,rfl,.inl ⟨rfl,rfl⟩,ay⟩
end Go.Proofs.YtakgjcfkdemipaaGreatDoor
namespace Go.Proofs.YtakgjcfkdemipaaGreatDoor
open Go.RowKit
theorem Fo.Ji:∀(fo:Fo) (i:Nat) (pn:List UInt8) (t:Tr),fo.at i=some (pn,t)→fo.pts[i]? =some (pn,t.txt)
 | .nil,_,_,_,h=>by simp[Fo.at] at h
 | .cons wD k n sub rest,0,pn,t,h=>by
  simp only[Fo.at,Option.some.injEq,Prod.mk.injEq] at h;obtain⟨rfl,rfl⟩:=h
  rfl
 | .cons wD k n sub rest,i+1,pn,t,h=>by
  rw[Fo.pts,List.getElem?_cons_succ];exact Fo.Ji rest i pn t h
theorem Fo.MR {fo:Fo} {i:Nat} {pn:List UInt8} {t:Tr} (h:fo.at i=some (pn,t)):t.txt.length≤fo.tx.length:=by
 have:=jL _ _ _ (fo.tC i pn t h)
 rw[List.length_append] at this
 unfold Fo.tx
 omega
set_option maxRecDepth 4000 in
theorem ux (s:List UInt8) (hm:s.length≤maxLen) (w:World) (ht:fN w):Calls Tryz.prog 241 #[str s] w λe w'=>∃v,e=.returned (.tuple #[v,.int .i64 (cK s).2])∧DS w' v (cK s).1∧Below w.heap.size w w':=by
 have hb0:=(Below.refl _ w).alloc (nl _) (.cells #[.int .u8 5,.int .u8 6] 5)
 have bY:=heap_alloc_new w (.cells #[.int .u8 5,.int .u8 6] 5)
 have HC:=Db s [5,6] w.heap.size 2 hm _ (ht.below hb0 (nl _)) (by simp) (λj h=>by
  have h:j<2:=h;rcases(show j=0∨j=1 by omega) with rfl|rfl
  · exact(ak bY 0).trans rfl
  · exact(ak bY 1).trans rfl)
 clear bY
 unfold oV at HC
 unfold cK
 rcases hq:lX s [5,6] with⟨C,T⟩
 rw[hq] at HC
 simp only at HC ⊢
 by_cases h0:C=0
 case neg=>
  obtain⟨g1,g2⟩:=bC h0;rw[if_neg h0];clear hq h0;go_enter Tryz.func241,Tryz.ntmps241;go_wp2_with (go_at_call 176;refine HC.mono ?_;clear HC;rintro e w1 ⟨v,rfl,hv,ay⟩;obtain⟨p,cc,rfl,_⟩:=hv.shape);have hs1:=ay.size;simp only[World.size_alloc] at hs1;go_ret2;exact⟨_,rfl,.inl ⟨rfl,rfl⟩,(hb0.trans (af ay (by simp))).alloc (by omega) _⟩
 case pos =>
  subst h0;rw[if_pos rfl];obtain⟨hk,hk2⟩:=uJ hq;obtain⟨o1,e1,l1,_⟩:=bE hk;have hfl:=zh o1 (by simpa using hk2);have GG:T.sub.tx.length≤100:=by
   have:=(Fo.zv [] T.k T.n T.sub .nil).2.1;have h2:(Fo.one ⟨T.k,T.n,T.sub⟩).tx.length=T.txt.length:=by rw[Tr.eT]
   rw[e1] at h2;omega
  obtain⟨i0,fV,hz0,hz1,hz2⟩:=info_parts IL;generalize T.sub=fo at *;clear hq hk hk2 o1 e1;go_enter Tryz.func241,Tryz.ntmps241;go_wp2_with (go_at_call 176;refine HC.mono ?_;clear HC;rintro e w1 ⟨v,rfl,hv,ay⟩;obtain⟨p,cc,rfl,_⟩:=hv.shape);have hbz:=(hb0.trans (af ay (by simp))).alloc (by have:=ay.size;simp at this;omega) (.cells #[.int .u8 T.k,.string ⟨T.n.toArray⟩,.slice p fo.len cc] 174);have WT:=hv.below ((Below.refl _ w1).alloc (nl _) (.cells #[.int .u8 T.k,.string ⟨T.n.toArray⟩,.slice p fo.len cc] 174)) (nl _);generalize w1.alloc (.cells #[.int .u8 T.k,.string ⟨T.n.toArray⟩,.slice p fo.len cc] 174)=wz at hbz WT ⊢;clear hv ay;go_loopw [6,21] (λo y wr=>∃i:Nat,i≤fo.len∧y=.int .i64 i∧wr.ownsRow wz.heap.size 155 2 o i (p7 (fo.pts.take i))∧Below w.heap.size w wr∧Below wz.heap.size wz wr) (λ_ y _=>fo.len - (intOf y).toNat)
  case atStart=>exact⟨0,Nat.zero_le _,by go_num,by simpa[p7] using World.ownsRow_nil _ _ _ _,hbz,Below.refl _ _⟩
  case round=>
   obtain⟨i,hi,rfl,hown,hb,xk⟩:=hrel;obtain⟨po,co,rfl⟩:=aS hown
   by_cases hlt:i<fo.len
   case neg=>
    have hie:i=fo.pts.length:=by rw[Fo.qH];omega
    have hrow:wr.ownsRow wz.heap.size 155 2 (.slice po i co) fo.pts.length (p7 fo.pts):=by
     rw[hie,List.take_of_length_le (nl _)] at hown;rw[hie];exact hown
    clear hie;go_wp2_with fail;go_ret2;exact⟨_,rfl,DS.bG hrow,hb⟩
   case pos=>
    obtain⟨g,cc',pn,t,uv,he,_,hg,hat,x0,x1,x2,x3,hu⟩:=(WT.below xk (nl _)).at hlt;injection he with Ns Ea QY;subst Ns QY;obtain⟨pt,ct,rfl,_⟩:=hu.shape;have htl:t.txt.length≤1000000:=by have:=Fo.MR hat;omega
    have vV:=Lib.hid (qg _ _ _ (Fo.Ji fo i pn t hat));have mQ:=hb.alloc hb.size (.cells #[str pn,.int .u8 t.k,str t.n,.slice pt t.sub.len ct] 192);have oM:=az hown ((Below.refl _ wr).alloc (nl _) (.cells #[str pn,.int .u8 t.k,str t.n,.slice pt t.sub.len ct] 192)).drew (nl _);clear hat;go_upto_region 8 with fail;have hA:=heap_alloc_new wr (.cells #[str pn,.int .u8 t.k,str t.n,.slice pt t.sub.len ct] 192);have U5:=hu.below ((Below.refl _ wr).alloc (nl _) (.cells #[str pn,.int .u8 t.k,str t.n,.slice pt t.sub.len ct] 192)).drew (nl _);have q0:=(ak hA 0).trans rfl;have q1:=(ak hA 1).trans rfl;have q2:=(ak hA 2).trans rfl;have q3:=(ak hA 3).trans rfl;refine wp_region_held_drew (S:=(λW=>W.cell? ⟨wr.heap.size,0,none⟩=some (str pn)∧W.cell? ⟨wr.heap.size,1,none⟩=some (.int .u8 t.k)∧W.cell? ⟨wr.heap.size,2,none⟩=some (str t.n)∧W.cell? ⟨wr.heap.size,3,none⟩=some (.slice pt t.sub.len ct))) (by kernel_rfl) ?_ (λef=>?_)
    · exact⟨q0,q1,q2,q3⟩
    refine ey (i:=0) (d:=some 25) (v:=?_) rfl (by kernel_rfl) (by kernel_rfl) (by kernel_rfl) (by kernel_rfl) (λ_ _ _ h=>h) (by assumption) (by kernel_rfl) ?_ ?_;rotate_left
    · intro w aP
      try dsimp only at aP
      go_simp;try with_reducible rfl
    try simp only[pz,pw]
    refine ey (i:=1) (d:=some 26) (v:=?_) rfl (by kernel_rfl) (by kernel_rfl) (by kernel_rfl) (by kernel_rfl) (λ_ _ _ h=>h) (by assumption) (by kernel_rfl) ?_ ?_;rotate_left
    · intro w aP
      try dsimp only at aP
      go_simp;try with_reducible rfl
    try simp only[pz,pw]
    refine ey (i:=2) (d:=some 27) (v:=?_) rfl (by kernel_rfl) (by kernel_rfl) (by kernel_rfl) (by kernel_rfl) (λ_ _ _ h=>h) (by assumption) (by kernel_rfl) ?_ ?_;rotate_left
    · intro w aP
      obtain⟨r0,r1,r2,r3⟩:=aP;go_simp;try with_reducible rfl
    try simp only[pz,pw]
    refine ey (i:=3) (d:=some 28) (v:=?_) rfl (by kernel_rfl) (by kernel_rfl) (by kernel_rfl) (by kernel_rfl) (λ_ _ _ h=>h) (by assumption) (by kernel_rfl) ?_ ?_;rotate_left
    · intro w aP
      try dsimp only at aP
      go_simp;try with_reducible rfl
    try simp only[pz,pw]
    refine ey (i:=4) (d:=some 29) (v:=?_) rfl (by kernel_rfl) (by kernel_rfl) (by kernel_rfl) (by kernel_rfl) (λ_ _ _ h=>h) (by assumption) (by kernel_rfl) ?_ ?_;rotate_left
    · intro w aP
      obtain⟨r0,r1,r2,r3⟩:=aP;go_simp;try with_reducible rfl
    try simp only[pz,pw]
    refine wpAnyH_ready (rs:=[5]) (by kernel_rfl) (by simp) ?_;refine AllReadyH.cons rfl (λK hK=>?_) AllReadyH.nil;go_simp;go_wp2_with ((go_at_call 175;refine(gG t _ _ _ U5 htl).mono ?_;rintro e w5 ⟨rfl,cW⟩));refine hK.out _ _ ?_ (λef=>?_)
    · exact⟨Below.keep cW q0,Below.keep cW q1,Below.keep cW q2,Below.keep cW q3⟩
    clear hK K;try simp only[pz,pw]
    refine ey (i:=6) (d:=some 31) (v:=?_) rfl (by kernel_rfl) (by kernel_rfl) (by kernel_rfl) (by kernel_rfl) (λ_ _ _ h=>h) (by assumption) (by kernel_rfl) ?_ ?_;rotate_left
    · intro w aP
      try dsimp only at aP
      go_simp;try with_reducible rfl
    try simp only[pz,pw]
    refine wpAnyH_ready (rs:=[7]) (by kernel_rfl) (by simp) ?_;refine AllReadyH.cons rfl (λK hK=>?_) AllReadyH.nil;go_simp;go_wp2_with (fail);refine hK.out _ _ ?_ (λef=>?_)
    · exact⟨Below.keep (cW.alloc cW.size _) q0,Below.keep (cW.alloc cW.size _) q1,Below.keep (cW.alloc cW.size _) q2,Below.keep (cW.alloc cW.size _) q3⟩
    clear hK K;try simp only[pz,pw]
    refine wpAnyH_ready (rs:=[8]) (by kernel_rfl) (by simp) ?_;refine AllReadyH.cons rfl (λK hK=>?_) AllReadyH.nil;refine wp_append_own _ _ _ 151 rfl wz.heap.size 155 i0 (.agg #[.string ⟨#[]⟩,.string ⟨#[]⟩]) 2 32 BR fV hz0 hz1 hz2 rfl (by decide) (.slice po i co) i (p7 (fo.pts.take i)) rfl (by exact(az oM cW (nl _)).alloc _) ⟨w5.heap.size,0,none⟩ 1 1 [str pn,str t.txt] rfl rfl (λj u h=>cell_two_new w5 _ _ _ j u h) (λx hx=>by simp at hx;rcases hx with rfl|rfl<;>rfl) (by unfold maxLen;omega) (by omega) (by have e1:=xk.size;have e2:=cW.size;simp at e2;simp;omega) ?_;intro v' w6 bM hgr _;have hs5:=cW.size;have KR:wr.heap.size<w5.heap.size:=by simp at hs5;omega
    have hblk:=hgr.block wr.heap.size (by simp;omega) (λe=>by have:=(hown.lt _ e.symm).2;omega);have oK:∀o,w6.cell? ⟨wr.heap.size,o,none⟩=w5.cell? ⟨wr.heap.size,o,none⟩:=λo=>(World.cell?_of_block hblk).trans (World.cell?_of_block (Below.heap_alloc _ _ _ KR))
    refine hK.out _ _ ⟨(oK 0).trans (Below.keep cW q0),(oK 1).trans (Below.keep cW q1),(oK 2).trans (Below.keep cW q2),(oK 3).trans (Below.keep cW q3)⟩ (λef=>?_);clear hK K;refine wpAnyH_ready (rs:=[9]) (by kernel_rfl) (by simp) ?_;refine AllReadyH.cons rfl (λK hK=>?_) AllReadyH.nil;go_simp;refine hK.out _ _ ⟨(oK 0).trans (Below.keep cW q0),(oK 1).trans (Below.keep cW q1),(oK 2).trans (Below.keep cW q2),(oK 3).trans (Below.keep cW q3)⟩ (λef=>?_);clear hK K;refine wpAnyH_done (by kernel_rfl) ?_ _;have qw:=mQ.drew.trans (af cW (by have:=hb.size;simp;omega));have US:=(xk.alloc xk.size (.cells #[str pn,.int .u8 t.k,str t.n,.slice pt t.sub.len ct] 192)).drew.trans (af cW (by have:=xk.size;simp;omega));have xh:=(qw.alloc qw.size (.cells #[str pn,str t.txt] 155)).grown hgr (by have:=qw.size;simp;omega) (λb e=>by have:=(hown.lt b e).1;have:=hbz.size;omega);have Zz:=(US.alloc US.size (.cells #[str pn,str t.txt] 155)).grown hgr (by have:=US.size;simp;omega) (λb e=>(hown.lt b e).1);go_wp2_with fail;refine⟨⟨i+1,hlt,by go_num,?_,xh,Zz⟩,by simp only[intOf];omega⟩;rw[vV.out,xW];exact bM
end Go.Proofs.YtakgjcfkdemipaaGreatDoor
