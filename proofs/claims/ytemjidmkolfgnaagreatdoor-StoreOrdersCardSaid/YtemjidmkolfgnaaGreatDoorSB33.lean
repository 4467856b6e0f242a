/-
  Lemmas for the statement: contract of the reference argusref04: listed. Conditions: bounds of lengths; the variable strings.asciiSpace.
-/
import Derived.Test.YtemjidmkolfgnaaGreatDoorSBn
import Derived.Test.YtemjidmkolfgnaaGreatDoorSB2
import Derived.Test.YtemjidmkolfgnaaGreatDoorSB17
set_option maxHeartbeats 3200000
namespace Go.Proofs.YtemjidmkolfgnaaGreatDoor
open Go Go.RowKit
theorem tP {B:Nat} {a w:World} (h:Below B a w) (n:Nat):Below B a (w.drewN n):=h.trans ⟨rfl,rfl,rfl,nl _,λ_ _=>rfl⟩
def bL (d:Int):List UInt8→Int
 | []=>d
 | c::s=>bL (if c=91 then d+1 else if c=93 then d - 1 else d) s
theorem kr {d:Int} {s:List UInt8} {i:Nat} {c:UInt8} (h:s[i]? =some c):bL d (s.take (i+1))=if c=91 then bL d (s.take i)+1 else if c=93 then bL d (s.take i) - 1 else bL d (s.take i):=by
 induction s generalizing d i with
 | nil=>simp at h
 | cons x s ih=>
  cases i with
  | zero=>
   simp only[List.getElem?_cons_zero,Option.some.injEq] at h;subst h;simp[bL]
  | succ i=>
   rw[List.getElem?_cons_succ] at h;simp only[List.take_succ_cons,bL];exact ih h
theorem r8:∀(s:List UInt8) (d:Int),d - s.length≤bL d s∧bL d s≤d+s.length
 | [],d=>by simp[bL]
 | c::s,d=>by
  have:=r8 s (if c=91 then d+1 else if c=93 then d - 1 else d);rw[bL];simp only[List.length_cons];split at this
  · rename_i h;rw[if_pos h];omega
  · rename_i h
    rw[if_neg h];split at this
    · rename_i h;rw[if_pos h];omega
    · rename_i h;rw[if_neg h];omega
structure gB (s:List UInt8) (i f:Nat) (out:List (List UInt8)):Prop where
 fi:f≤i
 len:out.length≤i
 eq:cR 0 s=out++rq ((s.take i).drop f) (cR (bL 0 (s.take i)) (s.drop i))
theorem gB.start (s:List UInt8):gB s 0 0 []:=⟨nl _,nl _,by
 rw[List.take_zero,List.drop_zero,List.nil_append,List.drop_zero]
 have:=s8 0 s
 cases h:cR 0 s with
 | nil=>exact absurd h this
 | cons a l=>simp[bL,h,rq]⟩
theorem gB.comma {s:List UInt8} {i f:Nat} {out:List (List UInt8)} (h:gB s i f out) (hi:s[i]? =some 44) (hd:bL 0 (s.take i)=0):gB s (i+1) (i+1) (out++[(s.take i).drop f]):=by
 obtain⟨h1,h2,h3⟩:=h
 refine⟨nl _,by simp;omega,?_⟩
 rw[h3,eX hi,cR,if_pos ⟨rfl,hd⟩,kr hi,if_neg (by decide),if_neg (by decide)]
 rw[List.append_assoc]
 congr 1
 rw[show(s.take (i+1)).drop (i+1)=[] from List.drop_eq_nil_of_le (by simp<;>omega),Da (s8 _ _)]
 simp[rq]
theorem gB.pass {s:List UInt8} {i f:Nat} {out:List (List UInt8)} {c:UInt8} (h:gB s i f out) (hi:s[i]? =some c) (hd:¬(c=44∧bL 0 (s.take i)=0)):gB s (i+1) f out:=by
 obtain⟨h1,h2,h3⟩:=h
 refine⟨by omega,by omega,?_⟩
 have hl:i<s.length:=(List.getElem?_eq_some_iff.1 hi).1
 have e:(s.take (i+1)).drop f=(s.take i).drop f++[c]:=by
  rw[List.take_add_one,hi,Option.toList_some,List.drop_append_of_le_length (by simp;omega)]
 rw[h3,eX hi,cR,if_neg hd,kr hi,e]
 congr 1
 cases cR (if c=91 then bL 0 (s.take i)+1 else if c=93 then bL 0 (s.take i) - 1 else bL 0 (s.take i)) (s.drop (i+1))<;>simp[jK,rq]
theorem gB.done {s:List UInt8} {f:Nat} {out:List (List UInt8)} (h:gB s s.length f out):out++[s.drop f]=cR 0 s:=by
 rw[h.eq,List.take_length,List.drop_length]
 simp[cR,rq]
def fe (w:World):Prop:=∃m,w.cell? ⟨0,0,none⟩=some (.int .i64 m)
theorem fe.below {w w':World} (h:fe w) (hb:Below w.heap.size w w'):fe w':=by
 obtain⟨m,h⟩:=h
 exact⟨m,Below.keep hb h⟩
theorem FO {p:List UInt8} (s:List UInt8) (hp:p≠[]):Lib.cut s p=bC p s:=by
 have hpl:=List.length_pos_iff.2 hp
 unfold Lib.cut
 rcases Lib.index_spec s p with⟨h1,h2⟩|⟨i,h1,h2,h3,h4⟩
 · rw[h1,if_neg (by omega),Dm (i:=s.length) zr (by omega) λj hj=>h2 j (by omega)]
 · rw[h1,if_pos (by omega),Dl hp h2 (λj hj=>h4 j hj) h3]
   simp
theorem mJ (s:List UInt8) (c:UInt8) (j:Nat):Lib.occAt s [c] j=decide (s[j]? =some c):=by
 unfold Lib.occAt
 rcases h:s[j]? with _|x
 · rw[List.drop_eq_nil_of_le (List.getElem?_eq_none_iff.1 h)]
   simp
 · rw[eX h]
   by_cases e:x=c
   · subst e;simp
   · rw[decide_eq_false (by simpa using e)]
     exact ER λh=>e h.symm
theorem s9 (c:UInt8):∀(n:Nat) (s:List UInt8),s.length≤n→(Lib.splitB ⟨[c].toArray⟩ 0 (Lib.countB ⟨s.toArray⟩ ⟨[c].toArray⟩) ⟨s.toArray⟩).map Value.string=aA (aN c s):=by
 intro n
 induction n with
 | zero=>
  intro s hs;obtain rfl:s=[]:=List.length_eq_zero_iff.1 (by omega);have:Lib.indexB ⟨([]:List UInt8).toArray⟩ ⟨[c].toArray⟩= -1:=rfl;rw[Lib.splitB_miss _ _ _ _ this]
  rfl
 | succ n ih=>
  intro s hs;rcases Lib.index_spec s [c] with⟨h1,h2⟩|⟨i,h1,h2,h3,h4⟩
  · have hb:Lib.indexB ⟨s.toArray⟩ ⟨[c].toArray⟩= -1:=by show Lib.index s.toArray.toList [c].toArray.toList= -1;simpa using h1
    have hc:c∉s:=λhc=>by
     obtain⟨j,hj,e⟩:=List.getElem_of_mem hc;have:=h2 j (by omega);rw[mJ,decide_eq_false_iff_not] at this;exact this (by rw[List.getElem?_eq_getElem hj,e])
    rw[Lib.splitB_miss _ _ _ _ hb];have:=j5 s [] hc;rw[List.append_nil] at this;rw[this];simp[aN,rq,aA]
  · have hb:Lib.indexB ⟨s.toArray⟩ ⟨[c].toArray⟩=i:=by show Lib.index s.toArray.toList [c].toArray.toList=i;simpa using h1
    rw[mJ,decide_eq_true_eq] at h3;have hi:=(List.getElem?_eq_some_iff.1 h3).1;have hno:c∉s.take i:=λhc=>by
     obtain⟨j,hj,e⟩:=List.getElem_of_mem hc;rw[List.getElem_take] at e;have hji:j<i:=by simp at hj;omega
     have:=h4 j hji;rw[mJ,decide_eq_false_iff_not] at this;exact this (by rw[List.getElem?_eq_getElem (by omega),e])
    have hsz:(⟨s.toArray⟩:ByteArray).size=s.length:=by show s.toArray.size=_;simp
    have hs1:(⟨[c].toArray⟩:ByteArray).size=1:=rfl;rw[Lib.countB_hit _ _ i (by rw[hs1];exact nl _) hb,Nat.add_comm 1,Lib.splitB_hit _ _ _ _ i hb,kS,kS,hsz,hs1,List.take_length,List.map_cons,ih _ (by rw[List.length_drop];omega)];have e:s=s.take i++c::s.drop (i+1):=by
     rw[←eX h3,List.take_append_drop]
    conv=>rhs;rw[e,j5 _ _ hno,aN,if_pos rfl]
    simp[rq,aA]
theorem gI (c:UInt8):∀s:List UInt8,(aN c s).length≤s.length+1
 | []=>by simp[aN]
 | x::s=>by
  have:=gI c s;rw[aN];split
  · simp;omega
  · cases h:aN c s with
    | nil=>simp[jK]
    | cons a l=>rw[h] at this;simp[jK] at this ⊢;omega
theorem kK (c:UInt8):∀s:List UInt8,∀a∈aN c s,a.length≤s.length
 | [],a,h=>by simp[aN] at h;simp[h]
 | x :: s, a, h => by
  have ih:=kK c s;rw[aN] at h;split at h
  · rcases List.mem_cons.1 h with rfl|h
    · simp
    · have:=ih a h;simp;omega
  · cases hq:aN c s with
    | nil=>rw[hq] at h;simp[jK] at h;simp[h]
    | cons b l=>
     rw[hq] at h ih;simp only[jK,List.mem_cons] at h;rcases h with rfl|h
     · have:=ih b (by simp);simp;omega
     · have:=ih a (by simp[h]);simp;omega
theorem iI (s p:List UInt8) (w:World) (hs:s.length≤100000) (hp:p≠[]) (hm:fe w):
 Calls Tryz.prog 104 #[str s,str p] w λe w'=>e=.returned (.tuple #[str (bC p s).1,str (bC p s).2.1,.bool (bC p s).2.2])∧Below w.heap.size w w':=by
 obtain⟨m,hm⟩:=hm
 refine(Tryz.strings_Cut ⟨s.toArray⟩ ⟨p.toArray⟩ m w (by show s.toArray.size<_;simp;omega) hm).mono ?_
 rintro e w' ⟨rfl,n,rfl⟩
 rw[show(⟨s.toArray⟩:ByteArray).data.toList=s from by simp,show(⟨p.toArray⟩:ByteArray).data.toList=p from by simp,FO s hp]
 exact⟨rfl,tP (zb _) n⟩
theorem jS (s p:List UInt8) (w:World) (hs:s.length≤100000):
 Calls Tryz.prog 106 #[str s,str p] w λe w'=>e=.returned (.tuple #[str (Lib.trimSuffix s p),.bool (Lib.hasSuffix s p)])∧w=w':=by
 refine(Tryz.strings_CutSuffix ⟨s.toArray⟩ ⟨p.toArray⟩ w (by show s.toArray.size≤_;simp;omega)).mono ?_
 rintro e w' ⟨rfl,rfl⟩
 rw[show(⟨s.toArray⟩:ByteArray).data.toList=s from by simp,show(⟨p.toArray⟩:ByteArray).data.toList=p from by simp]
 exact⟨rfl,rfl⟩
theorem jw (s p:List UInt8) (w:World) (hs:s.length≤100000):
 Calls Tryz.prog 139 #[str s,str p] w λe w'=>e=.returned (str (Lib.trimSuffix s p))∧w=w':=by
 refine(Tryz.strings_TrimSuffix ⟨s.toArray⟩ ⟨p.toArray⟩ w (by show s.toArray.size≤_;simp;omega)).mono ?_
 rintro e w' ⟨rfl,rfl⟩
 rw[show(⟨s.toArray⟩:ByteArray).data.toList=s from by simp,show(⟨p.toArray⟩:ByteArray).data.toList=p from by simp]
 exact⟨rfl,rfl⟩
theorem wB (s:List UInt8) (c:UInt8) (w:World) (hs:s.length≤100000) (hm:fe w):
 Calls Tryz.prog 138 #[str s,str [c]] w λe w'=>∃v,e=.returned v∧SS (λb=>w.heap.size≤b) w' v (aN c s)∧Below w.heap.size w w':=by
 obtain⟨m,hm⟩:=hm
 refine(Tryz.strings_Split ⟨s.toArray⟩ ⟨[c].toArray⟩ m w (by show s.toArray.size<_;simp;omega) hm (by show 1≤[c].toArray.size;simp)).mono ?_
 rintro e w' ⟨rfl,rfl⟩
 have hl:=gI c s
 have hq:=s9 c s.length s zr
 have hlen:Lib.countB ⟨s.toArray⟩ ⟨[c].toArray⟩+1=(aN c s).length:=by
  have h1:=congrArg List.length hq;rw[List.length_map,Lib.splitB_all _ (by show 1≤[c].toArray.size;simp) 0 _ _ rfl] at h1
  simpa[aA] using h1
 rw[hq,hlen]
 exact⟨_,rfl,SS.new _ w zr (aN c s) 9 (0,0) (by unfold maxLen;omega) (λa ha=>by have:=kK c s a ha;unfold maxLen;omega),(zb w).alloc zr _⟩
theorem ko {b:Nat} (h:(b / 64==2)=true):128≤b:=by
 rw[beq_iff_eq] at h
 omega
theorem vC (s:ByteArray) (pos:Nat) (h:pos<s.size) (ha:128≤(s[pos]'h).toNat):1≤(Utf8.decode s pos).2∧pos+(Utf8.decode s pos).2≤s.size∧∀k,k<(Utf8.decode s pos).2→128≤(s.get! (pos+k)).toNat:=by
 have h0:128≤(s.get! (pos+0)).toNat:=by rw[get_at s pos h];exact ha
 have one:1≤1∧pos+1≤s.size∧∀k,k<1→128≤(s.get! (pos+k)).toNat:=⟨nl _,h,λk hk=>by
  obtain rfl:k=0:=by omega
  exact h0⟩
 have hn:¬(s.get! (pos+0)).toNat<128:=by omega
 simp only[Utf8.decode,hn,if_false]
 split
 · rename_i h1
   simp only[Bool.and_eq_true,decide_eq_true_eq] at h1;split
   · refine⟨by omega,by omega,λk hk=>?_⟩
     have:k=0∨k=1:=by simp only at hk;omega
     rcases this with rfl|rfl
     · exact h0
     · exact ko h1.2.2
   · exact one
 · split
   · rename_i h1
     simp only[Bool.and_eq_true,decide_eq_true_eq] at h1;split
     · refine⟨by omega,by omega,λk hk=>?_⟩
       have:k=0∨k=1∨k=2:=by simp only at hk;omega
       rcases this with rfl|rfl|rfl
       · exact h0
       · exact ko h1.1.2.2
       · exact ko h1.2.2
     · exact one
   · split
     · rename_i h1
       simp only[Bool.and_eq_true,decide_eq_true_eq] at h1;split
       · refine⟨by omega,by omega,λk hk=>?_⟩
         have:k=0∨k=1∨k=2∨k=3:=by simp only at hk;omega
         rcases this with rfl|rfl|rfl|rfl
         · exact h0
         · exact ko h1.1.1.2.2
         · exact ko h1.1.2.2
         · exact ko h1.2.2
       · exact one
     · exact one
theorem yc {d:Int} {s:List UInt8} {i:Nat} {c:UInt8} (h:s[i]? =some c) (hc:128≤c.toNat):bL d (s.take (i+1))=bL d (s.take i):=by
 have h1:c≠91:=by rintro rfl;revert hc;decide
 have h2:c≠93:=by rintro rfl;revert hc;decide
 rw[kr h,if_neg h1,if_neg h2]
theorem gB.wide {s:List UInt8} {i f:Nat} {out:List (List UInt8)} (h:gB s i f out):∀n:Nat,i+n≤s.length→(∀k,k<n→∀c,s[i+k]? =some c→128≤c.toNat)→gB s (i+n) f out∧bL 0 (s.take (i+n))=bL 0 (s.take i)
 | 0,_,_=>⟨h,rfl⟩
 | n+1,hn,hw=>by
  obtain⟨h1,h2⟩:=h.wide n (by omega) λk hk=>hw k (by omega)
  obtain⟨c,hc⟩:∃c,s[i+n]? =some c:=⟨_,List.getElem?_eq_getElem (by omega)⟩
  have hg:=hw n (by omega) c hc;refine⟨h1.pass hc λe=>?_,by rw[←Nat.add_assoc,yc hc hg,h2]⟩;rw[e.1] at hg;revert hg
  decide
theorem GJ {B B' n:Nat} {w:World} {v:Value} {xs:List Value} (h:w.ownsRow B 9 1 v n xs) (hB:B'≤B):w.ownsRow B' 9 1 v n xs:=by
 obtain⟨h1,h2⟩:=h
 refine⟨h1,?_⟩
 rcases h2 with h2|⟨g,cap,cur,e,h2,h4⟩
 · exact .inl h2
 · exact .inr ⟨g,cap,cur,e,Nat.le_trans hB h2,h4⟩
theorem qo {K R:Nat} {w wx:World} (h:Below K w wx) (hR:K≤R) (s:ByteArray) (pos:Nat):Below K w (wx.iterAt R s pos):=
 h.trans ⟨rfl,rfl,rfl,by rw[Lib.iterAt_size];exact nl _,λk hk=>Lib.iterAt_other _ _ _ _ _ (by omega)⟩
theorem wq {K R:Nat} {wx:World} {v:Value} {n:Nat} {xs:List Value} (h:wx.ownsRow K 9 1 v n xs) (hR:R<K) (s:ByteArray) (pos:Nat):(wx.iterAt R s pos).ownsRow K 9 1 v n xs:=
 aG h λb hb=>Lib.iterAt_other _ _ _ _ _ (by have:=(h.lt b hb).1;omega)
set_option maxRecDepth 4000 in
theorem yT (s : List UInt8) (w : World) (hs : s.length ≤ 100000) :
 Calls Tryz.prog 142 #[str s] w λe w'=>∃v,e=.returned v∧w'.ownsRow w.heap.size 9 1 v (iA s).length (aA (iA s))∧Below w.heap.size w w':=by
 obtain⟨i0,kN,hz0,hz1,hz2⟩:=aV fL
 by_cases h0:s=[]
 · subst h0
   go_enter Tryz.func142,Tryz.ntmps142;go_wp2_with fail;go_ret;exact⟨_,rfl,World.ownsRow_nil _ _ _ _,zb _⟩
 have g0:s.isEmpty=false:=by simpa using h0
 have HP:=zh (show iA s=cR 0 s by unfold iA;rw[if_neg h0])
 generalize iA s=RS at *
 go_enter Tryz.func142,Tryz.ntmps142
 go_wp2_with fail
 go_loopw [3,4,5] (λa d f wx=>∃(i g:Nat) (out:List (List UInt8)),i≤s.length∧f=.int .i64 g∧d=.int .i64 (bL 0 (s.take i))∧gB s i g out∧wx.heap[w.heap.size]? =some (.stringIter ⟨s.toArray⟩ i)∧wx.ownsRow (w.heap.size+1) 9 1 a out.length (aA out)∧Below w.heap.size w wx) (λ_ _ _ wx=>s.length - wx.iterPos w.heap.size)
 case atStart=>exact⟨0,0,[],by omega,by go_num,by go_num,gB.start s,World.iter_heap _ _ _,World.ownsRow_nil _ _ _ _,(zb w).alloc zr _⟩
 case round =>
  obtain⟨i,g,out,hi,rfl,rfl,hL,hit,hown,hb⟩:=hrel;obtain⟨pv,cv,rfl⟩:=aJ hown;have hz:=hb.size;have N7:w.heap.size<wr.heap.size:=aj hit;have Wl:=hL.fi;have hol:=hL.len;have UH:wr.iterPos w.heap.size=i:=by unfold World.iterPos;rw[hit]
  have key:∀(X:List UInt8) (v':Value) (w3:World),w3.ownsRow (w.heap.size+1) 9 1 v' (out.length+1) (aA out++[str X])→w3.ownsRow (w.heap.size+1) 9 1 v' (out++[X]).length (aA (out++[X])):=λX v' w3 h=>by
   rw[List.length_append,show aA (out++[X])=aA out++[str X] by simp[aA]];exact h
  have kb:∀(W:World) (o:Obj) (w3:World),Below w.heap.size w W→(W.alloc o).grownBy w3 (Value.slice pv out.length cv).ownBlock→Below w.heap.size w w3:=λW o w3 hW h=>(hW.alloc hW.size o).grown h (by have:=hW.size;simp;omega) λb e=>by have:=(hown.lt b e).1;omega
  by_cases h2:i=s.length
  · subst h2
    have hX:=zh hL.done;have hnx:∀ty,(Instr.next (.pointer (some ⟨w.heap.size,0,none⟩)) true ty).run Tryz.prog wr=_:=λty=>Lib.run_next_end_at wr w.heap.size ⟨s.toArray⟩ s.length ty hit (by show ¬s.length<s.toArray.size;simp)
    generalize bL 0 (s.take s.length)=dd at *;clear hL;have Un:=zh (show RS=out++[s.drop g] by rw[HP.out,hX.out]);clear hX HP;go_wp2_with (at_builtin;refine wpList_append_own _ rfl _ _ 31 rfl (w.heap.size+1) 9 i0 _ 1 16 dg kN hz0 hz1 hz2 rfl (by decide) _ _ (aA out) rfl (hown.alloc _) ⟨wr.heap.size,0,none⟩ 1 1 [str (s.drop g)] rfl rfl (cell_one_new _ _ _) (by intro u hu;rw[List.mem_singleton.1 hu];rfl) (by unfold maxLen;omega) (by omega) (by simp;omega) ?_;intro v' w3 ew hgr Qe);go_ret;rw[Un.out];exact⟨_,rfl,GJ (key _ _ _ ew) (Nat.le_succ _),kb _ _ _ hb hgr⟩
  · have hlt:i<s.length:=by omega
    obtain⟨c,hc⟩:∃c,s[i]? =some c:=⟨_,List.getElem?_eq_getElem hlt⟩
    have Mf:s[i]'hlt=c:=(List.getElem?_eq_some_iff.1 hc).2;have hdl:=r8 (s.take i) 0;rw[List.length_take] at hdl;have hlz:i<(⟨s.toArray⟩:ByteArray).size:=by show i<s.toArray.size;simpa using hlt
    by_cases ha:c.toNat<128
    · have hnx:∀ty,(Instr.next (.pointer (some ⟨w.heap.size,0,none⟩)) true ty).run Tryz.prog wr=.ok (.tuple #[.bool true,.int .i64 i,.int .i32 c.toNat]) (wr.iterAt w.heap.size ⟨s.toArray⟩ (i+1)):=λty=>by
       rw[Lib.run_next_ascii_at wr w.heap.size ⟨s.toArray⟩ i ty hit hlz (by show(s[i]'hlt).toNat<128;rw[Mf];exact ha)];rw[show((⟨s.toArray⟩:ByteArray)[i]'hlz)=c from Mf]
      have rF:=Lib.iterAt_heap wr w.heap.size ⟨s.toArray⟩ i (i+1) hit;have ot:=wq hown (Nat.lt_succ_self _) ⟨s.toArray⟩ (i+1);have aP:=qo hb zr ⟨s.toArray⟩ (i+1);have MY:=aP.size;generalize wr.iterAt w.heap.size ⟨s.toArray⟩ (i+1)=W1 at *;have PX:W1.iterPos w.heap.size=i+1:=by unfold World.iterPos;rw[rF]
      have Ve:w.heap.size<W1.heap.size:=aj rF;have hdn:=kr (d:=0) hc;have hc0:∀n:UInt8,c≠n→((c.toNat:Int)==(n.toNat:Int))=false:=λn h=>by
       rw[beq_eq_false_iff_ne];exact λe=>h (UInt8.toNat_inj.1 (by omega))
      clear hit hown hb hz N7 hlz h2
      by_cases hk:c=44∧bL 0 (s.take i)=0
      · obtain⟨rfl,yt⟩:=hk
        have Aa:=hL.comma hc yt;rw[if_neg (by decide),if_neg (by decide),yt] at hdn;have vS:=zh hdn;rw[yt];clear hL hdn yt hdl hc hc0 ha;go_wp2_with (at_builtin;refine wpList_append_own _ rfl _ _ 31 rfl (w.heap.size+1) 9 i0 _ 1 16 dg kN hz0 hz1 hz2 rfl (by decide) _ _ (aA out) rfl (ot.alloc _) ⟨W1.heap.size,0,none⟩ 1 1 [str ((s.take i).drop g)] rfl rfl (cell_one_new _ _ _) (by intro u hu;rw[List.mem_singleton.1 hu];rfl) (by unfold maxLen;omega) (by omega) (by simp;omega) ?_;intro v' w3 ew hgr Qe);have hne:(Value.slice pv out.length cv).ownBlock≠some w.heap.size:=λe=>by have:=(ot.lt _ e).1;omega
        have Mo:w3.heap[w.heap.size]? =some (.stringIter ⟨s.toArray⟩ (i+1)):=(hgr.block w.heap.size (by simp;omega) (λe=>hne e.symm)).trans (aK _ rF);exact⟨⟨i+1,i+1,_,by omega,by go_num,by rw[vS.out],Aa,Mo,key _ _ _ ew,kb _ _ _ aP hgr⟩,by rw[UH];unfold World.iterPos;rw[Mo];simp only;omega⟩
      · have Aa:=hL.pass hc hk
        clear key kb
        by_cases h91:c=91
        · subst h91
          rw[if_pos rfl] at hdn;generalize bL 0 (s.take i)=d at *;have vS:=zh hdn;clear hL hk hdn hc hc0 ha;go_wp2_with fail;exact⟨⟨i+1,g,out,by omega,by go_num,by rw[vS.out],Aa,rF,ot,aP⟩,by omega⟩
        · by_cases h93:c=93
          · subst h93
            rw[if_neg (by decide),if_pos rfl] at hdn;generalize bL 0 (s.take i)=d at *;have vS:=zh hdn;clear hL hk hdn hc hc0 ha h91;go_wp2_with fail;exact⟨⟨i+1,g,out,by omega,by go_num,by rw[vS.out],Aa,rF,ot,aP⟩,by omega⟩
          · rw[if_neg h91,if_neg h93] at hdn
            have q1:((c.toNat:Int)==91)=false:=hc0 91 h91;have q2:((c.toNat:Int)==93)=false:=hc0 93 h93;generalize bL 0 (s.take i)=d at *;have vS:=zh hdn
            by_cases h44:c=44
            · subst h44
              have q3:(d==0)=false:=by rw[beq_eq_false_iff_ne];exact λe=>hk ⟨rfl,e⟩
              clear hL hk hdn hc hc0 h91 h93 q1 q2 ha;go_wp2_with fail;exact⟨⟨i+1,g,out,by omega,by go_num,by rw[vS.out],Aa,rF,ot,aP⟩,by omega⟩
            · have q3:((c.toNat:Int)==44)=false:=hc0 44 h44
              clear hL hk hdn hc hc0 h91 h93 h44;go_wp2_with fail;exact⟨⟨i+1,g,out,by omega,by go_num,by rw[vS.out],Aa,rF,ot,aP⟩,by omega⟩
    · obtain⟨w1,w2,w3⟩:=vC ⟨s.toArray⟩ i hlz (by show 128≤(s[i]'hlt).toNat;rw[Mf];omega)
      have hr:=(decode_high ⟨s.toArray⟩ i hlz (by show 128≤(s[i]'hlt).toNat;rw[Mf];omega)).1;have hnx:=λty=>Lib.run_next_any_at (P:=Tryz.prog) wr w.heap.size ⟨s.toArray⟩ i ty hit hlz
      generalize hdc:Utf8.decode ⟨s.toArray⟩ i=DC at *;obtain⟨r,n⟩:=DC;dsimp only at w1 w2 w3 hr hnx;have SQ:i+n≤s.length:=by
       have:(⟨s.toArray⟩:ByteArray).size=s.length:=by show s.toArray.size=_;simp
       omega
      obtain⟨Aa,hd2⟩:=hL.wide n SQ λk hk c' Uv=>by
       have h5:=w3 k hk;have h6:i+k<(⟨s.toArray⟩:ByteArray).size:=by show i+k<s.toArray.size;simp;omega
       have h7:=get_at ⟨s.toArray⟩ (i+k) h6;rw[Nat.add_zero] at h7;rw[h7,show((⟨s.toArray⟩:ByteArray)[i+k]'h6)=c' from(List.getElem?_eq_some_iff.1 Uv).2] at h5;exact h5
      have rF:=Lib.iterAt_heap wr w.heap.size ⟨s.toArray⟩ i (i+n) hit;have ot:=wq hown (Nat.lt_succ_self _) ⟨s.toArray⟩ (i+n);have aP:=qo hb zr ⟨s.toArray⟩ (i+n);generalize wr.iterAt w.heap.size ⟨s.toArray⟩ (i+n)=W1 at *;have PX:W1.iterPos w.heap.size=i+n:=by unfold World.iterPos;rw[rF]
      have q1:((r:Int)==91)=false:=by rw[beq_eq_false_iff_ne];omega
      have q2:((r:Int)==93)=false:=by rw[beq_eq_false_iff_ne];omega
      have q3:((r:Int)==44)=false:=by rw[beq_eq_false_iff_ne];omega
      have NW:=zh hd2;clear hit hown hb hz N7 hlz h2 hL hc Mf ha hdc hd2 key kb w2 w3;go_wp2_with fail;exact⟨⟨i+n,g,out,SQ,by go_num,by rw[NW.out],Aa,rF,ot,aP⟩,by omega⟩
end Go.Proofs.YtemjidmkolfgnaaGreatDoor
