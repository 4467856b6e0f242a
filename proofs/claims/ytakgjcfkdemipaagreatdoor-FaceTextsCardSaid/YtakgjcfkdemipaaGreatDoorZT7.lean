/-
  Lemmas: contract of the reference argusref04: listed. Conditions: bounds of lengths; the variable strings.asciiSpace.
-/
import Derived.Test.YtakgjcfkdemipaaGreatDoorZB18
import Derived.Test.YtakgjcfkdemipaaGreatDoorZB2
import Derived.Test.YtakgjcfkdemipaaGreatDoorZBn
import Derived.Test.YtakgjcfkdemipaaGreatDoorZT0
import Derived.Test.YtakgjcfkdemipaaGreatDoorZT1
import Derived.Test.YtakgjcfkdemipaaGreatDoorZT2
set_option maxHeartbeats 3200000
set_option maxRecDepth 8000
namespace Go.Proofs.YtakgjcfkdemipaaGreatDoor
open Go Go.RowKit
theorem vfp {B:Nat} {a w:World} (h:Below B a w) (n:Nat):Below B a (w.drewN n):=h.trans ⟨rfl,rfl,rfl,nl _,λ_ _=>rfl⟩
theorem vaa (s p : List UInt8) (w : World) (hs : s.length ≤ 1000000) (hp : p.length ≤ 1000) (viy : p ≠ []) :
 Calls Tryz.prog 114 #[str s,str p] w λe w'=>e=.returned (.tuple #[str (va0 p s).1,str (va0 p s).2.1,.bool (va0 p s).2.2])∧Below w.heap.size w w':=by
 have hpl:=List.length_pos_iff.2 viy
 go_enter Tryz.func114,Tryz.ntmps114
 go_wp2_with fail
 go_loopw [7] (λy wx=>∃i:Nat,i≤s.length∧y=.int .i64 i∧Hid (∀j,j<i→p.isPrefixOf (s.drop j)=false)∧Below w.heap.size w wx) (λy _=>s.length - (intOf y).toNat)
 case atStart=>exact⟨0,Nat.zero_le _,by go_num,(λj hj=>by omega),zb _⟩
 case round =>
  obtain⟨i,hi,rfl,hno,hb⟩:=hrel
  by_cases hlt:i+p.length≤s.length
  case neg=>
   have hc:=zh (vdr hi (by omega) hno.out);have g1:¬((i:Int)+(p.length:Int)≤(s.length:Int)):=by omega
   clear hno;go_wp2_with fail;refine bodyPost_ret (v:=.tuple #[str s,str [],.bool false]) (by simp[results,Tryz.results114,go_sem]) rfl ?_;rw[hc.out];exact⟨rfl,hb⟩
  case pos=>
   have g1:(i:Int)+(p.length:Int)≤(s.length:Int):=by omega
   by_cases hit:(s.take (i+p.length)).drop i=p
   · have hc:=zh (vdq viy hi hno.out (by rw[ve6,decide_eq_true_eq];rwa [List.drop_take,Nat.add_sub_cancel_left] at hit))
     have g2:((s.take (i+p.length)).drop i==p)=true:=by simpa using hit
     clear hno hit;go_upto_region 5 with fail;go_quiet (fail);go_wp2_with fail;refine bodyPost_ret (v:=.tuple #[str (s.take i),str (s.drop (i+p.length)),.bool true]) (by simp[results,Tryz.results114,go_sem]) rfl ?_;rw[hc.out];exact⟨rfl,vfp hb nq⟩
   · have hn2:=zh (show ∀j,j<i+1→p.isPrefixOf (s.drop j)=false from λj hj=>by
      by_cases e:j<i
      · exact hno.out j e
      · obtain rfl:j=i:=by omega
        rw[ve6,decide_eq_false_iff_not]
        rwa [List.drop_take,Nat.add_sub_cancel_left] at hit)
     have g2:((s.take (i+p.length)).drop i==p)=false:=by simpa using hit
     clear hno hit;go_wp2_with fail;exact⟨⟨i+1,by omega,by go_num,hn2,hb⟩,by simp only[intOf];omega⟩
def va2 (d:Int):List UInt8→Int
 | []=>d
 | c::s=>va2 (if c=91 then d+1 else if c=93 then d - 1 else d) s
theorem vb1 {d:Int} {s:List UInt8} {i:Nat} {c:UInt8} (h:s[i]? =some c):va2 d (s.take (i+1))=if c=91 then va2 d (s.take i)+1 else if c=93 then va2 d (s.take i) - 1 else va2 d (s.take i):=by
 induction s generalizing d i with
 | nil=>simp at h
 | cons x s ih=>
  cases i with
  | zero=>
   simp only[List.getElem?_cons_zero,Option.some.injEq] at h;subst h;simp[va2]
  | succ i=>
   rw[List.getElem?_cons_succ] at h;simp only[List.take_succ_cons,va2];exact ih h
theorem vbi:∀(s:List UInt8) (d:Int),d - s.length≤va2 d s∧va2 d s≤d+s.length
 | [],d=>by simp[va2]
 | c::s,d=>by
  have:=vbi s (if c=91 then d+1 else if c=93 then d - 1 else d);rw[va2];simp only[List.length_cons];split at this
  · rename_i h;rw[if_pos h];omega
  · rename_i h
    rw[if_neg h];split at this
    · rename_i h;rw[if_pos h];omega
    · rename_i h;rw[if_neg h];omega
structure van (s:List UInt8) (i f:Nat) (out:List (List UInt8)):Prop where
 fi:f≤i
 len:out.length≤i
 eq:va3 0 s=out++vas ((s.take i).drop f) (va3 (va2 0 (s.take i)) (s.drop i))
theorem van.start (s:List UInt8):van s 0 0 []:=⟨nl _,nl _,by
 rw[List.take_zero,List.drop_zero,List.nil_append,List.drop_zero]
 have:=vc9 0 s
 cases h:va3 0 s with
 | nil=>exact absurd h this
 | cons a l=>simp[va2,h,vas]⟩
theorem van.comma {s:List UInt8} {i f:Nat} {out:List (List UInt8)} (h:van s i f out) (hi:s[i]? =some 44) (hd:va2 0 (s.take i)=0):van s (i+1) (i+1) (out++[(s.take i).drop f]):=by
 obtain⟨h1,h2,h3⟩:=h
 refine⟨nl _,by simp;omega,?_⟩
 rw[h3,bp hi,va3,if_pos ⟨rfl,hd⟩,vb1 hi,if_neg (by decide),if_neg (by decide)]
 rw[List.append_assoc]
 congr 1
 rw[show(s.take (i+1)).drop (i+1)=[] from List.drop_eq_nil_of_le (by simp<;>omega),vdp (vc9 _ _)]
 simp[vas]
theorem van.pass {s:List UInt8} {i f:Nat} {out:List (List UInt8)} {c:UInt8} (h:van s i f out) (hi:s[i]? =some c) (hd:¬(c=44∧va2 0 (s.take i)=0)):van s (i+1) f out:=by
 obtain⟨h1,h2,h3⟩:=h
 refine⟨by omega,by omega,?_⟩
 have hl:i<s.length:=(List.getElem?_eq_some_iff.1 hi).1
 have e:(s.take (i+1)).drop f=(s.take i).drop f++[c]:=by
  rw[List.take_add_one,hi,Option.toList_some,List.drop_append_of_le_length (by simp;omega)]
 rw[h3,bp hi,va3,if_neg hd,vb1 hi,e]
 congr 1
 cases va3 (if c=91 then va2 0 (s.take i)+1 else if c=93 then va2 0 (s.take i) - 1 else va2 0 (s.take i)) (s.drop (i+1))<;>simp[vaj,vas]
theorem van.done {s:List UInt8} {f:Nat} {out:List (List UInt8)} (h:van s s.length f out):out++[s.drop f]=va3 0 s:=by
 rw[h.eq,List.take_length,List.drop_length]
 simp[va3,vas]
theorem vcf (s : List UInt8) (w : World) (hs : s.length ≤ 100000) :
 Calls Tryz.prog 173 #[str s] w λe w'=>∃v,e=.returned v∧w'.ownsRow w.heap.size 9 1 v (va7 s).length (aB (va7 s))∧Below w.heap.size w w':=by
 obtain⟨i0,gw,hz0,hz1,hz2⟩:=bY iM
 by_cases h0:s=[]
 · subst h0
   go_enter Tryz.func173,Tryz.ntmps173;go_wp2_with fail;go_ret;exact⟨_,rfl,World.ownsRow_nil _ _ _ _,zb _⟩
 have g0:s.isEmpty=false:=by simpa using h0
 have HP:=zh (show va7 s=va3 0 s by unfold va7;rw[if_neg h0])
 generalize va7 s=RS at *
 go_enter Tryz.func173,Tryz.ntmps173
 go_wp2_with fail
 go_loopw [3,4,5,6] (λa d f y wx=>∃(i g:Nat) (out:List (List UInt8)),i≤s.length+1∧y=.int .i64 i∧f=.int .i64 g∧(i≤s.length→d=.int .i64 (va2 0 (s.take i))∧van s i g out)∧(i=s.length+1→out=va3 0 s)∧wx.ownsRow w.heap.size 9 1 a out.length (aB out)∧Below w.heap.size w wx) (λ_ _ _ y _=>s.length+1 - (intOf y).toNat)
 case atStart=>exact⟨0,0,[],by omega,by go_num,by go_num,λ_=>⟨by go_num,van.start s⟩,λh=>by omega,World.ownsRow_nil _ _ _ _,zb _⟩
 case round =>
  obtain⟨i,g,out,hi,rfl,rfl,hI,hE,hown,hb⟩:=hrel;obtain⟨pv,cv,rfl⟩:=bu hown;have hz:=hb.size;have key:∀(X:List UInt8) (v':Value) (w3:World),w3.ownsRow w.heap.size 9 1 v' (out.length+1) (aB out++[str X])→w3.ownsRow w.heap.size 9 1 v' (out++[X]).length (aB (out++[X])):=λX v' w3 h=>by
   rw[List.length_append,show aB (out++[X])=aB out++[str X] by simp[aB]];exact h
  have kb:∀(o:Obj) (w3:World),(wr.alloc o).grownBy w3 (Value.slice pv out.length cv).ownBlock→Below w.heap.size w w3:=λo w3 h=>(hb.alloc hz o).grown h (by simp;omega) λb e=>(hown.lt b e).1
  by_cases h1:i=s.length+1
  · have hR:=hE h1
    subst h1;have hX:=zh (show RS=out by rw[HP.out,hR]);clear hI hE hR key kb;go_wp2_with fail;go_ret;rw[hX.out];exact⟨_,rfl,hown,hb⟩
  obtain⟨rfl,hL⟩:=hI (by omega);have vji:=hL.fi;have hol:=hL.len;clear hI hE
  by_cases h2:i=s.length
  · subst h2
    have hX:=zh hL.done;have hdl:=vbi (s.take s.length) 0;rw[List.length_take,Nat.min_self] at hdl;generalize va2 0 (s.take s.length)=dd at *;clear hL;go_wp2_with (at_builtin;refine wpList_append_own _ rfl _ _ 34 rfl w.heap.size 9 i0 _ 1 16 eV gw hz0 hz1 hz2 rfl (by decide) _ _ (aB out) rfl (hown.alloc _) ⟨wr.heap.size,0,none⟩ 1 1 [str (s.drop g)] rfl rfl (cell_one_new _ _ _) (by intro u hu;rw[List.mem_singleton.1 hu];rfl) (by unfold maxLen;omega) (by omega) (by simp;omega) ?_;intro v' w3 bB hgr _);exact⟨⟨s.length+1,s.length+1,out++[s.drop g],by omega,by go_num,by go_num,λh=>by omega,λ_=>hX.out,key _ _ _ bB,kb _ _ hgr⟩,by simp only[intOf];omega⟩
  · have hlt:i<s.length:=by omega
    obtain⟨c,hc⟩:∃c,s[i]? =some c:=⟨_,List.getElem?_eq_getElem hlt⟩
    have vha:s[i]'hlt=c:=(List.getElem?_eq_some_iff.1 hc).2;have hdl:=vbi (s.take i) 0;rw[List.length_take] at hdl;have hdn:=vb1 (d:=0) hc;have gi:((i:Int)==(s.length:Int))=false:=by rw[beq_eq_false_iff_ne];omega
    by_cases hk:c=44∧va2 0 (s.take i)=0
    · obtain⟨rfl,Fy⟩:=hk
      have veg:=hL.comma hc Fy;rw[if_neg (by decide),if_neg (by decide),Fy] at hdn;have vb9:=zh hdn;rw[Fy];clear hL hdn Fy hdl hc h1 h2;go_wp2_with (at_builtin;refine wpList_append_own _ rfl _ _ 34 rfl w.heap.size 9 i0 _ 1 16 eV gw hz0 hz1 hz2 rfl (by decide) _ _ (aB out) rfl (hown.alloc _) ⟨wr.heap.size,0,none⟩ 1 1 [str ((s.take i).drop g)] rfl rfl (cell_one_new _ _ _) (by intro u hu;rw[List.mem_singleton.1 hu];rfl) (by unfold maxLen;omega) (by omega) (by simp;omega) ?_;intro v' w3 bB hgr _);exact⟨⟨i+1,i+1,_,by omega,by go_num,by go_num,λ_=>⟨by rw[vb9.out],veg⟩,λh=>by omega,key _ _ _ bB,kb _ _ hgr⟩,by simp only[intOf];omega⟩
    · have veg:=hL.pass hc hk
      have hc0:∀n:UInt8,c≠n→((c.toNat:Int)==(n.toNat:Int))=false:=λn h=>by
       rw[beq_eq_false_iff_ne];exact λe=>h (UInt8.toNat_inj.1 (by omega))
      by_cases ved:c=91
      · subst ved
        rw[if_pos rfl] at hdn;generalize va2 0 (s.take i)=d at *;have vb9:=zh hdn;clear hL hk hdn hc h1 h2 key kb hc0;go_wp2_with fail;exact⟨⟨i+1,g,out,by omega,by go_num,by go_num,λ_=>⟨by rw[vb9.out],veg⟩,λh=>by omega,hown,hb⟩,by simp only[intOf];omega⟩
      · by_cases h93:c=93
        · subst h93
          rw[if_neg (by decide),if_pos rfl] at hdn;generalize va2 0 (s.take i)=d at *;have vb9:=zh hdn;clear hL hk hdn hc h1 h2 key kb hc0 ved;go_wp2_with fail;exact⟨⟨i+1,g,out,by omega,by go_num,by go_num,λ_=>⟨by rw[vb9.out],veg⟩,λh=>by omega,hown,hb⟩,by simp only[intOf];omega⟩
        · rw[if_neg ved,if_neg h93] at hdn
          have q1:((c.toNat:Int)==91)=false:=hc0 91 ved;have q2:((c.toNat:Int)==93)=false:=hc0 93 h93;generalize va2 0 (s.take i)=d at *;have vb9:=zh hdn
          by_cases h44:c=44
          · subst h44
            have q3:(d==0)=false:=by rw[beq_eq_false_iff_ne];exact λe=>hk ⟨rfl,e⟩
            clear hL hk hdn hc h1 h2 key kb hc0 ved h93 q1 q2;go_wp2_with fail;exact⟨⟨i+1,g,out,by omega,by go_num,by go_num,λ_=>⟨by rw[vb9.out],veg⟩,λh=>by omega,hown,hb⟩,by simp only[intOf];omega⟩
          · have q3:((c.toNat:Int)==44)=false:=hc0 44 h44
            clear hL hk hdn hc h1 h2 key kb hc0 ved h93 h44;go_wp2_with fail;exact⟨⟨i+1,g,out,by omega,by go_num,by go_num,λ_=>⟨by rw[vb9.out],veg⟩,λh=>by omega,hown,hb⟩,by simp only[intOf];omega⟩
theorem vbh {b:Nat} (h:(b / 64==2)=true):128≤b:=by
 rw[beq_iff_eq] at h
 omega
theorem vdu (s:ByteArray) (pos:Nat) (h:pos<s.size) (ha:128≤(s[pos]'h).toNat):1≤(Utf8.decode s pos).2∧pos+(Utf8.decode s pos).2≤s.size∧∀k,k<(Utf8.decode s pos).2→128≤(s.get! (pos+k)).toNat:=by
 have h0:128≤(s.get! (pos+0)).toNat:=by rw[get_at s pos h];exact ha
 have one:1≤1∧pos+1≤s.size∧∀k,k<1→128≤(s.get! (pos+k)).toNat:=⟨nl _,h,λk hk=>by
  obtain rfl:k=0:=by omega
  exact h0⟩
 have hn:¬(s.get! (pos+0)).toNat<128:=by omega
 simp only[Utf8.decode,hn,if_false]
 split
 · rename_i h1
   simp only[Bool.and_eq_true,decide_eq_true_eq] at h1;split
   · refine⟨by omega,by omega,λk hk=>?_⟩
     have:k=0∨k=1:=by simp only at hk;omega
     rcases this with rfl|rfl
     · exact h0
     · exact vbh h1.2.2
   · exact one
 · split
   · rename_i h1
     simp only[Bool.and_eq_true,decide_eq_true_eq] at h1;split
     · refine⟨by omega,by omega,λk hk=>?_⟩
       have:k=0∨k=1∨k=2:=by simp only at hk;omega
       rcases this with rfl|rfl|rfl
       · exact h0
       · exact vbh h1.1.2.2
       · exact vbh h1.2.2
     · exact one
   · split
     · rename_i h1
       simp only[Bool.and_eq_true,decide_eq_true_eq] at h1;split
       · refine⟨by omega,by omega,λk hk=>?_⟩
         have:k=0∨k=1∨k=2∨k=3:=by simp only at hk;omega
         rcases this with rfl|rfl|rfl|rfl
         · exact h0
         · exact vbh h1.1.1.2.2
         · exact vbh h1.1.2.2
         · exact vbh h1.2.2
       · exact one
     · exact one
theorem vee {d:Int} {s:List UInt8} {i:Nat} {c:UInt8} (h:s[i]? =some c) (hc:128≤c.toNat):va2 d (s.take (i+1))=va2 d (s.take i):=by
 have h1:c≠91:=by rintro rfl;revert hc;decide
 have h2:c≠93:=by rintro rfl;revert hc;decide
 rw[vb1 h,if_neg h1,if_neg h2]
theorem van.wide {s:List UInt8} {i f:Nat} {out:List (List UInt8)} (h:van s i f out):∀n:Nat,i+n≤s.length→(∀k,k<n→∀c,s[i+k]? =some c→128≤c.toNat)→van s (i+n) f out∧va2 0 (s.take (i+n))=va2 0 (s.take i)
 | 0,_,_=>⟨h,rfl⟩
 | n+1,hn,hw=>by
  obtain⟨h1,h2⟩:=h.wide n (by omega) λk hk=>hw k (by omega)
  obtain⟨c,hc⟩:∃c,s[i+n]? =some c:=⟨_,List.getElem?_eq_getElem (by omega)⟩
  have hg:=hw n (by omega) c hc;refine⟨h1.pass hc λe=>?_,by rw[←Nat.add_assoc,vee hc hg,h2]⟩;rw[e.1] at hg;revert hg
  decide
theorem vgj {B B' n:Nat} {w:World} {v:Value} {xs:List Value} (h:w.ownsRow B 9 1 v n xs) (hB:B'≤B):w.ownsRow B' 9 1 v n xs:=by
 obtain⟨h1,h2⟩:=h
 refine⟨h1,?_⟩
 rcases h2 with h2|⟨g,cap,cur,e,h2,h4⟩
 · exact .inl h2
 · exact .inr ⟨g,cap,cur,e,Nat.le_trans hB h2,h4⟩
theorem vcu {K R:Nat} {w wx:World} (h:Below K w wx) (hR:K≤R) (s:ByteArray) (pos:Nat):Below K w (wx.iterAt R s pos):=
 h.trans ⟨rfl,rfl,rfl,by rw[Lib.iterAt_size];exact nl _,λk hk=>Lib.iterAt_other _ _ _ _ _ (by omega)⟩
theorem vdy {K R:Nat} {wx:World} {v:Value} {n:Nat} {xs:List Value} (h:wx.ownsRow K 9 1 v n xs) (hR:R<K) (s:ByteArray) (pos:Nat):(wx.iterAt R s pos).ownsRow K 9 1 v n xs:=
 cB h λb hb=>Lib.iterAt_other _ _ _ _ _ (by have:=(h.lt b hb).1;omega)
theorem vep (s : List UInt8) (w : World) (hs : s.length ≤ 100000) :
 Calls Tryz.prog 172 #[str s] w λe w'=>∃v,e=.returned v∧w'.ownsRow w.heap.size 9 1 v (va7 s).length (aB (va7 s))∧Below w.heap.size w w':=by
 obtain⟨i0,gw,hz0,hz1,hz2⟩:=bY iM
 by_cases h0:s=[]
 · subst h0
   go_enter Tryz.func172,Tryz.ntmps172;go_wp2_with fail;go_ret;exact⟨_,rfl,World.ownsRow_nil _ _ _ _,zb _⟩
 have g0:s.isEmpty=false:=by simpa using h0
 have HP:=zh (show va7 s=va3 0 s by unfold va7;rw[if_neg h0])
 generalize va7 s=RS at *
 go_enter Tryz.func172,Tryz.ntmps172
 go_wp2_with fail
 go_loopw [3,4,5] (λa d f wx=>∃(i g:Nat) (out:List (List UInt8)),i≤s.length∧f=.int .i64 g∧d=.int .i64 (va2 0 (s.take i))∧van s i g out∧wx.heap[w.heap.size]? =some (.stringIter ⟨s.toArray⟩ i)∧wx.ownsRow (w.heap.size+1) 9 1 a out.length (aB out)∧Below w.heap.size w wx) (λ_ _ _ wx=>s.length - wx.iterPos w.heap.size)
 case atStart=>exact⟨0,0,[],by omega,by go_num,by go_num,van.start s,World.iter_heap _ _ _,World.ownsRow_nil _ _ _ _,(zb w).alloc zr _⟩
 case round =>
  obtain⟨i,g,out,hi,rfl,rfl,hL,hit,hown,hb⟩:=hrel;obtain⟨pv,cv,rfl⟩:=bu hown;have hz:=hb.size;have vj0:w.heap.size<wr.heap.size:=bA hit;have vji:=hL.fi;have hol:=hL.len;have vjj:wr.iterPos w.heap.size=i:=by unfold World.iterPos;rw[hit]
  have key:∀(X:List UInt8) (v':Value) (w3:World),w3.ownsRow (w.heap.size+1) 9 1 v' (out.length+1) (aB out++[str X])→w3.ownsRow (w.heap.size+1) 9 1 v' (out++[X]).length (aB (out++[X])):=λX v' w3 h=>by
   rw[List.length_append,show aB (out++[X])=aB out++[str X] by simp[aB]];exact h
  have kb:∀(W:World) (o:Obj) (w3:World),Below w.heap.size w W→(W.alloc o).grownBy w3 (Value.slice pv out.length cv).ownBlock→Below w.heap.size w w3:=λW o w3 hW h=>(hW.alloc hW.size o).grown h (by have:=hW.size;simp;omega) λb e=>by have:=(hown.lt b e).1;omega
  by_cases h2:i=s.length
  · subst h2
    have hX:=zh hL.done;have hnx:∀ty,(Instr.next (.pointer (some ⟨w.heap.size,0,none⟩)) true ty).run Tryz.prog wr=_:=λty=>Lib.run_next_end_at wr w.heap.size ⟨s.toArray⟩ s.length ty hit (by show ¬s.length<s.toArray.size;simp)
    generalize va2 0 (s.take s.length)=dd at *;clear hL;have Kw:=zh (show RS=out++[s.drop g] by rw[HP.out,hX.out]);clear hX HP;go_wp2_with (at_builtin;refine wpList_append_own _ rfl _ _ 34 rfl (w.heap.size+1) 9 i0 _ 1 16 eV gw hz0 hz1 hz2 rfl (by decide) _ _ (aB out) rfl (hown.alloc _) ⟨wr.heap.size,0,none⟩ 1 1 [str (s.drop g)] rfl rfl (cell_one_new _ _ _) (by intro u hu;rw[List.mem_singleton.1 hu];rfl) (by unfold maxLen;omega) (by omega) (by simp;omega) ?_;intro v' w3 bB hgr vih);go_ret;rw[Kw.out];exact⟨_,rfl,vgj (key _ _ _ bB) (Nat.le_succ _),kb _ _ _ hb hgr⟩
  · have hlt:i<s.length:=by omega
    obtain⟨c,hc⟩:∃c,s[i]? =some c:=⟨_,List.getElem?_eq_getElem hlt⟩
    have vha:s[i]'hlt=c:=(List.getElem?_eq_some_iff.1 hc).2;have hdl:=vbi (s.take i) 0;rw[List.length_take] at hdl;have hlz:i<(⟨s.toArray⟩:ByteArray).size:=by show i<s.toArray.size;simpa using hlt
    by_cases ha:c.toNat<128
    · have hnx:∀ty,(Instr.next (.pointer (some ⟨w.heap.size,0,none⟩)) true ty).run Tryz.prog wr=.ok (.tuple #[.bool true,.int .i64 i,.int .i32 c.toNat]) (wr.iterAt w.heap.size ⟨s.toArray⟩ (i+1)):=λty=>by
       rw[Lib.run_next_ascii_at wr w.heap.size ⟨s.toArray⟩ i ty hit hlz (by show(s[i]'hlt).toNat<128;rw[vha];exact ha)];rw[show((⟨s.toArray⟩:ByteArray)[i]'hlz)=c from vha]
      have vd1:=Lib.iterAt_heap wr w.heap.size ⟨s.toArray⟩ i (i+1) hit;have vcc:=vdy hown (Nat.lt_succ_self _) ⟨s.toArray⟩ (i+1);have au:=vcu hb zr ⟨s.toArray⟩ (i+1);have vjp:=au.size;generalize wr.iterAt w.heap.size ⟨s.toArray⟩ (i+1)=W1 at *;have vif:W1.iterPos w.heap.size=i+1:=by unfold World.iterPos;rw[vd1]
      have vjq:w.heap.size<W1.heap.size:=bA vd1;have hdn:=vb1 (d:=0) hc;have hc0:∀n:UInt8,c≠n→((c.toNat:Int)==(n.toNat:Int))=false:=λn h=>by
       rw[beq_eq_false_iff_ne];exact λe=>h (UInt8.toNat_inj.1 (by omega))
      clear hit hown hb hz vj0 hlz h2
      by_cases hk:c=44∧va2 0 (s.take i)=0
      · obtain⟨rfl,Fy⟩:=hk
        have veg:=hL.comma hc Fy;rw[if_neg (by decide),if_neg (by decide),Fy] at hdn;have vb9:=zh hdn;rw[Fy];clear hL hdn Fy hdl hc hc0 ha;go_wp2_with (at_builtin;refine wpList_append_own _ rfl _ _ 34 rfl (w.heap.size+1) 9 i0 _ 1 16 eV gw hz0 hz1 hz2 rfl (by decide) _ _ (aB out) rfl (vcc.alloc _) ⟨W1.heap.size,0,none⟩ 1 1 [str ((s.take i).drop g)] rfl rfl (cell_one_new _ _ _) (by intro u hu;rw[List.mem_singleton.1 hu];rfl) (by unfold maxLen;omega) (by omega) (by simp;omega) ?_;intro v' w3 bB hgr vih);have hne:(Value.slice pv out.length cv).ownBlock≠some w.heap.size:=λe=>by have:=(vcc.lt _ e).1;omega
        have vhj:w3.heap[w.heap.size]? =some (.stringIter ⟨s.toArray⟩ (i+1)):=(hgr.block w.heap.size (by simp;omega) (λe=>hne e.symm)).trans (aD _ vd1);exact⟨⟨i+1,i+1,_,by omega,by go_num,by rw[vb9.out],veg,vhj,key _ _ _ bB,kb _ _ _ au hgr⟩,by rw[vjj];unfold World.iterPos;rw[vhj];simp only;omega⟩
      · have veg:=hL.pass hc hk
        clear key kb
        by_cases ved:c=91
        · subst ved
          rw[if_pos rfl] at hdn;generalize va2 0 (s.take i)=d at *;have vb9:=zh hdn;clear hL hk hdn hc hc0 ha;go_wp2_with fail;exact⟨⟨i+1,g,out,by omega,by go_num,by rw[vb9.out],veg,vd1,vcc,au⟩,by omega⟩
        · by_cases h93:c=93
          · subst h93
            rw[if_neg (by decide),if_pos rfl] at hdn;generalize va2 0 (s.take i)=d at *;have vb9:=zh hdn;clear hL hk hdn hc hc0 ha ved;go_wp2_with fail;exact⟨⟨i+1,g,out,by omega,by go_num,by rw[vb9.out],veg,vd1,vcc,au⟩,by omega⟩
          · rw[if_neg ved,if_neg h93] at hdn
            have q1:((c.toNat:Int)==91)=false:=hc0 91 ved;have q2:((c.toNat:Int)==93)=false:=hc0 93 h93;generalize va2 0 (s.take i)=d at *;have vb9:=zh hdn
            by_cases h44:c=44
            · subst h44
              have q3:(d==0)=false:=by rw[beq_eq_false_iff_ne];exact λe=>hk ⟨rfl,e⟩
              clear hL hk hdn hc hc0 ved h93 q1 q2 ha;go_wp2_with fail;exact⟨⟨i+1,g,out,by omega,by go_num,by rw[vb9.out],veg,vd1,vcc,au⟩,by omega⟩
            · have q3:((c.toNat:Int)==44)=false:=hc0 44 h44
              clear hL hk hdn hc hc0 ved h93 h44;go_wp2_with fail;exact⟨⟨i+1,g,out,by omega,by go_num,by rw[vb9.out],veg,vd1,vcc,au⟩,by omega⟩
    · obtain⟨w1,w2,w3⟩:=vdu ⟨s.toArray⟩ i hlz (by show 128≤(s[i]'hlt).toNat;rw[vha];omega)
      have hr:=(decode_high ⟨s.toArray⟩ i hlz (by show 128≤(s[i]'hlt).toNat;rw[vha];omega)).1;have hnx:=λty=>Lib.run_next_any_at (P:=Tryz.prog) wr w.heap.size ⟨s.toArray⟩ i ty hit hlz
      generalize hdc:Utf8.decode ⟨s.toArray⟩ i=vkt at *;obtain⟨r,n⟩:=vkt;dsimp only at w1 w2 w3 hr hnx;have vj4:i+n≤s.length:=by
       have:(⟨s.toArray⟩:ByteArray).size=s.length:=by show s.toArray.size=_;simp
       omega
      obtain⟨veg,hd2⟩:=hL.wide n vj4 λk hk c' KF=>by
       have h5:=w3 k hk;have h6:i+k<(⟨s.toArray⟩:ByteArray).size:=by show i+k<s.toArray.size;simp;omega
       have h7:=get_at ⟨s.toArray⟩ (i+k) h6;rw[Nat.add_zero] at h7;rw[h7,show((⟨s.toArray⟩:ByteArray)[i+k]'h6)=c' from(List.getElem?_eq_some_iff.1 KF).2] at h5;exact h5
      have vd1:=Lib.iterAt_heap wr w.heap.size ⟨s.toArray⟩ i (i+n) hit;have vcc:=vdy hown (Nat.lt_succ_self _) ⟨s.toArray⟩ (i+n);have au:=vcu hb zr ⟨s.toArray⟩ (i+n);generalize wr.iterAt w.heap.size ⟨s.toArray⟩ (i+n)=W1 at *;have vif:W1.iterPos w.heap.size=i+n:=by unfold World.iterPos;rw[vd1]
      have q1:((r:Int)==91)=false:=by rw[beq_eq_false_iff_ne];omega
      have q2:((r:Int)==93)=false:=by rw[beq_eq_false_iff_ne];omega
      have q3:((r:Int)==44)=false:=by rw[beq_eq_false_iff_ne];omega
      have R1:=zh hd2;clear hit hown hb hz vj0 hlz h2 hL hc vha ha hdc hd2 key kb w2 w3;go_wp2_with fail;exact⟨⟨i+n,g,out,vj4,by go_num,by rw[R1.out],veg,vd1,vcc,au⟩,by omega⟩
