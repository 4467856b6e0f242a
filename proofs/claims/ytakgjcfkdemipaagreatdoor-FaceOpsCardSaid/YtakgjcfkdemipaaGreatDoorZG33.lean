/-
  Lemmas for the statement: the reference's way to find what is inside a type (plain): at each place the type that begins there. Contracts: the reference's has, Inside (argusref03), in the words of the program's contracts. Conditions: bounds of lengths; the variable strings.asciiSpace.
-/
import Derived.Test.YtakgjcfkdemipaaGreatDoorZGn
import Derived.Test.YtakgjcfkdemipaaGreatDoorZG15
set_option maxHeartbeats 6400000
namespace Go.Proofs.YtakgjcfkdemipaaGreatDoor
def colon (s:List UInt8):Bool:=(s.drop (aj s)).head? ==some 58
def iW (p:UInt8) (s:List UInt8):List (List UInt8):=if(p=91∨p=58)∧eB s≠0∧colon s=false then [s.take (eB s)] else []
def scan:UInt8→List UInt8→List (List UInt8)
 | _,[]=>[]
 | p,c::r=>iW p (c::r)++scan c r
theorem gZ {p:UInt8} (s:List UInt8) (h1:p≠91) (h2:p≠58):iW p s=[]:=by
 unfold iW;rw[if_neg];rintro⟨h|h,_⟩
 · exact h1 h
 · exact h2 h
theorem zm {p:UInt8} (s:List UInt8) (h1:p≠91) (h2:p≠58):scan p s=scan 0 s:=by
 cases s with
 | nil=>rfl
 | cons c r=>rw[scan,scan,gZ _ h1 h2,gZ _ (by decide) (by decide)]
theorem zM {c:UInt8} (h:gh c=true):c≠91∧c≠58∧c≠63:=by
 refine⟨?_,?_,?_⟩<;>(rintro rfl;simp[gh] at h)
theorem yg:∀(w r:List UInt8) (p:UInt8),aj w=w.length→p≠91→p≠58→scan p (w++r)=scan 0 r
 | [],r,p,_,h1,h2=>zm r h1 h2
 | c::w,r,p,h,h1,h2=>by
  rw[bI] at h;split at h
  · rename_i hc
    obtain⟨c1,c2,_⟩:=zM hc;rw[List.cons_append,scan,gZ _ h1 h2,List.nil_append];exact yg w r c (by simpa using h) c1 c2
  · simp at h
theorem rN {w r:List UInt8} (p:UInt8) (hw:aj w=w.length) (hne:w≠[]):scan p (w++r)=iW p (w++r)++scan 0 r:=by
 cases w with
 | nil=>exact absurd rfl hne
 | cons c w=>
  rw[bI] at hw;split at hw
  · rename_i hc
    obtain⟨c1,c2,_⟩:=zM hc;rw[List.cons_append,scan,yg w r c (by simpa using hw) c1 c2]
  · simp at hw
theorem tL {w r:List UInt8} (hw:aj w=w.length) (hr:aj r=0):colon (w++r)=(r.head? ==some 58):=by
 unfold colon;rw[(gv hw hr).2]
theorem stop.colon {r:List UInt8} (h:stop r):(r.head? ==some 58)=false:=by
 cases r with
 | nil=>rfl
 | cons c r=>rcases h c r rfl with rfl|rfl<;>rfl
theorem Km {sub:Fo} {r:List UInt8} (h:stop r):((sub.br++r).head? ==some 58)=false∧aj (sub.br++r)=0:=by
 cases sub with
 | nil=>exact⟨h.colon,h.ends.1⟩
 | cons pn k n sub rest=>
  constructor
  · rfl
  · rw[Fo.br,List.cons_append,bI];rfl
theorem J1 {k:Nat} {n:List UInt8} {sub:Fo} (h:Wf none (.cons [] k n sub .nil)):cB k n≠[]:=by
 cases h with
 | par=>decide
 | word k h=>rcases h with rfl|rfl|rfl<;>decide
 | arr a h=>decide
 | rcd k w fo hk=>rcases hk with⟨rfl,rfl⟩|⟨rfl,rfl⟩<;>decide
 | nam n hn=>exact jm hn
 | app n a hn h=>exact jm hn
theorem Fh {k:Nat} {n:List UInt8} {sub:Fo} (h:Wf none (.cons [] k n sub .nil)) {p:UInt8} (hp:p=91∨p=58) {r:List UInt8} (hr:stop r):
 iW p ((Fo.cons [] k n sub .nil).tx++r)=[(Fo.cons [] k n sub .nil).tx]:=by
 have ho:(Tr.mk k n sub).ok:=h
 have e:(Fo.cons [] k n sub .nil).tx=(Tr.mk k n sub).txt:=by rw[Tr.eT];rfl
 have hn:eB ((Fo.cons [] k n sub .nil).tx++r)=(Fo.cons [] k n sub .nil).tx.length:=by rw[e];exact FY ho hr.ends
 have hpos:=ho.Lu
 rw[←e] at hpos
 have hc:colon ((Fo.cons [] k n sub .nil).tx++r)=false:=by
  rw[Fo.dR,List.append_assoc]
  by_cases hk:k=8
  · subst hk
    obtain⟨rfl,rfl⟩:=h.NT
    rfl
  · obtain⟨b1,b2⟩:=Km (sub:=sub) hr
    rw[tL (jk h hk) b2];exact b1
 unfold iW
 rw[hn,if_pos ⟨hp,by omega,hc⟩]
 simp
def GR:Option (List UInt8)→Fo→Prop
 | none,fo=>∀p r,(p=91∨p=58)→stop r→scan p (fo.tx++r)=fo.ins.map (·.txt)++scan 0 r
 | some _,fo=>∀p r,(p=91∨p=44)→scan p (fo.tx++93::r)=fo.ins.map (·.txt)++scan 0 (93::r)
theorem ug {pn X:List UInt8} {p:UInt8} (hn:isName pn=true):iW p (pn++58::X)=[]:=by
 unfold iW
 rw[if_neg]
 rintro⟨_,_,h⟩
 rw[tL (eO hn) (by rw[bI];rfl)] at h
 simp at h
theorem Wf.RN {tag:Option (List UInt8)} {fo:Fo} (h:Wf tag fo):GR tag fo:=by
 have key : ∀ (k : Nat) (n : List UInt8) (sub : Fo), Wf none (.cons [] k n sub .nil) → (sub ≠ .nil → ∀ r, scan 91 (sub.tx ++ 93 :: r) = sub.ins.map (·.txt) ++ scan 0 (93 :: r)) → GR none (.cons [] k n sub .nil) := by
  intro k n sub h ih p r hp hr;have hh:=Fh h hp hr;have e:(Fo.cons [] k n sub .nil).tx=(Tr.mk k n sub).txt:=by rw[Tr.eT];rfl
  have hi:(Fo.cons [] k n sub .nil).ins.map (·.txt)=(Fo.cons [] k n sub .nil).tx::sub.ins.map (·.txt):=by rw[Fo.ins,e];simp[Fo.ins]
  rw[hi];rw[Fo.dR] at hh ⊢;rw[List.append_assoc] at hh ⊢
  by_cases hk:k=8
  · subst hk
    obtain⟨rfl,rfl⟩:=h.NT;have e1:scan p (63::116::r)=iW p (63::116::r)++(iW 63 (116::r)++scan 116 r):=by rw[scan,scan]
    have e2:iW p (63::116::r)=[cB 8 []++Fo.nil.br]:=hh
    show scan p (63::116::r)=_
    rw[e1,e2,gZ (p:=63) _ (by decide) (by decide),zm (p:=116) r (by decide) (by decide)];simp[Fo.ins]
  · rw [rN p (jk h hk) (J1 h), hh]
    by_cases hs:sub=.nil
    · subst hs;simp[Fo.ins,Fo.br]
    · have e2:scan 0 (sub.br++r)=sub.ins.map (·.txt)++scan 0 r:=by
       rw[Fo.jG hs,show(91::(sub.tx++[93]))++r=91::(sub.tx++93::r) from by simp,scan,gZ (p:=0) _ (by decide) (by decide),List.nil_append,ih hs,scan,gZ (p:=0) _ (by decide) (by decide),List.nil_append,zm (p:=93) r (by decide) (by decide)]
      rw[e2];simp
 induction h with
 | par=>exact key _ _ _ .par (λh=>absurd rfl h)
 | word k h=>exact key _ _ _ (.word k h) (λh=>absurd rfl h)
 | arr x h ih=>exact key _ _ _ (.arr x h) (λ_ r=>ih 91 (93::r) (.inl rfl) (oz r))
 | rcd k w fo hk h hl ih=>exact key _ _ _ (.rcd k w fo hk h hl) (λ_ r=>ih 91 r (.inl rfl))
 | nam n hn=>exact key _ _ _ (.nam n hn) (λh=>absurd rfl h)
 | app n x hn h ih=>exact key _ _ _ (.app n x hn h) (λ_ r=>ih 91 (93::r) (.inl rfl) (oz r))
 | last b pn k n sub hn hb h ih=>
  intro p r hp;have hi:(Fo.cons pn k n sub .nil).ins=(Fo.cons [] k n sub .nil).ins:=by simp[Fo.ins]
  rw[hi,Fo.jr,fB hn,List.append_assoc,List.append_assoc,List.singleton_append,rN p (eO hn) (jm hn),ug hn,List.nil_append,scan,gZ _ (by decide) (by decide),List.nil_append];exact ih 58 (93::r) (.inr rfl) (oz r)
 | more b pn k n sub rest hn hb h h2 ih ih2=>
  intro p r hp;have hi:(Fo.cons pn k n sub rest).ins=(Fo.cons [] k n sub .nil).ins++rest.ins:=by simp[Fo.ins]
  have e1:=ih 58 (44::(rest.tx++93::r)) (.inr rfl) (vG _);have e2:=ih2 44 r (.inr rfl);rw[hi,Fo.js _ _ _ _ _ h2.ne,fB hn,List.map_append];rw[show pn++[58]++((Fo.cons [] k n sub Fo.nil).tx++44::rest.tx)++93::r=pn++58::((Fo.cons [] k n sub .nil).tx++44::(rest.tx++93::r)) from by simp];rw[rN p (eO hn) (jm hn),ug hn,List.nil_append,scan,gZ _ (by decide) (by decide),List.nil_append,e1,scan,gZ _ (by decide) (by decide),List.nil_append,e2];simp
theorem Tr.ok.scan {t:Tr} (h:t.ok):scan 91 t.txt=t.ins.map (·.txt):=by
 have hs:GR none (.one t):=Wf.RN h
 have:=hs 91 [] (.inl rfl) BM
 rw[List.append_nil,←Tr.eT,Proofs.YtakgjcfkdemipaaGreatDoor.scan,List.append_nil] at this
 rw[this]
 simp[Fo.one,Fo.ins,Tr.ins]
def je (acc l:List (List UInt8)):List (List UInt8):=l.foldl (λacc s=>if hasB acc s then acc else acc++[s]) acc
theorem Dd {t:Tr} (h:t.ok):je [] (scan 91 t.txt)=kZ t.ins:=by
 rw[h.scan,xC];rfl
end Go.Proofs.YtakgjcfkdemipaaGreatDoor
namespace Go.Proofs.YtakgjcfkdemipaaGreatDoor
open Go.RowKit
theorem Jw (v : Value) (ss : List (List UInt8)) (s : List UInt8) (w : World) (hv : Strs w v ss) :
 Calls Tryz.prog 163 #[v,str s] w λe w'=>e=.returned (.bool (hasB ss s))∧w=w':=by
 rcases hv.shape with⟨rfl,rfl⟩|⟨b,o,cap,rfl,hm,hc⟩
 · go_enter Tryz.func163,Tryz.ntmps163
   go_wp2
   refine wp_loop_rounds 1 ?_;rw[rounds_succ]
   go_wp2
   go_ret;exact⟨rfl,rfl⟩
 · unfold maxLen at hm
   go_enter Tryz.func163,Tryz.ntmps163
   go_wp2
   go_loop [5] (λi=>∃k:Nat,k≤ss.length∧hasB (ss.take k) s=false∧i=.int .i64 k) (λi=>ss.length - (intOf i).toNat)
   case atStart=>exact⟨0,by omega,xg _ _,rfl⟩
   case round =>
    obtain⟨k,hk,hn,rfl⟩:=hrel;have Hn:=Lib.hid hn;clear hn
    by_cases hlt:k<ss.length
    · have QW:=hc k hlt
      clear hc;cases he:(ss[k]==s)
      · have Hs:=Lib.hid (nu ss s k hlt Hn.out he)
        go_wp2
        go_round
        case rel=>exact⟨k+1,by omega,Hs.out,by go_num⟩
        case measure=>simp[intOf];omega
      · have Hs:=Lib.hid (An ss s k hlt he)
        go_wp2
        go_ret;exact⟨cC Hs.out.symm,rfl⟩
    · have Hs:=Lib.hid (Am ss s k hlt Hn.out)
      clear hc
      go_wp2
      go_ret;exact⟨cC Hs.out.symm,rfl⟩
theorem eZ {v:Value} {ss:List (List UInt8)} {s:List UInt8} {w:World} {q:Bool} (hv:Strs w v ss) (h:hasB ss s=q):
 Calls Tryz.prog 163 #[v,str s] w λe w'=>e=.returned (.bool q)∧w=w':=by
 have:=Jw v ss s w hv
 rwa [h] at this
def fM (s:List UInt8):Nat→UInt8
 | 0=>91
 | j+1=>s.getD j 0
theorem pZ {s:List UInt8} {i:Nat} (h:i<s.length):fM s (i+1)=s[i]:=by simp[fM,h]
theorem EB {s:List UInt8} {i:Nat} (h:i<s.length):scan (fM s i) (s.drop i)=iW (fM s i) (s.drop i)++scan (fM s (i+1)) (s.drop (i+1)):=by
 rw[List.drop_eq_getElem_cons h,scan,pZ h]
theorem ER {s:List UInt8} {i:Nat} (h:¬i+aj (s.drop i)<s.length):colon (s.drop i)=false:=by
 unfold colon
 rw[List.drop_drop,List.drop_of_length_le (by omega)]
 rfl
theorem zX {s:List UInt8} {i:Nat} (h:i+aj (s.drop i)<s.length):colon (s.drop i)=(s[i+aj (s.drop i)]==58):=by
 unfold colon
 rw[List.drop_drop,List.drop_eq_getElem_cons h]
 rfl
theorem zq {s:List UInt8} {i:Nat} {acc tot:List (List UInt8)} (h:i<s.length) (he:iW (fM s i) (s.drop i)=[]) (ht:je acc (scan (fM s i) (s.drop i))=tot):je acc (scan (fM s (i+1)) (s.drop (i+1)))=tot:=by
 rw[←ht,EB h,he];rfl
theorem JM {s x:List UInt8} {i:Nat} {acc tot:List (List UInt8)} (h:i<s.length) (he:iW (fM s i) (s.drop i)=[x]) (ht:je acc (scan (fM s i) (s.drop i))=tot):je (if hasB acc x then acc else acc++[x]) (scan (fM s (i+1)) (s.drop (i+1)))=tot:=by
 rw[←ht,EB h,he];rfl
theorem Fm {s:List UInt8} {i:Nat} {acc tot:List (List UInt8)} (h:i<s.length) (ht:je acc (scan (fM s i) (s.drop i))=tot):
 ((fM s i≠91∧fM s i≠58)∧je acc (scan (fM s (i+1)) (s.drop (i+1)))=tot)∨
 (fM s i=91∨fM s i=58)∧
  (eB (s.drop i)=0∧je acc (scan (fM s (i+1)) (s.drop (i+1)))=tot∨
  0 < eB (s.drop i) ∧ ((∃ h : i + aj (s.drop i) < s.length, s[i + aj (s.drop i)] = 58 ∧ je acc (scan (fM s (i + 1)) (s.drop (i + 1))) = tot) ∨
   (¬i+aj (s.drop i)<s.length∨∃h:i+aj (s.drop i)<s.length,s[i+aj (s.drop i)]≠58)∧
    (hasB acc (List.drop i (List.take (i+eB (s.drop i)) s))=true∧je acc (scan (fM s (i+1)) (s.drop (i+1)))=tot∨
     hasB acc (List.drop i (List.take (i+eB (s.drop i)) s))=false∧je (acc++[List.drop i (List.take (i+eB (s.drop i)) s)]) (scan (fM s (i+1)) (s.drop (i+1)))=tot))):=by
 by_cases hp:fM s i=91∨fM s i=58
 · refine .inr ⟨hp, ?_⟩
   by_cases h0:eB (s.drop i)=0
   · exact .inl ⟨h0,zq h (by unfold iW;rw[if_neg];rintro⟨_,h,_⟩;exact h h0) ht⟩
   · refine .inr ⟨by omega,?_⟩
     rcases hc:colon (s.drop i) with _|_
     · refine .inr ⟨?_,?_⟩
       · by_cases hl:i+aj (s.drop i)<s.length
         · rw[zX hl] at hc
           exact .inr ⟨hl,by simpa using hc⟩
         · exact .inl hl
       · have he:iW (fM s i) (s.drop i)=[List.drop i (List.take (i+eB (s.drop i)) s)]:=by
          unfold iW;rw[if_pos ⟨hp,h0,hc⟩,List.drop_take,show i+eB (s.drop i) - i=eB (s.drop i) from by omega]
         have hs:=JM h he ht;rcases hb:hasB acc (List.drop i (List.take (i+eB (s.drop i)) s)) with _|_
         · rw[hb] at hs;exact .inr ⟨rfl,hs⟩
         · rw[hb] at hs;exact .inl ⟨rfl,hs⟩
     · refine .inl ?_
       by_cases hl:i+aj (s.drop i)<s.length
       · refine⟨hl,?_,zq h (by unfold iW;rw[if_neg];rintro⟨_,_,h⟩;rw[hc] at h;simp at h) ht⟩
         rw[zX hl] at hc
         simpa using hc
       · rw[ER hl] at hc;simp at hc
 · have hp':fM s i≠91∧fM s i≠58:=⟨λh=>hp (.inl h),λh=>hp (.inr h)⟩
   exact .inl ⟨hp',zq h (gZ _ hp'.1 hp'.2) ht⟩
set_option maxRecDepth 8000 in
theorem zj (s : List UInt8) (T : Tr) (hs : aq s = (0, T)) (w : World) :
 Calls Tryz.prog 127 #[str s] w λe w'=>∃v,e=.returned (.tuple #[v,.int .i64 0])∧Strs w' v (kZ T.ins)∧Below w.heap.size w w':=by
 obtain⟨o1,e1,l1,_⟩:=bE hs
 have hC:=λW=>eN s (by unfold maxLen;omega) W
 rw[hs] at hC
 have hT:je [] (scan (fM s 0) (s.drop 0))=kZ T.ins:=by rw[←Dd o1,e1];rfl
 generalize kZ T.ins=tot at hT ⊢
 have HT:=Lib.hid hT
 obtain⟨i0,fV,hz0,hz1,hz2⟩:=info_parts yQ
 clear hs o1 e1 hT
 go_enter Tryz.func127,Tryz.ntmps127
 go_wp2_with (go_at_call 84;refine(hC _).mono ?_;clear hC;rintro e w1 ⟨rfl,ay⟩)
 go_loopw [5,6] (λo y wr=>∃(i:Nat) (acc:List (List UInt8)),i≤s.length∧y=.int .i64 i∧acc.length≤i∧wr.ownsRow w.heap.size 9 1 o acc.length (aD acc)∧Hid (je acc (scan (fM s i) (s.drop i))=tot)∧Below w.heap.size w wr) (λ_ y _=>s.length - (intOf y).toNat)
 case atStart=>exact⟨0,[],Nat.zero_le _,by go_num,by simp,by simpa[aD] using World.ownsRow_nil _ _ _ _,HT,ay⟩
 case round =>
  clear ay;obtain⟨i,acc,hi,rfl,ha,hown,HO,hb⟩:=hrel;obtain⟨po,co,rfl⟩:=aS hown
  by_cases hlt:i<s.length
  case neg=>
   have HS:Hid (acc=tot):=by
    have h:=HO.out;rw[List.drop_of_length_le (by omega)] at h;exact h
   obtain rfl:acc=tot:=HS.out;go_wp2_with fail;go_ret2;exact⟨_,rfl,Sl.bG (by simpa[aD] using hown),hb⟩
  case pos =>
   have hcs:=Fm hlt HO.out;have hR:=λW=>vk (s.drop i) 0 W (Int.le_refl _) (by simp;omega)
   have hK:=λW=>bz (s.drop i) W (by simp;unfold maxLen;omega)
   have hN:=zg (s.drop i);have hM:=cL (s.drop i);rw[List.length_drop] at hN hM;generalize eB (s.drop i)=N at hcs hR hN;generalize jN (s.drop i)=L at hR;generalize aj (s.drop i)=M at hcs hK hM;have Y9:i+N≤s.length:=by omega
   have Y8:i+M≤s.length:=by omega
   have Ty:(List.drop i (List.take (i+N) s)).length≤100:=by simp;omega
   rcases hcs with⟨⟨hp1,hp2⟩,hx⟩|⟨hp,hcs⟩
   case inl=>
    have HX:=Lib.hid hx;obtain⟨j,rfl⟩:∃j,i=j+1:=by
     cases i with
     | zero=>exact absurd rfl hp1
     | succ j=>exact⟨j,rfl⟩
    rw[pZ (by omega)] at hp1 hp2;have g1:(((s[j]).toNat:Int) != 91)=true:=by rw[bne_iff_ne];exact oS (d:=91) hp1
    have g2:(((s[j]).toNat:Int) != 58)=true:=by rw[bne_iff_ne];exact oS (d:=58) hp2
    have hj:j<s.length:=by omega
    clear hx hp1 hp2 hR hK HO;go_wp2_with fail;exact⟨⟨j+2,acc,by omega,by go_num,by omega,hown,HX.out,hb⟩,by simp only[intOf];omega⟩
   case inr =>
    cases i with
    | zero =>
     clear hp;simp only[Nat.zero_add,Nat.sub_zero,List.drop_zero] at hcs hR hK hN hM Y9 Y8 Ty ha;rcases hcs with⟨h0,hx⟩|⟨h0,⟨hl,hch,hx⟩|⟨Il,hcs⟩⟩
     · have HX:=Lib.hid hx
       have g3:((N:Int)==0)=true:=by rw[h0];rfl
       have HB:=Lib.hid (rfl:hasB acc []=hasB acc []);clear hx h0 HO;go_wp2_with (first
        | (go_at_call 140;refine(hR _).mono ?_;clear hR;rintro e w2 ⟨rfl,aA⟩;have aK:=hb.trans (af aA hb.size);have bq:=az hown aA (nl _);have gF:Strs w2 _ acc:=Sl.bG (by simpa[aD] using bq))
        | (go_at_call 162;refine(hK _).mono ?_;clear hK;rintro e w3 ⟨rfl,rfl⟩)
        | (go_at_call 163;(with_reducible refine(eZ gF HB.out).mono ?_);rintro e w4 ⟨rfl,rfl⟩)
        | (at_builtin;refine wpList_append_own _ rfl _ _ 34 rfl w.heap.size 9 i0 (.string ⟨#[]⟩) 1 16 Tryz.underlying34 fV hz0 hz1 hz2 rfl (by decide) _ _ _ rfl (bq.alloc _) ⟨w2.heap.size,0,none⟩ 1 1 [str (List.take N s)] rfl rfl (cell_one_new _ _ _) (λx hx=>by simp at hx;subst hx;rfl) (by unfold maxLen;omega) (by omega) (by have:=aK.size;simp;omega) ?_;intro v' w5 bM hgr _))
       exact⟨⟨1,acc,by omega,by go_num,by omega,bq,HX.out,aK⟩,by simp only[intOf];omega⟩
     · have HX:=Lib.hid hx
       have g3:((N:Int)==0)=false:=by rw[beq_eq_false_iff_ne];omega
       have g4:(((s[M]).toNat:Int)==58)=true:=by rw[hch];rfl
       have HB:=Lib.hid (rfl:hasB acc []=hasB acc []);clear hx h0 HO hch;go_wp2_with (first
        | (go_at_call 140;refine(hR _).mono ?_;clear hR;rintro e w2 ⟨rfl,aA⟩;have aK:=hb.trans (af aA hb.size);have bq:=az hown aA (nl _);have gF:Strs w2 _ acc:=Sl.bG (by simpa[aD] using bq))
        | (go_at_call 162;refine(hK _).mono ?_;clear hK;rintro e w3 ⟨rfl,rfl⟩)
        | (go_at_call 163;(with_reducible refine(eZ gF HB.out).mono ?_);rintro e w4 ⟨rfl,rfl⟩)
        | (at_builtin;refine wpList_append_own _ rfl _ _ 34 rfl w.heap.size 9 i0 (.string ⟨#[]⟩) 1 16 Tryz.underlying34 fV hz0 hz1 hz2 rfl (by decide) _ _ _ rfl (bq.alloc _) ⟨w2.heap.size,0,none⟩ 1 1 [str (List.take N s)] rfl rfl (cell_one_new _ _ _) (λx hx=>by simp at hx;subst hx;rfl) (by unfold maxLen;omega) (by omega) (by have:=aK.size;simp;omega) ?_;intro v' w5 bM hgr _))
       exact⟨⟨1,acc,by omega,by go_num,by omega,bq,HX.out,aK⟩,by simp only[intOf];omega⟩
     · have g3 : ((N : Int) == 0) = false := by rw [beq_eq_false_iff_ne]; omega
       rcases Il with hl|⟨hl,hch⟩
       ·
        rcases hcs with⟨hq,hx⟩|⟨hq,hx⟩
        · have HX:=Lib.hid hx
          have HB:=Lib.hid hq;clear hx h0 HO hq;go_wp2_with (first
           | (go_at_call 140;refine(hR _).mono ?_;clear hR;rintro e w2 ⟨rfl,aA⟩;have aK:=hb.trans (af aA hb.size);have bq:=az hown aA (nl _);have gF:Strs w2 _ acc:=Sl.bG (by simpa[aD] using bq))
           | (go_at_call 162;refine(hK _).mono ?_;clear hK;rintro e w3 ⟨rfl,rfl⟩)
           | (go_at_call 163;(with_reducible refine(eZ gF HB.out).mono ?_);rintro e w4 ⟨rfl,rfl⟩)
           | (at_builtin;refine wpList_append_own _ rfl _ _ 34 rfl w.heap.size 9 i0 (.string ⟨#[]⟩) 1 16 Tryz.underlying34 fV hz0 hz1 hz2 rfl (by decide) _ _ _ rfl (bq.alloc _) ⟨w2.heap.size,0,none⟩ 1 1 [str (List.take N s)] rfl rfl (cell_one_new _ _ _) (λx hx=>by simp at hx;subst hx;rfl) (by unfold maxLen;omega) (by omega) (by have:=aK.size;simp;omega) ?_;intro v' w5 bM hgr _))
          exact⟨⟨1,acc,by omega,by go_num,by omega,bq,HX.out,aK⟩,by simp only[intOf];omega⟩
        · have HX:=Lib.hid hx
          have HB:=Lib.hid hq;clear hx h0 HO hq;go_wp2_with (first
           | (go_at_call 140;refine(hR _).mono ?_;clear hR;rintro e w2 ⟨rfl,aA⟩;have aK:=hb.trans (af aA hb.size);have bq:=az hown aA (nl _);have gF:Strs w2 _ acc:=Sl.bG (by simpa[aD] using bq))
           | (go_at_call 162;refine(hK _).mono ?_;clear hK;rintro e w3 ⟨rfl,rfl⟩)
           | (go_at_call 163;(with_reducible refine(eZ gF HB.out).mono ?_);rintro e w4 ⟨rfl,rfl⟩)
           | (at_builtin;refine wpList_append_own _ rfl _ _ 34 rfl w.heap.size 9 i0 (.string ⟨#[]⟩) 1 16 Tryz.underlying34 fV hz0 hz1 hz2 rfl (by decide) _ _ _ rfl (bq.alloc _) ⟨w2.heap.size,0,none⟩ 1 1 [str (List.take N s)] rfl rfl (cell_one_new _ _ _) (λx hx=>by simp at hx;subst hx;rfl) (by unfold maxLen;omega) (by omega) (by have:=aK.size;simp;omega) ?_;intro v' w5 bM hgr _))
          refine⟨⟨1,acc++[List.take N s],by omega,by go_num,by simp only[List.length_append,List.length_cons,List.length_nil];omega,?_,HX.out,?_⟩,by simp only[intOf];omega⟩
          · rw[List.length_append,show aD (acc++[List.take N s])=aD acc++[str (List.take N s)] from by simp[aD]]
            exact bM
          · exact(aK.alloc aK.size _).grown hgr (by have:=aK.size;simp;omega) (λb e=>(bq.lt b e).1)
       ·
        have g4:(((s[M]).toNat:Int)==58)=false:=by rw[beq_eq_false_iff_ne];exact oS (d:=58) hch
        clear hch;rcases hcs with⟨hq,hx⟩|⟨hq,hx⟩
        · have HX:=Lib.hid hx
          have HB:=Lib.hid hq;clear hx h0 HO hq;go_wp2_with (first
           | (go_at_call 140;refine(hR _).mono ?_;clear hR;rintro e w2 ⟨rfl,aA⟩;have aK:=hb.trans (af aA hb.size);have bq:=az hown aA (nl _);have gF:Strs w2 _ acc:=Sl.bG (by simpa[aD] using bq))
           | (go_at_call 162;refine(hK _).mono ?_;clear hK;rintro e w3 ⟨rfl,rfl⟩)
           | (go_at_call 163;(with_reducible refine(eZ gF HB.out).mono ?_);rintro e w4 ⟨rfl,rfl⟩)
           | (at_builtin;refine wpList_append_own _ rfl _ _ 34 rfl w.heap.size 9 i0 (.string ⟨#[]⟩) 1 16 Tryz.underlying34 fV hz0 hz1 hz2 rfl (by decide) _ _ _ rfl (bq.alloc _) ⟨w2.heap.size,0,none⟩ 1 1 [str (List.take N s)] rfl rfl (cell_one_new _ _ _) (λx hx=>by simp at hx;subst hx;rfl) (by unfold maxLen;omega) (by omega) (by have:=aK.size;simp;omega) ?_;intro v' w5 bM hgr _))
          exact⟨⟨1,acc,by omega,by go_num,by omega,bq,HX.out,aK⟩,by simp only[intOf];omega⟩
        · have HX:=Lib.hid hx
          have HB:=Lib.hid hq;clear hx h0 HO hq;go_wp2_with (first
           | (go_at_call 140;refine(hR _).mono ?_;clear hR;rintro e w2 ⟨rfl,aA⟩;have aK:=hb.trans (af aA hb.size);have bq:=az hown aA (nl _);have gF:Strs w2 _ acc:=Sl.bG (by simpa[aD] using bq))
           | (go_at_call 162;refine(hK _).mono ?_;clear hK;rintro e w3 ⟨rfl,rfl⟩)
           | (go_at_call 163;(with_reducible refine(eZ gF HB.out).mono ?_);rintro e w4 ⟨rfl,rfl⟩)
           | (at_builtin;refine wpList_append_own _ rfl _ _ 34 rfl w.heap.size 9 i0 (.string ⟨#[]⟩) 1 16 Tryz.underlying34 fV hz0 hz1 hz2 rfl (by decide) _ _ _ rfl (bq.alloc _) ⟨w2.heap.size,0,none⟩ 1 1 [str (List.take N s)] rfl rfl (cell_one_new _ _ _) (λx hx=>by simp at hx;subst hx;rfl) (by unfold maxLen;omega) (by omega) (by have:=aK.size;simp;omega) ?_;intro v' w5 bM hgr _))
          refine⟨⟨1,acc++[List.take N s],by omega,by go_num,by simp only[List.length_append,List.length_cons,List.length_nil];omega,?_,HX.out,?_⟩,by simp only[intOf];omega⟩
          · rw[List.length_append,show aD (acc++[List.take N s])=aD acc++[str (List.take N s)] from by simp[aD]]
            exact bM
          · exact(aK.alloc aK.size _).grown hgr (by have:=aK.size;simp;omega) (λb e=>(bq.lt b e).1)
    | succ j =>
     rw[pZ (by omega)] at hp;have hj:j<s.length:=by omega
     rcases hp with hp|hp
     · have g1 : (((s[j]).toNat : Int) != 91) = false := by rw [hp]; rfl
       clear hp;rcases hcs with⟨h0,hx⟩|⟨h0,⟨hl,hch,hx⟩|⟨Il,hcs⟩⟩
       · have HX:=Lib.hid hx
         have g3:((N:Int)==0)=true:=by rw[h0];rfl
         have HB:=Lib.hid (rfl:hasB acc []=hasB acc []);clear hx h0 HO;go_wp2_with (first
          | (go_at_call 140;refine(hR _).mono ?_;clear hR;rintro e w2 ⟨rfl,aA⟩;have aK:=hb.trans (af aA hb.size);have bq:=az hown aA (nl _);have gF:Strs w2 _ acc:=Sl.bG (by simpa[aD] using bq))
          | (go_at_call 162;refine(hK _).mono ?_;clear hK;rintro e w3 ⟨rfl,rfl⟩)
          | (go_at_call 163;(with_reducible refine(eZ gF HB.out).mono ?_);rintro e w4 ⟨rfl,rfl⟩)
          | (at_builtin;refine wpList_append_own _ rfl _ _ 34 rfl w.heap.size 9 i0 (.string ⟨#[]⟩) 1 16 Tryz.underlying34 fV hz0 hz1 hz2 rfl (by decide) _ _ _ rfl (bq.alloc _) ⟨w2.heap.size,0,none⟩ 1 1 [str (List.drop (j+1) (List.take ((j+1)+N) s))] rfl rfl (cell_one_new _ _ _) (λx hx=>by simp at hx;subst hx;rfl) (by unfold maxLen;omega) (by omega) (by have:=aK.size;simp;omega) ?_;intro v' w5 bM hgr _))
         exact⟨⟨(j+1)+1,acc,by omega,by go_num,by omega,bq,HX.out,aK⟩,by simp only[intOf];omega⟩
       · have HX:=Lib.hid hx
         have g3:((N:Int)==0)=false:=by rw[beq_eq_false_iff_ne];omega
         have g4:(((s[(j+1)+M]).toNat:Int)==58)=true:=by rw[hch];rfl
         have HB:=Lib.hid (rfl:hasB acc []=hasB acc []);clear hx h0 HO hch;go_wp2_with (first
          | (go_at_call 140;refine(hR _).mono ?_;clear hR;rintro e w2 ⟨rfl,aA⟩;have aK:=hb.trans (af aA hb.size);have bq:=az hown aA (nl _);have gF:Strs w2 _ acc:=Sl.bG (by simpa[aD] using bq))
          | (go_at_call 162;refine(hK _).mono ?_;clear hK;rintro e w3 ⟨rfl,rfl⟩)
          | (go_at_call 163;(with_reducible refine(eZ gF HB.out).mono ?_);rintro e w4 ⟨rfl,rfl⟩)
          | (at_builtin;refine wpList_append_own _ rfl _ _ 34 rfl w.heap.size 9 i0 (.string ⟨#[]⟩) 1 16 Tryz.underlying34 fV hz0 hz1 hz2 rfl (by decide) _ _ _ rfl (bq.alloc _) ⟨w2.heap.size,0,none⟩ 1 1 [str (List.drop (j+1) (List.take ((j+1)+N) s))] rfl rfl (cell_one_new _ _ _) (λx hx=>by simp at hx;subst hx;rfl) (by unfold maxLen;omega) (by omega) (by have:=aK.size;simp;omega) ?_;intro v' w5 bM hgr _))
         exact⟨⟨(j+1)+1,acc,by omega,by go_num,by omega,bq,HX.out,aK⟩,by simp only[intOf];omega⟩
       · have g3 : ((N : Int) == 0) = false := by rw [beq_eq_false_iff_ne]; omega
         rcases Il with hl|⟨hl,hch⟩
         ·
          rcases hcs with⟨hq,hx⟩|⟨hq,hx⟩
          · have HX:=Lib.hid hx
            have HB:=Lib.hid hq;clear hx h0 HO hq;go_wp2_with (first
             | (go_at_call 140;refine(hR _).mono ?_;clear hR;rintro e w2 ⟨rfl,aA⟩;have aK:=hb.trans (af aA hb.size);have bq:=az hown aA (nl _);have gF:Strs w2 _ acc:=Sl.bG (by simpa[aD] using bq))
             | (go_at_call 162;refine(hK _).mono ?_;clear hK;rintro e w3 ⟨rfl,rfl⟩)
             | (go_at_call 163;(with_reducible refine(eZ gF HB.out).mono ?_);rintro e w4 ⟨rfl,rfl⟩)
             | (at_builtin;refine wpList_append_own _ rfl _ _ 34 rfl w.heap.size 9 i0 (.string ⟨#[]⟩) 1 16 Tryz.underlying34 fV hz0 hz1 hz2 rfl (by decide) _ _ _ rfl (bq.alloc _) ⟨w2.heap.size,0,none⟩ 1 1 [str (List.drop (j+1) (List.take ((j+1)+N) s))] rfl rfl (cell_one_new _ _ _) (λx hx=>by simp at hx;subst hx;rfl) (by unfold maxLen;omega) (by omega) (by have:=aK.size;simp;omega) ?_;intro v' w5 bM hgr _))
            exact⟨⟨(j+1)+1,acc,by omega,by go_num,by omega,bq,HX.out,aK⟩,by simp only[intOf];omega⟩
          · have HX:=Lib.hid hx
            have HB:=Lib.hid hq;clear hx h0 HO hq;go_wp2_with (first
             | (go_at_call 140;refine(hR _).mono ?_;clear hR;rintro e w2 ⟨rfl,aA⟩;have aK:=hb.trans (af aA hb.size);have bq:=az hown aA (nl _);have gF:Strs w2 _ acc:=Sl.bG (by simpa[aD] using bq))
             | (go_at_call 162;refine(hK _).mono ?_;clear hK;rintro e w3 ⟨rfl,rfl⟩)
             | (go_at_call 163;(with_reducible refine(eZ gF HB.out).mono ?_);rintro e w4 ⟨rfl,rfl⟩)
             | (at_builtin;refine wpList_append_own _ rfl _ _ 34 rfl w.heap.size 9 i0 (.string ⟨#[]⟩) 1 16 Tryz.underlying34 fV hz0 hz1 hz2 rfl (by decide) _ _ _ rfl (bq.alloc _) ⟨w2.heap.size,0,none⟩ 1 1 [str (List.drop (j+1) (List.take ((j+1)+N) s))] rfl rfl (cell_one_new _ _ _) (λx hx=>by simp at hx;subst hx;rfl) (by unfold maxLen;omega) (by omega) (by have:=aK.size;simp;omega) ?_;intro v' w5 bM hgr _))
            refine⟨⟨(j+1)+1,acc++[List.drop (j+1) (List.take ((j+1)+N) s)],by omega,by go_num,by simp only[List.length_append,List.length_cons,List.length_nil];omega,?_,HX.out,?_⟩,by simp only[intOf];omega⟩
            · rw[List.length_append,show aD (acc++[List.drop (j+1) (List.take ((j+1)+N) s)])=aD acc++[str (List.drop (j+1) (List.take ((j+1)+N) s))] from by simp[aD]]
              exact bM
            · exact(aK.alloc aK.size _).grown hgr (by have:=aK.size;simp;omega) (λb e=>(bq.lt b e).1)
         ·
          have g4:(((s[(j+1)+M]).toNat:Int)==58)=false:=by rw[beq_eq_false_iff_ne];exact oS (d:=58) hch
          clear hch;rcases hcs with⟨hq,hx⟩|⟨hq,hx⟩
          · have HX:=Lib.hid hx
            have HB:=Lib.hid hq;clear hx h0 HO hq;go_wp2_with (first
             | (go_at_call 140;refine(hR _).mono ?_;clear hR;rintro e w2 ⟨rfl,aA⟩;have aK:=hb.trans (af aA hb.size);have bq:=az hown aA (nl _);have gF:Strs w2 _ acc:=Sl.bG (by simpa[aD] using bq))
             | (go_at_call 162;refine(hK _).mono ?_;clear hK;rintro e w3 ⟨rfl,rfl⟩)
             | (go_at_call 163;(with_reducible refine(eZ gF HB.out).mono ?_);rintro e w4 ⟨rfl,rfl⟩)
             | (at_builtin;refine wpList_append_own _ rfl _ _ 34 rfl w.heap.size 9 i0 (.string ⟨#[]⟩) 1 16 Tryz.underlying34 fV hz0 hz1 hz2 rfl (by decide) _ _ _ rfl (bq.alloc _) ⟨w2.heap.size,0,none⟩ 1 1 [str (List.drop (j+1) (List.take ((j+1)+N) s))] rfl rfl (cell_one_new _ _ _) (λx hx=>by simp at hx;subst hx;rfl) (by unfold maxLen;omega) (by omega) (by have:=aK.size;simp;omega) ?_;intro v' w5 bM hgr _))
            exact⟨⟨(j+1)+1,acc,by omega,by go_num,by omega,bq,HX.out,aK⟩,by simp only[intOf];omega⟩
          · have HX:=Lib.hid hx
            have HB:=Lib.hid hq;clear hx h0 HO hq;go_wp2_with (first
             | (go_at_call 140;refine(hR _).mono ?_;clear hR;rintro e w2 ⟨rfl,aA⟩;have aK:=hb.trans (af aA hb.size);have bq:=az hown aA (nl _);have gF:Strs w2 _ acc:=Sl.bG (by simpa[aD] using bq))
             | (go_at_call 162;refine(hK _).mono ?_;clear hK;rintro e w3 ⟨rfl,rfl⟩)
             | (go_at_call 163;(with_reducible refine(eZ gF HB.out).mono ?_);rintro e w4 ⟨rfl,rfl⟩)
             | (at_builtin;refine wpList_append_own _ rfl _ _ 34 rfl w.heap.size 9 i0 (.string ⟨#[]⟩) 1 16 Tryz.underlying34 fV hz0 hz1 hz2 rfl (by decide) _ _ _ rfl (bq.alloc _) ⟨w2.heap.size,0,none⟩ 1 1 [str (List.drop (j+1) (List.take ((j+1)+N) s))] rfl rfl (cell_one_new _ _ _) (λx hx=>by simp at hx;subst hx;rfl) (by unfold maxLen;omega) (by omega) (by have:=aK.size;simp;omega) ?_;intro v' w5 bM hgr _))
            refine⟨⟨(j+1)+1,acc++[List.drop (j+1) (List.take ((j+1)+N) s)],by omega,by go_num,by simp only[List.length_append,List.length_cons,List.length_nil];omega,?_,HX.out,?_⟩,by simp only[intOf];omega⟩
            · rw[List.length_append,show aD (acc++[List.drop (j+1) (List.take ((j+1)+N) s)])=aD acc++[str (List.drop (j+1) (List.take ((j+1)+N) s))] from by simp[aD]]
              exact bM
            · exact(aK.alloc aK.size _).grown hgr (by have:=aK.size;simp;omega) (λb e=>(bq.lt b e).1)
     · have g1 : (((s[j]).toNat : Int) != 91) = true := by rw [hp]; rfl
       have g2:(((s[j]).toNat:Int) != 58)=false:=by rw[hp];rfl
       clear hp;rcases hcs with⟨h0,hx⟩|⟨h0,⟨hl,hch,hx⟩|⟨Il,hcs⟩⟩
       · have HX:=Lib.hid hx
         have g3:((N:Int)==0)=true:=by rw[h0];rfl
         have HB:=Lib.hid (rfl:hasB acc []=hasB acc []);clear hx h0 HO;go_wp2_with (first
          | (go_at_call 140;refine(hR _).mono ?_;clear hR;rintro e w2 ⟨rfl,aA⟩;have aK:=hb.trans (af aA hb.size);have bq:=az hown aA (nl _);have gF:Strs w2 _ acc:=Sl.bG (by simpa[aD] using bq))
          | (go_at_call 162;refine(hK _).mono ?_;clear hK;rintro e w3 ⟨rfl,rfl⟩)
          | (go_at_call 163;(with_reducible refine(eZ gF HB.out).mono ?_);rintro e w4 ⟨rfl,rfl⟩)
          | (at_builtin;refine wpList_append_own _ rfl _ _ 34 rfl w.heap.size 9 i0 (.string ⟨#[]⟩) 1 16 Tryz.underlying34 fV hz0 hz1 hz2 rfl (by decide) _ _ _ rfl (bq.alloc _) ⟨w2.heap.size,0,none⟩ 1 1 [str (List.drop (j+1) (List.take ((j+1)+N) s))] rfl rfl (cell_one_new _ _ _) (λx hx=>by simp at hx;subst hx;rfl) (by unfold maxLen;omega) (by omega) (by have:=aK.size;simp;omega) ?_;intro v' w5 bM hgr _))
         exact⟨⟨(j+1)+1,acc,by omega,by go_num,by omega,bq,HX.out,aK⟩,by simp only[intOf];omega⟩
       · have HX:=Lib.hid hx
         have g3:((N:Int)==0)=false:=by rw[beq_eq_false_iff_ne];omega
         have g4:(((s[(j+1)+M]).toNat:Int)==58)=true:=by rw[hch];rfl
         have HB:=Lib.hid (rfl:hasB acc []=hasB acc []);clear hx h0 HO hch;go_wp2_with (first
          | (go_at_call 140;refine(hR _).mono ?_;clear hR;rintro e w2 ⟨rfl,aA⟩;have aK:=hb.trans (af aA hb.size);have bq:=az hown aA (nl _);have gF:Strs w2 _ acc:=Sl.bG (by simpa[aD] using bq))
          | (go_at_call 162;refine(hK _).mono ?_;clear hK;rintro e w3 ⟨rfl,rfl⟩)
          | (go_at_call 163;(with_reducible refine(eZ gF HB.out).mono ?_);rintro e w4 ⟨rfl,rfl⟩)
          | (at_builtin;refine wpList_append_own _ rfl _ _ 34 rfl w.heap.size 9 i0 (.string ⟨#[]⟩) 1 16 Tryz.underlying34 fV hz0 hz1 hz2 rfl (by decide) _ _ _ rfl (bq.alloc _) ⟨w2.heap.size,0,none⟩ 1 1 [str (List.drop (j+1) (List.take ((j+1)+N) s))] rfl rfl (cell_one_new _ _ _) (λx hx=>by simp at hx;subst hx;rfl) (by unfold maxLen;omega) (by omega) (by have:=aK.size;simp;omega) ?_;intro v' w5 bM hgr _))
         exact⟨⟨(j+1)+1,acc,by omega,by go_num,by omega,bq,HX.out,aK⟩,by simp only[intOf];omega⟩
       · have g3 : ((N : Int) == 0) = false := by rw [beq_eq_false_iff_ne]; omega
         rcases Il with hl|⟨hl,hch⟩
         ·
          rcases hcs with⟨hq,hx⟩|⟨hq,hx⟩
          · have HX:=Lib.hid hx
            have HB:=Lib.hid hq;clear hx h0 HO hq;go_wp2_with (first
             | (go_at_call 140;refine(hR _).mono ?_;clear hR;rintro e w2 ⟨rfl,aA⟩;have aK:=hb.trans (af aA hb.size);have bq:=az hown aA (nl _);have gF:Strs w2 _ acc:=Sl.bG (by simpa[aD] using bq))
             | (go_at_call 162;refine(hK _).mono ?_;clear hK;rintro e w3 ⟨rfl,rfl⟩)
             | (go_at_call 163;(with_reducible refine(eZ gF HB.out).mono ?_);rintro e w4 ⟨rfl,rfl⟩)
             | (at_builtin;refine wpList_append_own _ rfl _ _ 34 rfl w.heap.size 9 i0 (.string ⟨#[]⟩) 1 16 Tryz.underlying34 fV hz0 hz1 hz2 rfl (by decide) _ _ _ rfl (bq.alloc _) ⟨w2.heap.size,0,none⟩ 1 1 [str (List.drop (j+1) (List.take ((j+1)+N) s))] rfl rfl (cell_one_new _ _ _) (λx hx=>by simp at hx;subst hx;rfl) (by unfold maxLen;omega) (by omega) (by have:=aK.size;simp;omega) ?_;intro v' w5 bM hgr _))
            exact⟨⟨(j+1)+1,acc,by omega,by go_num,by omega,bq,HX.out,aK⟩,by simp only[intOf];omega⟩
          · have HX:=Lib.hid hx
            have HB:=Lib.hid hq;clear hx h0 HO hq;go_wp2_with (first
             | (go_at_call 140;refine(hR _).mono ?_;clear hR;rintro e w2 ⟨rfl,aA⟩;have aK:=hb.trans (af aA hb.size);have bq:=az hown aA (nl _);have gF:Strs w2 _ acc:=Sl.bG (by simpa[aD] using bq))
             | (go_at_call 162;refine(hK _).mono ?_;clear hK;rintro e w3 ⟨rfl,rfl⟩)
             | (go_at_call 163;(with_reducible refine(eZ gF HB.out).mono ?_);rintro e w4 ⟨rfl,rfl⟩)
             | (at_builtin;refine wpList_append_own _ rfl _ _ 34 rfl w.heap.size 9 i0 (.string ⟨#[]⟩) 1 16 Tryz.underlying34 fV hz0 hz1 hz2 rfl (by decide) _ _ _ rfl (bq.alloc _) ⟨w2.heap.size,0,none⟩ 1 1 [str (List.drop (j+1) (List.take ((j+1)+N) s))] rfl rfl (cell_one_new _ _ _) (λx hx=>by simp at hx;subst hx;rfl) (by unfold maxLen;omega) (by omega) (by have:=aK.size;simp;omega) ?_;intro v' w5 bM hgr _))
            refine⟨⟨(j+1)+1,acc++[List.drop (j+1) (List.take ((j+1)+N) s)],by omega,by go_num,by simp only[List.length_append,List.length_cons,List.length_nil];omega,?_,HX.out,?_⟩,by simp only[intOf];omega⟩
            · rw[List.length_append,show aD (acc++[List.drop (j+1) (List.take ((j+1)+N) s)])=aD acc++[str (List.drop (j+1) (List.take ((j+1)+N) s))] from by simp[aD]]
              exact bM
            · exact(aK.alloc aK.size _).grown hgr (by have:=aK.size;simp;omega) (λb e=>(bq.lt b e).1)
         ·
          have g4:(((s[(j+1)+M]).toNat:Int)==58)=false:=by rw[beq_eq_false_iff_ne];exact oS (d:=58) hch
          clear hch;rcases hcs with⟨hq,hx⟩|⟨hq,hx⟩
          · have HX:=Lib.hid hx
            have HB:=Lib.hid hq;clear hx h0 HO hq;go_wp2_with (first
             | (go_at_call 140;refine(hR _).mono ?_;clear hR;rintro e w2 ⟨rfl,aA⟩;have aK:=hb.trans (af aA hb.size);have bq:=az hown aA (nl _);have gF:Strs w2 _ acc:=Sl.bG (by simpa[aD] using bq))
             | (go_at_call 162;refine(hK _).mono ?_;clear hK;rintro e w3 ⟨rfl,rfl⟩)
             | (go_at_call 163;(with_reducible refine(eZ gF HB.out).mono ?_);rintro e w4 ⟨rfl,rfl⟩)
             | (at_builtin;refine wpList_append_own _ rfl _ _ 34 rfl w.heap.size 9 i0 (.string ⟨#[]⟩) 1 16 Tryz.underlying34 fV hz0 hz1 hz2 rfl (by decide) _ _ _ rfl (bq.alloc _) ⟨w2.heap.size,0,none⟩ 1 1 [str (List.drop (j+1) (List.take ((j+1)+N) s))] rfl rfl (cell_one_new _ _ _) (λx hx=>by simp at hx;subst hx;rfl) (by unfold maxLen;omega) (by omega) (by have:=aK.size;simp;omega) ?_;intro v' w5 bM hgr _))
            exact⟨⟨(j+1)+1,acc,by omega,by go_num,by omega,bq,HX.out,aK⟩,by simp only[intOf];omega⟩
          · have HX:=Lib.hid hx
            have HB:=Lib.hid hq;clear hx h0 HO hq;go_wp2_with (first
             | (go_at_call 140;refine(hR _).mono ?_;clear hR;rintro e w2 ⟨rfl,aA⟩;have aK:=hb.trans (af aA hb.size);have bq:=az hown aA (nl _);have gF:Strs w2 _ acc:=Sl.bG (by simpa[aD] using bq))
             | (go_at_call 162;refine(hK _).mono ?_;clear hK;rintro e w3 ⟨rfl,rfl⟩)
             | (go_at_call 163;(with_reducible refine(eZ gF HB.out).mono ?_);rintro e w4 ⟨rfl,rfl⟩)
             | (at_builtin;refine wpList_append_own _ rfl _ _ 34 rfl w.heap.size 9 i0 (.string ⟨#[]⟩) 1 16 Tryz.underlying34 fV hz0 hz1 hz2 rfl (by decide) _ _ _ rfl (bq.alloc _) ⟨w2.heap.size,0,none⟩ 1 1 [str (List.drop (j+1) (List.take ((j+1)+N) s))] rfl rfl (cell_one_new _ _ _) (λx hx=>by simp at hx;subst hx;rfl) (by unfold maxLen;omega) (by omega) (by have:=aK.size;simp;omega) ?_;intro v' w5 bM hgr _))
            refine⟨⟨(j+1)+1,acc++[List.drop (j+1) (List.take ((j+1)+N) s)],by omega,by go_num,by simp only[List.length_append,List.length_cons,List.length_nil];omega,?_,HX.out,?_⟩,by simp only[intOf];omega⟩
            · rw[List.length_append,show aD (acc++[List.drop (j+1) (List.take ((j+1)+N) s)])=aD acc++[str (List.drop (j+1) (List.take ((j+1)+N) s))] from by simp[aD]]
              exact bM
            · exact(aK.alloc aK.size _).grown hgr (by have:=aK.size;simp;omega) (λb e=>(bq.lt b e).1)
end Go.Proofs.YtakgjcfkdemipaaGreatDoor
