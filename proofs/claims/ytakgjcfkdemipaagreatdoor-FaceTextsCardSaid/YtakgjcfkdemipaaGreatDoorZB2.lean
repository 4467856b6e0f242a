/-
  Lemmas for the statement: contracts: the reference reads a type and parts, whole (argusref03.read, argusref03.parts). Conditions: bounds of lengths; the variable strings.asciiSpace.
-/
import Derived.Test.YtakgjcfkdemipaaGreatDoorZBn
import Derived.Test.YtakgjcfkdemipaaGreatDoorZB0
import Derived.Test.YtakgjcfkdemipaaGreatDoorZB1
set_option maxHeartbeats 6400000
namespace Go.Proofs.YtakgjcfkdemipaaGreatDoor
open Go.RowKit
theorem IX (v : Value) (ss : List (List UInt8)) (s : List UInt8) (w : World) (hv : Strs w v ss) :
 Calls Tryz.prog 204 #[v,str s] w λe w'=>e=.returned (.bool (hasB ss s))∧w=w':=by
 rcases hv.shape with⟨rfl,rfl⟩|⟨b,o,cap,rfl,hm,hc⟩
 · go_enter Tryz.func204,Tryz.ntmps204
   go_wp2
   refine wp_loop_rounds 1 ?_;rw[rounds_succ]
   go_wp2
   go_ret;exact⟨rfl,rfl⟩
 · unfold maxLen at hm
   go_enter Tryz.func204,Tryz.ntmps204
   go_wp2
   go_loop [5] (λi=>∃k:Nat,k≤ss.length∧hasB (ss.take k) s=false∧i=.int .i64 k) (λi=>ss.length - (intOf i).toNat)
   case atStart=>exact⟨0,by omega,tF _ _,rfl⟩
   case round =>
    obtain⟨k,hk,hn,rfl⟩:=hrel;have Hn:=zh hn;clear hn
    by_cases hlt:k<ss.length
    · have RX:=hc k hlt
      clear hc;cases he:(ss[k]==s)
      · have Hs:=zh (kZ ss s k hlt Hn.out he)
        go_wp2
        go_round
        case rel=>exact⟨k+1,by omega,Hs.out,by go_num⟩
        case measure=>simp[intOf];omega
      · have Hs:=zh (wY ss s k hlt he)
        go_wp2
        go_ret;exact⟨bI Hs.out.symm,rfl⟩
    · have Hs:=zh (wX ss s k hlt Hn.out)
      clear hc
      go_wp2
      go_ret;exact⟨bI Hs.out.symm,rfl⟩
set_option maxRecDepth 100000 in
theorem C0 (w:World):Calls Tryz.prog 205 #[] w λe w'=>∃v,e=.returned v∧Strs w' v dc∧Below w.heap.size w w':=by
 go_enter Tryz.func205,Tryz.ntmps205
 go_wp2
 go_ret
 exact⟨_,rfl,E5 w dc 9 _ 46 (by decide),(zb _).alloc zr _⟩
theorem yo (s:List UInt8) (w:World):Calls Tryz.prog 143 #[str s] w λe w'=>e=.returned (.bool (isWord s))∧Below w.heap.size w w':=by
 go_enter Tryz.func143,Tryz.ntmps143
 go_wp2_with fail
 refine(C0 _).mono ?_
 rintro e w1 ⟨v,rfl,hv,hb⟩
 go_wp2_with fail
 refine(IX _ _ _ _ hv).mono ?_
 rintro e w2 ⟨rfl,rfl⟩
 go_wp2_with fail
 go_ret
 exact⟨rfl,hb⟩
theorem rC (s : List UInt8) : (s = [] ∧ isName s = false) ∨ (∃ h : 0 < s.length, (12 < s.length ∧ isName s = false) ∨ (s.length ≤ 12 ∧
 (((((s[0]).toNat:Int)<97∨(122:Int)<((s[0]).toNat:Int))∧isName s=false)∨((97:Int)≤((s[0]).toNat:Int)∧((s[0]).toNat:Int)≤122∧
  ((aj s≠s.length∧isName s=false)∨(aj s=s.length∧((isWord s=true∧isName s=false)∨(isWord s=false∧isName s=true)))))))):=by
 cases s with
 | nil=>exact .inl ⟨rfl,rfl⟩
 | cons c r =>
  refine .inr ⟨by simp,?_⟩;simp only[List.getElem_cons_zero]
  by_cases h1:(c::r).length≤12
  · refine .inr ⟨h1,?_⟩
    by_cases h2:low c=true
    · have MT:=h2
      simp only[low,Bool.and_eq_true,decide_eq_true_eq] at MT;refine .inr ⟨by omega,by omega,?_⟩
      by_cases h3:aj (c::r)=(c::r).length
      · refine .inr ⟨h3,?_⟩
        cases h4:isWord (c::r)
        · exact .inr ⟨rfl,by simp only[isName,h1,h2,h3,h4];rfl⟩
        · exact .inl ⟨rfl,by simp only[isName,h1,h2,h3,h4];rfl⟩
      · exact .inl ⟨h3,by simp only[isName,h1,h2,h3];simp⟩
    · have MT:=h2
      simp only[low,Bool.and_eq_true,decide_eq_true_eq] at MT;simp only[Bool.not_eq_true] at h2;refine .inl ⟨by omega,by simp only[isName,h2];simp⟩
  · exact .inl ⟨by omega,by simp only[isName];simp at h1 ⊢;intro h;omega⟩
theorem aG (s:List UInt8) (w:World) (hl:s.length≤maxLen):Calls Tryz.prog 87 #[str s] w λe w'=>e=.returned (.bool (isName s))∧Below w.heap.size w w':=by
 have hl':=hl
 unfold maxLen at hl'
 rcases rC s with⟨rfl,hn⟩|⟨h0,⟨h1,hn⟩|⟨h1,⟨h2,hn⟩|⟨h2,h3,⟨h4,hn⟩|⟨h4,⟨h5,hn⟩|⟨h5,hn⟩⟩⟩⟩⟩
 · have HN:=zh hn
   clear hn;go_enter Tryz.func87,Tryz.ntmps87;go_wp2_with fail;go_ret;exact⟨bI HN.out.symm,zb _⟩
 · have HN:=zh hn
   clear hn;go_enter Tryz.func87,Tryz.ntmps87;go_wp2_with fail;go_ret;exact⟨bI HN.out.symm,zb _⟩
 · have HN:=zh hn
   clear hn;rcases h2 with h2|h2
   all_goals
    go_enter Tryz.func87,Tryz.ntmps87
    go_wp2
    go_ret;exact⟨bI HN.out.symm,zb _⟩
 · have HN:=zh hn
   have hc:=bX s;have ij:((aj s:Int)==(s.length:Int))=false:=by simp;omega
   clear hn h4;go_enter Tryz.func87,Tryz.ntmps87;go_wp2_with (first|(go_at_call 142;refine(Bq _ _ hl).mono ?_;rintro e w1 ⟨rfl,rfl⟩)|(go_at_call 141;go_in));go_ret;exact⟨bI HN.out.symm,zb _⟩
 all_goals
  have HN:=zh hn;have hc:=bX s;have ij:((aj s:Int)==(s.length:Int))=true:=by simp;omega
  clear hn h4;go_enter Tryz.func87,Tryz.ntmps87;go_wp2_with (first|(go_at_call 142;refine(Bq _ _ hl).mono ?_;rintro e w1 ⟨rfl,rfl⟩)|(go_at_call 141;go_in)|(go_at_call 143;refine(yo _ _).mono ?_;rintro e w1 ⟨rfl,hb⟩));go_ret;exact⟨bI HN.out.symm,hb⟩
def cW (s:List UInt8):Nat:=match aM s with|some (_,r)=>s.length - r.length|none=>0
def iZ (s:List UInt8):Nat:=match aM s with|some (t,_)=>t.level|none=>0
def kA (m L:Nat) (b s:List UInt8):Option (List UInt8×Nat):=
 match bU b s with|some (fo,93::r)=>if fo.len≤m then some (r,max L fo.level) else none|_=>none
def sM (s:List UInt8):Nat:=match kA 6 0 [] s with|some (r,_)=>s.length - r.length|none=>0
def ye (s:List UInt8):Nat:=match kA 6 0 [] s with|some (_,l)=>l|none=>0
def gD (s:List UInt8):Prop:=∀(deep:Int) (w:World),0≤deep→2 * deep+s.length≤200→
 Calls Tryz.prog 140 #[str s,.int .i64 deep] w λe w'=>e=.returned (.tuple #[.int .i64 (cW s),.int .i64 (iZ s)])∧Below w.heap.size w w'
def uO (s:List UInt8):Prop:=∀(deep:Int) (w:World),0≤deep→2 * deep+s.length≤200→
 Calls Tryz.prog 202 #[str s,.int .i64 deep] w λe w'=>e=.returned (.tuple #[.int .i64 (sM s),.int .i64 (ye s)])∧Below w.heap.size w w'
theorem bD {a b c d:Nat} (h:a=c) (h':b=d):Ending.returned (.tuple #[.int .i64 a,.int .i64 b])=.returned (.tuple #[.int .i64 c,.int .i64 d]):=by rw[h,h']
theorem gW {α:Type} [BEq α] [LawfulBEq α] {a b:α} (h:a≠b):(a==b)=false:=by simpa using h
theorem iV {s:List UInt8} (h:cV s):List.take 2 s≠[63,116]:=by
 intro e
 match s,e with
 | [],e=>simp at e
 | [a],e=>simp at e
 | a::b::r,e=>simp at e;obtain⟨rfl,rfl⟩:=e;exact h r rfl
theorem behind (s:List UInt8):(s.length=aj s∧s.drop (aj s)=[])∨(∃h:aj s<s.length,s.drop (aj s)=s[aj s]::s.drop (aj s+1)):=by
 have:=bX s
 by_cases h:aj s<s.length
 · exact .inr ⟨h,List.drop_eq_getElem_cons h⟩
 · exact .inl ⟨by omega,List.drop_of_length_le (by omega)⟩
theorem CJ (s:List UInt8) (hp:cV s) (h0:bW (s.take (aj s))≠0):gD s:=by
 intro deep w Fy hd
 have hm:s.length≤maxLen:=by unfold maxLen;omega
 have e:=lC hp h0
 have hN:cW s=aj s:=by
  unfold cW;rw[e];simp;have:=bX s;omega
 have hL:iZ s=1:=by unfold iZ;rw[e];rfl
 have HN:=zh hN
 have HL:=zh hL
 clear hN hL e
 have h2:=gW (iV hp)
 have qP:=bX s
 have hw : s.take (aj s) = mA ∨ s.take (aj s) = gC ∨ s.take (aj s) = jT := by
  unfold bW at h0
  by_cases h1:s.take (aj s)=mA
  · exact .inl h1
  · by_cases h2:s.take (aj s)=gC
    · exact .inr (.inl h2)
    · by_cases h3:s.take (aj s)=jT
      · exact .inr (.inr h3)
      · simp[h1,h2,h3] at h0
 clear hp h0
 by_cases hl:2≤s.length
 all_goals
  rcases hw with hw|hw|hw
  all_goals
   first |unfold mA at hw|unfold gC at hw|unfold jT at hw
   go_enter Tryz.func140,Tryz.ntmps140;go_wp2_with (go_at_call 162;refine(aX _ _ hm).mono ?_;rintro e w1 ⟨rfl,rfl⟩);go_ret2;exact⟨bD HN.out.symm HL.out.symm,zb _⟩
theorem oV {w:List UInt8} (h0:bW w=0):(w==[105,110,116])=false∧(w==[98,111,111,108])=false∧(w==[110,117,108,108])=false:=by
 unfold bW at h0
 refine⟨gW λe=>?_,gW λe=>?_,gW λe=>?_⟩
 · rw[if_pos (show w=mA from e)] at h0;omega
 · rw[if_neg (by rw[e];decide),if_pos (show w=gC from e)] at h0;omega
 · rw[if_neg (by rw[e];decide),if_neg (by rw[e];decide),if_pos (show w=jT from e)] at h0;omega
theorem dy {w:List UInt8}:(aW w=4∧w=[97,114,114,97,121])∨(aW w=5∧w=[114,101,99,111,114,100])∨(aW w=6∧w=[111,110,101,111,102])∨
 (aW w=0∧(w==[97,114,114,97,121])=false∧(w==[114,101,99,111,114,100])=false∧(w==[111,110,101,111,102])=false):=by
 unfold aW
 by_cases h1:w=eB
 · exact .inl ⟨by rw[if_pos h1],h1⟩
 · by_cases h2:w=eu
   · exact .inr (.inl ⟨by rw[if_neg h1,if_pos h2],h2⟩)
   · by_cases h3:w=fK
     · exact .inr (.inr (.inl ⟨by rw[if_neg h1,if_neg h2,if_pos h3],h3⟩))
     · exact .inr (.inr (.inr ⟨by rw[if_neg h1,if_neg h2,if_neg h3],gW h1,gW h2,gW h3⟩))
theorem gp {s:List UInt8} (h:kA 6 0 [] s=none):sM s=0∧ye s=0:=by unfold sM ye;rw[h];exact⟨rfl,rfl⟩
theorem yf {s r:List UInt8} {l:Nat} (h:kA 6 0 [] s=some (r,l)):sM s=s.length - r.length∧ye s=l∧r.length+1<s.length:=by
 refine⟨by unfold sM;rw[h],by unfold ye;rw[h],?_⟩
 unfold kA at h
 split at h
 · rename_i fo r' e
   split at h
   · simp only[Option.some.injEq,Prod.mk.injEq] at h
     have:=Cz e;simp at this;rw[←h.1];omega
   · simp at h
 · simp at h
theorem I9 {s s2:List UInt8} (hp:cV s) (h0:bW (s.take (aj s))=0) (hk:aW (s.take (aj s))=5∨aW (s.take (aj s))=6) (hb:s.drop (aj s)=91::s2):
 (sM s2=0∧cW s=0∧iZ s=0)∨(0<sM s2∧cW s=aj s+1+sM s2∧iZ s=ye s2+1):=by
 have e:=nj hp h0 hk hb
 have hl:s.length=aj s+1+s2.length:=by
  have:=congrArg List.length hb;simp at this;have:=bX s;omega
 cases hq:kA 6 0 [] s2 with
 | none=>
  refine .inl ⟨(gp hq).1,?_⟩;have:aM s=none:=by
   rw[e];unfold kA at hq;split at hq
   · rename_i fo r e2
     rw[e2];split at hq
     · simp at hq
     · rename_i h6;simp only[h6,if_false]
   · rename_i h3
     split
     · rename_i fo r e2;exact absurd e2 (h3 fo r)
     · rfl
  unfold cW iZ;rw[this];exact⟨rfl,rfl⟩
 | some x=>
  obtain⟨r,l⟩:=x;obtain⟨h1,h2,h3⟩:=yf hq;refine .inr ⟨by omega,?_⟩;have:∃fo,aM s=some (⟨aW (s.take (aj s)),s.take (aj s),fo⟩,r)∧fo.level=l:=by
   rw[e];unfold kA at hq;split at hq
   · rename_i fo r' e2
     rw[e2];split at hq
     · rename_i h6
       simp only[Option.some.injEq,Prod.mk.injEq] at hq;obtain⟨rfl,rfl⟩:=hq;simp only[h6,if_true];exact⟨fo,rfl,by simp⟩
     · simp at hq
   · simp at hq
  obtain⟨fo,e2,rfl⟩:=this;unfold cW iZ;rw[e2,h1,h2];exact⟨by simp;omega,rfl⟩
theorem I8 (s:List UInt8):sM s≤s.length:=by unfold sM;split<;>omega
theorem I7 (s:List UInt8):ye s≤s.length:=by
 unfold ye kA
 split
 · rename_i r l h
   split at h
   · rename_i fo r' e
     split at h
     · simp only[Option.some.injEq,Prod.mk.injEq] at h
       have:=qI _ _ _ _ _ e;simp at this;omega
     · simp at h
   · simp at h
 · omega
theorem vC (s:List UInt8):cW s≤s.length:=by unfold cW;split<;>omega
theorem Ar (s:List UInt8):iZ s≤s.length:=by
 unfold iZ
 split
 · rename_i t r h
   have:=qI (s.length+1) none s (.one t) r (by rw[gK (by omega),h];rfl);simp[Fo.one,Fo.level,Tr.level] at this ⊢;omega
 · omega
theorem n5 {s:List UInt8} {a b:UInt8} {r:List UInt8} (h:s.take (aj s)=a::b::r):2≤s.length:=by
 have:=congrArg List.length h
 simp at this
 omega
theorem nZ {s:List UInt8} {a b:UInt8} {r:List UInt8} (h:s.take (aj s)=a::b::r):1≤aj s:=by
 have:=congrArg List.length h
 simp at this
 omega
theorem yu (s:List UInt8) (hp:cV s) (h0:bW (s.take (aj s))=0) (hk:aW (s.take (aj s))=5∨aW (s.take (aj s))=6)
 (ih:∀s',s'.length<s.length→uO s'):gD s:=by
 intro deep w Fy hd
 have hm:s.length≤maxLen:=by unfold maxLen;omega
 have h2:=gW (iV hp)
 have qP:=bX s
 rcases behind s with⟨hb,aC⟩|⟨hb,aC⟩
 · have e:=gT hp h0 hk (by rw[aC];intro r;simp)
   have HN:Hid (cW s=0):=by show _=_;unfold cW;rw[e]
   have HL:Hid (iZ s=0):=by show _=_;unfold iZ;rw[e]
   clear hp h0 e aC ih;have hb':¬aj s<s.length:=by omega
   clear hb;rcases dy (w:=s.take (aj s)) with⟨k1,k2⟩|⟨k1,k2⟩|⟨k1,k2⟩|⟨k1,k2⟩
   · omega
   · clear hk k1
     have hl:=n5 k2;have xh:=nZ k2;go_enter Tryz.func140,Tryz.ntmps140;go_wp2_with (go_at_call 162;refine(aX _ _ hm).mono ?_;rintro e w1 ⟨rfl,rfl⟩);go_ret2;exact⟨bD HN.out.symm HL.out.symm,zb _⟩
   · clear hk k1
     have hl:=n5 k2;have xh:=nZ k2;go_enter Tryz.func140,Tryz.ntmps140;go_wp2_with (go_at_call 162;refine(aX _ _ hm).mono ?_;rintro e w1 ⟨rfl,rfl⟩);go_ret2;exact⟨bD HN.out.symm HL.out.symm,zb _⟩
   · omega
 · by_cases hc:s[aj s]=91
   · rw [hc] at aC
     have hr:=I9 hp h0 hk aC;have hs2:(s.drop (aj s+1)).length=s.length - (aj s+1):=by simp
     have HS:=zh hs2;have KF:(((s[aj s]).toNat:Int)==91)=true:=by rw[hc];rfl
     clear hp h0 aC hc hs2;have hq:(aj s:Int)<(s.length:Int):=by omega
     rcases hr with⟨hz,hN,hL⟩|⟨hz,hN,hL⟩
     · have HN:=zh hN
       have HL:=zh hL;have D7:((sM (s.drop (aj s+1)):Int)==0)=true:=by simp[hz]
       clear hN hL hz;rcases dy (w:=s.take (aj s)) with⟨k1,k2⟩|⟨k1,k2⟩|⟨k1,k2⟩|⟨k1,k2⟩
       · omega
       · clear hk k1
         have hl:=n5 k2;have xh:=nZ k2;go_enter Tryz.func140,Tryz.ntmps140;go_wp2_with (first|(go_at_call 162;refine(aX _ _ hm).mono ?_;rintro e w1 ⟨rfl,rfl⟩)|(go_at_call 202;refine(ih _ (by rw[HS.out];omega) _ _ (by omega) (by rw[HS.out];omega)).mono ?_;rintro e w1 ⟨rfl,au⟩));go_ret2;exact⟨bD HN.out.symm HL.out.symm,au⟩
       · clear hk k1
         have hl:=n5 k2;have xh:=nZ k2;go_enter Tryz.func140,Tryz.ntmps140;go_wp2_with (first|(go_at_call 162;refine(aX _ _ hm).mono ?_;rintro e w1 ⟨rfl,rfl⟩)|(go_at_call 202;refine(ih _ (by rw[HS.out];omega) _ _ (by omega) (by rw[HS.out];omega)).mono ?_;rintro e w1 ⟨rfl,au⟩));go_ret2;exact⟨bD HN.out.symm HL.out.symm,au⟩
       · omega
     · have HN:=zh hN
       have HL:=zh hL;have D7:((sM (s.drop (aj s+1)):Int)==0)=false:=by simp;omega
       have hbd:=I8 (s.drop (aj s+1));have DM:=I7 (s.drop (aj s+1));rw[HS.out] at hbd DM;clear hN hL hz;rcases dy (w:=s.take (aj s)) with⟨k1,k2⟩|⟨k1,k2⟩|⟨k1,k2⟩|⟨k1,k2⟩
       · omega
       · clear hk k1
         have hl:=n5 k2;have xh:=nZ k2;go_enter Tryz.func140,Tryz.ntmps140;go_wp2_with (first|(go_at_call 162;refine(aX _ _ hm).mono ?_;rintro e w1 ⟨rfl,rfl⟩)|(go_at_call 202;refine(ih _ (by rw[HS.out];omega) _ _ (by omega) (by rw[HS.out];omega)).mono ?_;rintro e w1 ⟨rfl,au⟩));go_ret2;exact⟨bD HN.out.symm HL.out.symm,au⟩
       · clear hk k1
         have hl:=n5 k2;have xh:=nZ k2;go_enter Tryz.func140,Tryz.ntmps140;go_wp2_with (first|(go_at_call 162;refine(aX _ _ hm).mono ?_;rintro e w1 ⟨rfl,rfl⟩)|(go_at_call 202;refine(ih _ (by rw[HS.out];omega) _ _ (by omega) (by rw[HS.out];omega)).mono ?_;rintro e w1 ⟨rfl,au⟩));go_ret2;exact⟨bD HN.out.symm HL.out.symm,au⟩
       · omega
   · have e:=gT hp h0 hk (by intro r e;rw[aC] at e;injection e with e1 _;exact hc e1)
     have HN:Hid (cW s=0):=by show _=_;unfold cW;rw[e]
     have HL:Hid (iZ s=0):=by show _=_;unfold iZ;rw[e]
     have KF:(((s[aj s]).toNat:Int)==91)=false:=by
      rw[beq_eq_false_iff_ne];intro h;exact hc (UInt8.toNat_inj.1 (by simp;omega))
     have hq:(aj s:Int)<(s.length:Int):=by omega
     clear hp h0 e aC ih hc;rcases dy (w:=s.take (aj s)) with⟨k1,k2⟩|⟨k1,k2⟩|⟨k1,k2⟩|⟨k1,k2⟩
     · omega
     · clear hk k1
       have hl:=n5 k2;have xh:=nZ k2;go_enter Tryz.func140,Tryz.ntmps140;go_wp2_with (go_at_call 162;refine(aX _ _ hm).mono ?_;rintro e w1 ⟨rfl,rfl⟩);go_ret2;exact⟨bD HN.out.symm HL.out.symm,zb _⟩
     · clear hk k1
       have hl:=n5 k2;have xh:=nZ k2;go_enter Tryz.func140,Tryz.ntmps140;go_wp2_with (go_at_call 162;refine(aX _ _ hm).mono ?_;rintro e w1 ⟨rfl,rfl⟩);go_ret2;exact⟨bD HN.out.symm HL.out.symm,zb _⟩
     · omega
theorem EI {s s2:List UInt8} (hp:cV s) (h0:bW (s.take (aj s))=0) (hk:aW (s.take (aj s))=4∨(aW (s.take (aj s))=0∧isName (s.take (aj s))=true)) (hb:s.drop (aj s)=91::s2):
 (cW s2=0∧cW s=0∧iZ s=0)∨(0<cW s2∧s.length≤aj s+1+cW s2∧cW s=0∧iZ s=0)∨
 (0<cW s2∧∃h:aj s+1+cW s2<s.length,s[aj s+1+cW s2]≠93∧cW s=0∧iZ s=0)∨
 (0<cW s2∧∃h:aj s+1+cW s2<s.length,s[aj s+1+cW s2]=93∧cW s=aj s+cW s2+2∧iZ s=iZ s2+1):=by
 have e:=iY hp h0 hk hb
 have hl:s.length=aj s+1+s2.length:=by
  have:=congrArg List.length hb;simp at this;have:=bX s;omega
 have hs2:s.drop (aj s+1)=s2:=by rw[←List.drop_drop,hb];rfl
 cases hq:aM s2 with
 | none=>
  rw[hq] at e;refine .inl ⟨by unfold cW;rw[hq],by unfold cW;rw[e],by unfold iZ;rw[e]⟩
 | some x=>
  obtain⟨t,r⟩:=x;have hr:=gM hq;have hdr:=pF hq;have hn:cW s2=s2.length - r.length:=by unfold cW;rw[hq]
  have hL:iZ s2=t.level:=by unfold iZ;rw[hq]
  rw[hq] at e;have Ob:s.drop (aj s+1+cW s2)=r:=by rw[←List.drop_drop,hs2,hn,hdr]
  cases r with
  | nil=>
   refine .inr (.inl ⟨by omega,by simp at hn;omega,by unfold cW;rw[e],by unfold iZ;rw[e]⟩)
  | cons c r =>
   simp only[List.length_cons] at hn hr;have hlt:aj s+1+cW s2<s.length:=by omega
   have F0:s[aj s+1+cW s2]=c:=by
    have:=List.drop_eq_getElem_cons hlt;rw[Ob] at this;injection this with h1 _;exact h1.symm
   by_cases hc:c=93
   · subst hc
     refine .inr (.inr (.inr ⟨by omega,hlt,F0,?_,?_⟩))
     · unfold cW at *;rw[e];simp only;omega
     · rw[hL];unfold iZ;rw[e];simp[Tr.level,Fo.one,Fo.level]
   · refine .inr (.inr (.inl ⟨by omega,hlt,by rw[F0];exact hc,?_,?_⟩))
     · unfold cW;rw[e];split
       · rename_i h;split at h
         · rename_i h2;simp only[Option.some.injEq,Prod.mk.injEq,List.cons.injEq] at h2;exact absurd h2.2.1 hc
         · simp at h
       · rfl
     · unfold iZ;rw[e];split
       · rename_i h;split at h
         · rename_i h2;simp only[Option.some.injEq,Prod.mk.injEq,List.cons.injEq] at h2;exact absurd h2.2.1 hc
         · simp at h
       · rfl
theorem rD {w:List UInt8} (h:isName w=true):1≤w.length:=by
 cases w with
 | nil=>simp[isName] at h
 | cons=>simp
theorem EJ (s : List UInt8) (hp : cV s) (h0 : bW (s.take (aj s)) = 0) (hk : aW (s.take (aj s)) = 4)
 (ih:∀s',s'.length<s.length→gD s'):gD s:=by
 intro deep w Fy hd
 have hm:s.length≤maxLen:=by unfold maxLen;omega
 have h2:=gW (iV hp)
 have qP:=bX s
 have k2:s.take (aj s)=[97,114,114,97,121]:=by
  rcases dy (w:=s.take (aj s)) with⟨k1,k2⟩|⟨k1,k2⟩|⟨k1,k2⟩|⟨k1,k2⟩
  · exact k2
  all_goals omega
 have hl:=n5 k2
 have xh:=nZ k2
 rcases behind s with⟨hb,aC⟩|⟨hb,aC⟩
 · have e:=jB hp h0 hk (by rw[aC];intro r;simp)
   have HN:Hid (cW s=0):=by show _=_;unfold cW;rw[e]
   have HL:Hid (iZ s=0):=by show _=_;unfold iZ;rw[e]
   clear hp h0 e aC ih hk;have hb':¬aj s<s.length:=by omega
   clear hb;go_enter Tryz.func140,Tryz.ntmps140;go_wp2_with (go_at_call 162;refine(aX _ _ hm).mono ?_;rintro e w1 ⟨rfl,rfl⟩);go_ret2;exact⟨bD HN.out.symm HL.out.symm,zb _⟩
 · by_cases hc:s[aj s]=91
   · rw [hc] at aC
     have hr:=EI hp h0 (.inl hk) aC;have hs2:(s.drop (aj s+1)).length=s.length - (aj s+1):=by simp
     have HS:=zh hs2;have N9:=vC (s.drop (aj s+1));have hrl:=Ar (s.drop (aj s+1));rw[hs2] at N9 hrl;have KF:(((s[aj s]).toNat:Int)==91)=true:=by rw[hc];rfl
     clear hp h0 aC hc hs2 hk;have hq:(aj s:Int)<(s.length:Int):=by omega
     rcases hr with⟨hz,hN,hL⟩|⟨hz,hz2,hN,hL⟩|⟨hz,hz2,zG,hN,hL⟩|⟨hz,hz2,zG,hN,hL⟩
     · have HN:=zh hN
       have HL:=zh hL;have D7:((cW (s.drop (aj s+1)):Int)==0)=true:=by simp[hz]
       clear hN hL hz;go_enter Tryz.func140,Tryz.ntmps140;go_wp2_with (first|(go_at_call 162;refine(aX _ _ hm).mono ?_;rintro e w1 ⟨rfl,rfl⟩)|(go_at_call 140;refine(ih _ (by rw[HS.out];omega) _ _ (by omega) (by rw[HS.out];omega)).mono ?_;rintro e w2 ⟨rfl,aH⟩));go_ret2;exact⟨bD HN.out.symm HL.out.symm,aH⟩
     · have HN:=zh hN
       have HL:=zh hL;have D7:((cW (s.drop (aj s+1)):Int)==0)=false:=by simp;omega
       clear hN hL hz;go_enter Tryz.func140,Tryz.ntmps140;go_wp2_with (first|(go_at_call 162;refine(aX _ _ hm).mono ?_;rintro e w1 ⟨rfl,rfl⟩)|(go_at_call 140;refine(ih _ (by rw[HS.out];omega) _ _ (by omega) (by rw[HS.out];omega)).mono ?_;rintro e w2 ⟨rfl,aH⟩));go_ret2;exact⟨bD HN.out.symm HL.out.symm,aH⟩
     · have HN:=zh hN
       have HL:=zh hL;have D7:((cW (s.drop (aj s+1)):Int)==0)=false:=by simp;omega
       have Li:(((s[aj s+1+cW (s.drop (aj s+1))]).toNat:Int) != 93)=true:=by
        rw[bne_iff_ne];intro h;exact zG (UInt8.toNat_inj.1 (by simp;omega))
       clear hN hL hz zG;go_enter Tryz.func140,Tryz.ntmps140;go_wp2_with (first|(go_at_call 162;refine(aX _ _ hm).mono ?_;rintro e w1 ⟨rfl,rfl⟩)|(go_at_call 140;refine(ih _ (by rw[HS.out];omega) _ _ (by omega) (by rw[HS.out];omega)).mono ?_;rintro e w2 ⟨rfl,aH⟩));go_ret2;exact⟨bD HN.out.symm HL.out.symm,aH⟩
     · have HN:=zh hN
       have HL:=zh hL;have D7:((cW (s.drop (aj s+1)):Int)==0)=false:=by simp;omega
       have Li:(((s[aj s+1+cW (s.drop (aj s+1))]).toNat:Int) != 93)=false:=by rw[zG];rfl
       clear hN hL hz zG;go_enter Tryz.func140,Tryz.ntmps140;go_wp2_with (first|(go_at_call 162;refine(aX _ _ hm).mono ?_;rintro e w1 ⟨rfl,rfl⟩)|(go_at_call 140;refine(ih _ (by rw[HS.out];omega) _ _ (by omega) (by rw[HS.out];omega)).mono ?_;rintro e w2 ⟨rfl,aH⟩));go_ret2;exact⟨bD HN.out.symm HL.out.symm,aH⟩
   · have e:=jB hp h0 hk (by intro r e;rw[aC] at e;injection e with e1 _;exact hc e1)
     have HN:Hid (cW s=0):=by show _=_;unfold cW;rw[e]
     have HL:Hid (iZ s=0):=by show _=_;unfold iZ;rw[e]
     have KF:(((s[aj s]).toNat:Int)==91)=false:=by
      rw[beq_eq_false_iff_ne];intro h;exact hc (UInt8.toNat_inj.1 (by simp;omega))
     have hq:(aj s:Int)<(s.length:Int):=by omega
     clear hp h0 e aC ih hc hk;go_enter Tryz.func140,Tryz.ntmps140;go_wp2_with (go_at_call 162;refine(aX _ _ hm).mono ?_;rintro e w1 ⟨rfl,rfl⟩);go_ret2;exact⟨bD HN.out.symm HL.out.symm,zb _⟩
theorem CI (s : List UInt8) (hp : cV s) (h0 : bW (s.take (aj s)) = 0) (hk : aW (s.take (aj s)) = 0) (hn : isName (s.take (aj s)) = true)
 (ih:∀s',s'.length<s.length→gD s'):gD s:=by
 intro deep w Fy hd
 have hm:s.length≤maxLen:=by unfold maxLen;omega
 have h2:=gW (iV hp)
 have qP:=bX s
 have HW:Hid ((s.take (aj s)).length=aj s):=by show _=_;simp;omega
 have h4:(s.take (aj s)==[97,114,114,97,121])=false∧(s.take (aj s)==[114,101,99,111,114,100])=false∧(s.take (aj s)==[111,110,101,111,102])=false:=by
  rcases dy (w:=s.take (aj s)) with⟨k1,k2⟩|⟨k1,k2⟩|⟨k1,k2⟩|⟨k1,k2⟩
  all_goals first|omega|exact k2
 obtain⟨h4,h5,h6⟩:=h4
 obtain⟨f1,f2,f3⟩:=oV h0
 have xh:1≤aj s:=by have:=rD hn;rw[HW.out] at this;exact this
 rcases behind s with⟨hb,aC⟩|⟨hb,aC⟩
 · have e:=jr hp h0 hk hn (by rw[aC];intro r;simp)
   have HN:Hid (cW s=aj s):=by show _=_;unfold cW;rw[e];simp;omega
   have HL:Hid (iZ s=1):=by show _=_;unfold iZ;rw[e];rfl
   clear hp h0 e aC ih hk;have hb':¬aj s<s.length:=by omega
   clear hb
   by_cases hl:2≤s.length
   all_goals
    go_enter Tryz.func140,Tryz.ntmps140;go_wp2_with (first|(go_at_call 162;refine(aX _ _ hm).mono ?_;rintro e w1 ⟨rfl,rfl⟩)|(go_at_call 87;refine(aG _ _ (by rw[HW.out];omega)).mono ?_;rintro e w1 ⟨rfl,au⟩));go_ret2;exact⟨bD HN.out.symm HL.out.symm,au⟩
 · by_cases hc:s[aj s]=91
   · rw [hc] at aC
     have hr:=EI hp h0 (.inr ⟨hk,hn⟩) aC;have hs2:(s.drop (aj s+1)).length=s.length - (aj s+1):=by simp
     have HS:=zh hs2;have N9:=vC (s.drop (aj s+1));have hrl:=Ar (s.drop (aj s+1));rw[hs2] at N9 hrl;have KF:(((s[aj s]).toNat:Int)==91)=true:=by rw[hc];rfl
     clear hp h0 aC hc hs2 hk;have hq:(aj s:Int)<(s.length:Int):=by omega
     rcases hr with⟨hz,hN,hL⟩|⟨hz,hz2,hN,hL⟩|⟨hz,hz2,zG,hN,hL⟩|⟨hz,hz2,zG,hN,hL⟩
     · have HN:=zh hN
       have HL:=zh hL;have D7:((cW (s.drop (aj s+1)):Int)==0)=true:=by simp[hz]
       clear hN hL hz;have hl:2≤s.length:=by omega
       go_enter Tryz.func140,Tryz.ntmps140;go_wp2_with (first|(go_at_call 162;refine(aX _ _ hm).mono ?_;rintro e w1 ⟨rfl,rfl⟩)|(go_at_call 87;refine(aG _ _ (by rw[HW.out];omega)).mono ?_;rintro e w1 ⟨rfl,au⟩)|(go_at_call 140;refine(ih _ (by rw[HS.out];omega) _ _ (by omega) (by rw[HS.out];omega)).mono ?_;rintro e w2 ⟨rfl,aH⟩));go_ret2;exact⟨bD HN.out.symm HL.out.symm,au.trans (aH.mono au.size)⟩
     · have HN:=zh hN
       have HL:=zh hL;have D7:((cW (s.drop (aj s+1)):Int)==0)=false:=by simp;omega
       clear hN hL hz;have hl:2≤s.length:=by omega
       go_enter Tryz.func140,Tryz.ntmps140;go_wp2_with (first|(go_at_call 162;refine(aX _ _ hm).mono ?_;rintro e w1 ⟨rfl,rfl⟩)|(go_at_call 87;refine(aG _ _ (by rw[HW.out];omega)).mono ?_;rintro e w1 ⟨rfl,au⟩)|(go_at_call 140;refine(ih _ (by rw[HS.out];omega) _ _ (by omega) (by rw[HS.out];omega)).mono ?_;rintro e w2 ⟨rfl,aH⟩));go_ret2;exact⟨bD HN.out.symm HL.out.symm,au.trans (aH.mono au.size)⟩
     · have HN:=zh hN
       have HL:=zh hL;have D7:((cW (s.drop (aj s+1)):Int)==0)=false:=by simp;omega
       have Li:(((s[aj s+1+cW (s.drop (aj s+1))]).toNat:Int) != 93)=true:=by
        rw[bne_iff_ne];intro h;exact zG (UInt8.toNat_inj.1 (by simp;omega))
       clear hN hL hz zG;have hl:2≤s.length:=by omega
       go_enter Tryz.func140,Tryz.ntmps140;go_wp2_with (first|(go_at_call 162;refine(aX _ _ hm).mono ?_;rintro e w1 ⟨rfl,rfl⟩)|(go_at_call 87;refine(aG _ _ (by rw[HW.out];omega)).mono ?_;rintro e w1 ⟨rfl,au⟩)|(go_at_call 140;refine(ih _ (by rw[HS.out];omega) _ _ (by omega) (by rw[HS.out];omega)).mono ?_;rintro e w2 ⟨rfl,aH⟩));go_ret2;exact⟨bD HN.out.symm HL.out.symm,au.trans (aH.mono au.size)⟩
     · have HN:=zh hN
       have HL:=zh hL;have D7:((cW (s.drop (aj s+1)):Int)==0)=false:=by simp;omega
       have Li:(((s[aj s+1+cW (s.drop (aj s+1))]).toNat:Int) != 93)=false:=by rw[zG];rfl
       clear hN hL hz zG;have hl:2≤s.length:=by omega
       go_enter Tryz.func140,Tryz.ntmps140;go_wp2_with (first|(go_at_call 162;refine(aX _ _ hm).mono ?_;rintro e w1 ⟨rfl,rfl⟩)|(go_at_call 87;refine(aG _ _ (by rw[HW.out];omega)).mono ?_;rintro e w1 ⟨rfl,au⟩)|(go_at_call 140;refine(ih _ (by rw[HS.out];omega) _ _ (by omega) (by rw[HS.out];omega)).mono ?_;rintro e w2 ⟨rfl,aH⟩));go_ret2;exact⟨bD HN.out.symm HL.out.symm,au.trans (aH.mono au.size)⟩
   · have e:=jr hp h0 hk hn (by intro r e;rw[aC] at e;injection e with e1 _;exact hc e1)
     have HN:Hid (cW s=aj s):=by show _=_;unfold cW;rw[e];simp;omega
     have HL:Hid (iZ s=1):=by show _=_;unfold iZ;rw[e];rfl
     have KF:(((s[aj s]).toNat:Int)==91)=false:=by
      rw[beq_eq_false_iff_ne];intro h;exact hc (UInt8.toNat_inj.1 (by simp;omega))
     have hq:(aj s:Int)<(s.length:Int):=by omega
     clear hp h0 e aC ih hc hk;have hl:2≤s.length:=by omega
     go_enter Tryz.func140,Tryz.ntmps140;go_wp2_with (first|(go_at_call 162;refine(aX _ _ hm).mono ?_;rintro e w1 ⟨rfl,rfl⟩)|(go_at_call 87;refine(aG _ _ (by rw[HW.out];omega)).mono ?_;rintro e w1 ⟨rfl,au⟩));go_ret2;exact⟨bD HN.out.symm HL.out.symm,au⟩
theorem EK (s:List UInt8) (hp:cV s) (h0:bW (s.take (aj s))=0) (hk:aW (s.take (aj s))=0) (hn:isName (s.take (aj s))=false):gD s:=by
 intro deep w Fy hd
 have hm:s.length≤maxLen:=by unfold maxLen;omega
 have h2:=gW (iV hp)
 have qP:=bX s
 have HW:Hid ((s.take (aj s)).length=aj s):=by show _=_;simp;omega
 have h4:(s.take (aj s)==[97,114,114,97,121])=false∧(s.take (aj s)==[114,101,99,111,114,100])=false∧(s.take (aj s)==[111,110,101,111,102])=false:=by
  rcases dy (w:=s.take (aj s)) with⟨k1,k2⟩|⟨k1,k2⟩|⟨k1,k2⟩|⟨k1,k2⟩
  all_goals first|omega|exact k2
 obtain⟨h4,h5,h6⟩:=h4
 obtain⟨f1,f2,f3⟩:=oV h0
 have e:=rJ hp h0 hk hn
 have HN:Hid (cW s=0):=by show _=_;unfold cW;rw[e]
 have HL:Hid (iZ s=0):=by show _=_;unfold iZ;rw[e]
 clear hp h0 e hk
 by_cases hl:2≤s.length
 all_goals
  go_enter Tryz.func140,Tryz.ntmps140;go_wp2_with (first|(go_at_call 162;refine(aX _ _ hm).mono ?_;rintro e w1 ⟨rfl,rfl⟩)|(go_at_call 87;refine(aG _ _ (by rw[HW.out];omega)).mono ?_;rintro e w1 ⟨rfl,au⟩))
  all_goals
   go_ret2;exact⟨bD HN.out.symm HL.out.symm,au⟩
theorem Au (r:List UInt8):gD (63::116::r):=by
 intro deep w Fy hd
 simp only[List.length_cons] at hd
 have e:=kz r
 have HN:Hid (cW (63::116::r)=2):=by show _=_;unfold cW;rw[e];simp;omega
 have HL:Hid (iZ (63::116::r)=1):=by show _=_;unfold iZ;rw[e];rfl
 clear e
 go_enter Tryz.func140,Tryz.ntmps140
 go_wp2_with fail
 go_ret2
 exact⟨bD HN.out.symm HL.out.symm,zb _⟩
theorem ux (s:List UInt8) (P6:∀s',s'.length<s.length→uO s') (ih:∀s',s'.length<s.length→gD s'):gD s:=by
 by_cases hp:cV s
 · by_cases h0:bW (s.take (aj s))=0
   · rcases dy (w:=s.take (aj s)) with⟨k1,_⟩|⟨k1,_⟩|⟨k1,_⟩|⟨k1,_⟩
     · exact EJ s hp h0 k1 ih
     · exact yu s hp h0 (.inl k1) P6
     · exact yu s hp h0 (.inr k1) P6
     · cases hn:isName (s.take (aj s))
       · exact EK s hp h0 k1 hn
       · exact CI s hp h0 k1 hn ih
   · exact CJ s hp h0
 · unfold cV at hp
   simp only[ne_eq,Classical.not_forall,Decidable.not_not] at hp;obtain⟨r',rfl⟩:=hp;exact Au r'
theorem Ex (L:Nat) (b u:List UInt8):kA 0 L b u=none:=by
 unfold kA
 split
 · rename_i fo r e
   have:=Aj e;rw[if_neg (by omega)]
 · rfl
theorem ia {m L:Nat} {b u:List UInt8} (h:bU b u=none):kA m L b u=none:=by unfold kA;rw[h]
theorem Ey (m L:Nat) (b u:List UInt8) (hm:1≤m):
 (isName (u.take (aj u))=false∧kA m L b u=none)∨
 (isName (u.take (aj u))=true∧Op.bytesLess b (u.take (aj u))=false∧kA m L b u=none)∨
 (isName (u.take (aj u))=true∧Op.bytesLess b (u.take (aj u))=true∧u.length≤aj u∧kA m L b u=none)∨
 (isName (u.take (aj u))=true∧Op.bytesLess b (u.take (aj u))=true∧∃h:aj u<u.length,u[aj u]≠58∧kA m L b u=none)∨
 (isName (u.take (aj u))=true∧Op.bytesLess b (u.take (aj u))=true∧∃h:aj u<u.length,u[aj u]=58∧
  ((cW (u.drop (aj u + 1)) = 0 ∧ kA m L b u = none) ∨
   (0<cW (u.drop (aj u+1))∧u.length≤aj u+1+cW (u.drop (aj u+1))∧kA m L b u=none)∨
   (0<cW (u.drop (aj u+1))∧∃h2:aj u+1+cW (u.drop (aj u+1))<u.length,
    ((u[aj u+1+cW (u.drop (aj u+1))]=93∧kA m L b u=some (u.drop (aj u+1+cW (u.drop (aj u+1))+1),max L (iZ (u.drop (aj u+1)))))∨
     (u[aj u+1+cW (u.drop (aj u+1))]=44∧kA m L b u=kA (m - 1) (max L (iZ (u.drop (aj u+1)))) (u.take (aj u)) (u.drop (aj u+1+cW (u.drop (aj u+1))+1)))∨
     (u[aj u+1+cW (u.drop (aj u+1))]≠93∧u[aj u+1+cW (u.drop (aj u+1))]≠44∧kA m L b u=none))))):=by
 cases h1:isName (u.take (aj u))
 · exact .inl ⟨rfl,ia (ni (by simp[h1]))⟩
 refine .inr ?_
 cases h2:Op.bytesLess b (u.take (aj u))
 · exact .inl ⟨rfl,rfl,ia (ni (by simp[h2]))⟩
 refine .inr ?_
 rcases behind u with⟨hb,aC⟩|⟨hb,aC⟩
 · exact .inl ⟨rfl,rfl,by omega,ia (ku (by rw[aC];intro r;simp))⟩
 refine .inr ?_
 by_cases hc:u[aj u]=58
 · refine .inr ⟨rfl, rfl, hb, hc, ?_⟩
   rw[hc] at aC;have e:=l6 h1 h2 aC;have Cd:(u.drop (aj u+1)).length=u.length - (aj u+1):=by simp
   generalize Oe:u.drop (aj u+1)=u2 at *;cases hq:aM u2 with
   | none=>
    rw[hq] at e;exact .inl ⟨by unfold cW;rw[hq],ia e⟩
   | some x =>
    obtain⟨t,r⟩:=x;have hr:=gM hq;have hdr:=pF hq;have hn:cW u2=u2.length - r.length:=by unfold cW;rw[hq]
    have hL:iZ u2=t.level:=by unfold iZ;rw[hq]
    have Ob:u.drop (aj u+1+cW u2)=r:=by rw[←List.drop_drop,Oe,hn,hdr]
    rw[hq] at e;dsimp only at e;cases r with
    | nil=>
     refine .inr (.inl ⟨by omega,by simp at hn;omega,?_⟩);unfold kA;rw[e]
    | cons c r=>
     simp only[List.length_cons] at hn hr;have hlt:aj u+1+cW u2<u.length:=by omega
     have hds:=List.drop_eq_getElem_cons hlt;rw[Ob] at hds;injection hds with F0 xo;refine .inr (.inr ⟨by omega,hlt,?_⟩);rw[←F0,←xo,hL]
     by_cases h93:c=93
     · subst h93
       refine .inl ⟨rfl,?_⟩;unfold kA;rw[e];simp[Fo.len,Fo.level,Tr.level];omega
     · by_cases h44 : c = 44
       · subst h44
         refine .inr (.inl ⟨rfl,?_⟩)
         replace e:bU b u=(match bU (u.take (aj u)) r with
          | some (fo,r3)=>some (.cons (u.take (aj u)) t.k t.n t.sub fo,r3)
          | none=>none):=e
         unfold kA;cases hp:bU (u.take (aj u)) r with
         | none=>rw[hp] at e;rw[e]
         | some y =>
          obtain⟨fo,r3⟩:=y;rw[hp] at e;rw[e];rcases r3 with _|⟨c3,r3⟩
          · rfl
          · by_cases hc3:c3=93
            · subst hc3
              show(if(Fo.cons (u.take (aj u)) t.k t.n t.sub fo).len≤m then some (r3,max L (Fo.cons (u.take (aj u)) t.k t.n t.sub fo).level) else none)=if fo.len≤m - 1 then some (r3,max (max L t.level) fo.level) else none
              have e1:(Fo.cons (u.take (aj u)) t.k t.n t.sub fo).len=fo.len+1:=rfl;have e2:(Fo.cons (u.take (aj u)) t.k t.n t.sub fo).level=max (t.level) fo.level:=rfl
              by_cases hle:fo.len+1≤m
              · rw[if_pos (by rw[e1];exact hle),if_pos (by omega),e2]
                simp
              · rw[if_neg (by rw[e1];exact hle),if_neg (by omega)]
            · split
              · rename_i h;simp only[Option.some.injEq,Prod.mk.injEq,List.cons.injEq] at h;exact absurd h.2.1 hc3
              · split
                · rename_i h;simp only[Option.some.injEq,Prod.mk.injEq,List.cons.injEq] at h;exact absurd h.2.1 hc3
                · rfl
       · refine .inr (.inr ⟨h93,h44,?_⟩)
         have e':bU b u=some (.cons (u.take (aj u)) t.k t.n t.sub .nil,c::r):=by
          rw[e];split
          · rename_i h;injection h with h _;exact absurd h h44
          · rfl
         unfold kA;rw[e'];split
         · rename_i h;simp only[Option.some.injEq,Prod.mk.injEq,List.cons.injEq] at h;exact absurd h.2.1 h93
         · rfl
 · exact .inl ⟨rfl,rfl,hb,hc,ia (ku (by intro r e;rw[aC] at e;injection e with e1 _;exact hc e1))⟩
theorem EL {a b:Int} {c d:Nat} (h:a=c) (h':b=d):Ending.returned (.tuple #[.int .i64 a,.int .i64 b])=.returned (.tuple #[.int .i64 c,.int .i64 d]):=by rw[h,h']
theorem int_eq {a b:Int} (h:a=b):Value.int .i64 a=.int .i64 b:=by rw[h]
theorem CC (s:List UInt8) (k m L:Nat) (b:List UInt8) (hm:1≤m) (hk:k≤s.length):∃(c:Nat) (w0:List UInt8) (M Lv:Nat),aj (s.drop k)=c∧List.drop k (List.take (k+c) s)=w0∧w0.length=c∧k+c≤s.length∧
 cW (s.drop (k+c+1))=M∧iZ (s.drop (k+c+1))=Lv∧
 ((isName w0 = false ∧ kA m L b (s.drop k) = none) ∨
  (isName w0=true∧Op.bytesLess b w0=false∧kA m L b (s.drop k)=none)∨
  (isName w0=true∧Op.bytesLess b w0=true∧s.length≤k+c∧kA m L b (s.drop k)=none)∨
  (isName w0=true∧Op.bytesLess b w0=true∧∃h:k+c<s.length,s[k+c]≠58∧kA m L b (s.drop k)=none)∨
  (isName w0=true∧Op.bytesLess b w0=true∧∃h:k+c<s.length,s[k+c]=58∧
   ((M = 0 ∧ kA m L b (s.drop k) = none) ∨
    (0<M∧s.length≤k+c+1+M∧kA m L b (s.drop k)=none)∨
    (0<M∧∃h2:k+c+1+M<s.length,
     ((s[k+c+1+M]=93∧kA m L b (s.drop k)=some (s.drop (k+c+1+M+1),max L Lv))∨
      (s[k+c+1+M]=44∧kA m L b (s.drop k)=kA (m - 1) (max L Lv) w0 (s.drop (k+c+1+M+1)))∨
      (s[k+c+1+M]≠93∧s[k+c+1+M]≠44∧kA m L b (s.drop k)=none)))))):=by
 have hu:(s.drop k).length=s.length - k:=by simp
 have qP:=bX (s.drop k)
 have hnm:List.drop k (List.take (k+aj (s.drop k)) s)=List.take (aj (s.drop k)) (s.drop k):=by
  rw[List.drop_take];congr 1;omega
 have qW:(List.take (aj (s.drop k)) (s.drop k)).length=aj (s.drop k):=by simp;omega
 refine⟨_,_,_,_,rfl,rfl,by rw[hnm];exact qW,by omega,rfl,rfl,?_⟩
 rw[hnm]
 have hc:=Ey m L b (s.drop k) hm
 simp only[List.drop_drop,hu,List.getElem_drop] at hc
 simp only[←Nat.add_assoc] at hc
 rcases hc with h|h|⟨h1,h2,h3,h4⟩|⟨h1,h2,h3,h4⟩|⟨h1,h2,h3,h4,h5⟩
 · exact .inl h
 · exact .inr (.inl h)
 · exact .inr (.inr (.inl ⟨h1,h2,by omega,h4⟩))
 · exact .inr (.inr (.inr (.inl ⟨h1,h2,by omega,h4⟩)))
 · refine .inr (.inr (.inr (.inr ⟨h1,h2,by omega,h4,?_⟩)))
   rcases h5 with h5|⟨h5,h6,h7⟩|⟨h5,h6,h7⟩
   · exact .inl h5
   · exact .inr (.inl ⟨h5,by omega,h7⟩)
   · exact .inr (.inr ⟨h5,by omega,h7⟩)
theorem nY {c d:UInt8} (h:c≠d):(c.toNat:Int)≠(d.toNat:Int):=λe=>h (UInt8.toNat_inj.1 (by omega))
set_option maxRecDepth 100000 in
theorem Al (s : List UInt8) (ih : ∀ s', s'.length < s.length → gD s') : uO s := by
 intro deep w Fy hd
 have hm:s.length≤maxLen:=by unfold maxLen;omega
 go_enter Tryz.func202,Tryz.ntmps202
 go_wp2_with fail
 go_loopw [6,7,8,9] (λa l b m wr=>∃(k L:Nat) (bf:List UInt8) (n:Nat),k≤s.length∧L≤s.length∧n≤6∧a=.int .i64 k∧l=.int .i64 L∧b=str bf∧m=.int .i64 (n+1)∧Hid (kA 6 0 [] s=kA (6 - n) L bf (s.drop k))∧Below w.heap.size w wr)
  (λ_ _ _ m _=>7 - (intOf m).toNat)
 case atStart=>exact⟨0,0,[],0,by omega,by omega,by omega,rfl,rfl,rfl,rfl,rfl,zb _⟩
 case round =>
  obtain⟨k,L,bf,n,hk,hL,hn,rfl,rfl,rfl,rfl,HR,hnx⟩:=hrel
  by_cases hn6:n=6
  · subst hn6
    have HZ:Hid (sM s=0∧ye s=0):=gp (by rw[HR.out];exact Ex _ _ _);go_wp2_with fail;go_ret2;exact⟨bD HZ.out.1.symm HZ.out.2.symm,hnx⟩
  · have Um:n≤5:=by omega
    clear hn6 hn;obtain⟨c,w0,M,Lv,hcut,hnm,hw,hkc,hM,Km,hcs⟩:=CC s k (6 - n) L bf (by omega) hk;have HW:=zh hw;have HS:Hid ((s.drop (k+c+1)).length=s.length - (k+c+1)):=by show _=_;simp
    have FP:Lv≤s.length:=by have:=Ar (s.drop (k+c+1));rw[Km,HS.out] at this;omega
    have RC:M≤s.length:=by have:=vC (s.drop (k+c+1));rw[hM,HS.out] at this;omega
    clear hw;rcases hcs with⟨hname,hz⟩|⟨hname,hless,hz⟩|⟨hname,hless,hlen,hz⟩|⟨hname,hless,hlt,hch,hz⟩|⟨hname,hless,hlt,hch,hcs⟩
    · clear hM Km
      have HZ:Hid (sM s=0∧ye s=0):=gp (by rw[HR.out];exact hz);clear hz HR;go_wp2_with (first|(go_at_call 162;refine(aX _ _ (by simp;unfold maxLen;omega)).mono ?_;rintro e w1 ⟨rfl,rfl⟩)|(go_at_call 87;refine(aG _ _ (by rw[HW.out];unfold maxLen;omega)).mono ?_;rintro e w1 ⟨rfl,au⟩));go_ret2;exact⟨bD HZ.out.1.symm HZ.out.2.symm,hnx.trans (au.mono hnx.size)⟩
    · clear hM Km
      have hl2:=gH _ _ hless;clear hless;have HZ:Hid (sM s=0∧ye s=0):=gp (by rw[HR.out];exact hz);clear hz HR;go_wp2_with (first|(go_at_call 162;refine(aX _ _ (by simp;unfold maxLen;omega)).mono ?_;rintro e w1 ⟨rfl,rfl⟩)|(go_at_call 87;refine(aG _ _ (by rw[HW.out];unfold maxLen;omega)).mono ?_;rintro e w1 ⟨rfl,au⟩));go_ret2;exact⟨bD HZ.out.1.symm HZ.out.2.symm,hnx.trans (au.mono hnx.size)⟩
    · clear hM Km
      have hl2:=rz _ _ hless;clear hless;have HZ:Hid (sM s=0∧ye s=0):=gp (by rw[HR.out];exact hz);clear hz HR;go_wp2_with (first|(go_at_call 162;refine(aX _ _ (by simp;unfold maxLen;omega)).mono ?_;rintro e w1 ⟨rfl,rfl⟩)|(go_at_call 87;refine(aG _ _ (by rw[HW.out];unfold maxLen;omega)).mono ?_;rintro e w1 ⟨rfl,au⟩));go_ret2;exact⟨bD HZ.out.1.symm HZ.out.2.symm,hnx.trans (au.mono hnx.size)⟩
    · clear hM Km
      have hl2:=rz _ _ hless;have PC:(((s[k+c]).toNat:Int) != 58)=true:=by rw[bne_iff_ne];exact nY hch
      clear hless hch;have HZ:Hid (sM s=0∧ye s=0):=gp (by rw[HR.out];exact hz);clear hz HR;go_wp2_with (first|(go_at_call 162;refine(aX _ _ (by simp;unfold maxLen;omega)).mono ?_;rintro e w1 ⟨rfl,rfl⟩)|(go_at_call 87;refine(aG _ _ (by rw[HW.out];unfold maxLen;omega)).mono ?_;rintro e w1 ⟨rfl,au⟩));go_ret2;exact⟨bD HZ.out.1.symm HZ.out.2.symm,hnx.trans (au.mono hnx.size)⟩
    · have hl2 := rz _ _ hless
      have PC:(((s[k+c]).toNat:Int) != 58)=false:=by rw[hch];rfl
      have hc1:1≤c:=by have:=rD hname;rw[HW.out] at this;exact this
      clear hless hch;rcases hcs with⟨JK,hz⟩|⟨JK,hlen,hz⟩|⟨JK,hlt2,hcs⟩
      · have Mi:((M:Int)==0)=true:=by simp[JK]
        clear JK;have HZ:Hid (sM s=0∧ye s=0):=gp (by rw[HR.out];exact hz);clear hz HR;go_wp2_with (first|(go_at_call 162;refine(aX _ _ (by simp;unfold maxLen;omega)).mono ?_;rintro e w1 ⟨rfl,rfl⟩)|(go_at_call 87;refine(aG _ _ (by rw[HW.out];unfold maxLen;omega)).mono ?_;rintro e w1 ⟨rfl,au⟩)|(go_at_call 140;refine(ih _ (by rw[HS.out];omega) _ _ (by omega) (by rw[HS.out];omega)).mono ?_;rintro e w2 ⟨rfl,aH⟩));go_ret2;exact⟨bD HZ.out.1.symm HZ.out.2.symm,(hnx.trans (au.mono hnx.size)).trans (aH.mono (Nat.le_trans hnx.size au.size))⟩
      · have Mi:((M:Int)==0)=false:=by simp;omega
        clear JK;have HZ:Hid (sM s=0∧ye s=0):=gp (by rw[HR.out];exact hz);clear hz HR;go_wp2_with (first|(go_at_call 162;refine(aX _ _ (by simp;unfold maxLen;omega)).mono ?_;rintro e w1 ⟨rfl,rfl⟩)|(go_at_call 87;refine(aG _ _ (by rw[HW.out];unfold maxLen;omega)).mono ?_;rintro e w1 ⟨rfl,au⟩)|(go_at_call 140;refine(ih _ (by rw[HS.out];omega) _ _ (by omega) (by rw[HS.out];omega)).mono ?_;rintro e w2 ⟨rfl,aH⟩));go_ret2;exact⟨bD HZ.out.1.symm HZ.out.2.symm,(hnx.trans (au.mono hnx.size)).trans (aH.mono (Nat.le_trans hnx.size au.size))⟩
      · have Mi:((M:Int)==0)=false:=by simp;omega
        clear JK;rcases hcs with⟨hch,hz⟩|⟨hch,hz⟩|⟨hch,KH,hz⟩
        · have PD:(((s[k+c+1+M]).toNat:Int)==93)=true:=by rw[hch];rfl
          have HZ:Hid (sM s=k+c+1+M+1∧ye s=max L Lv):=by
           have:=yf (HR.out.trans hz);refine⟨?_,this.2.1⟩;rw[this.1];simp;omega
          clear hz HR hch;go_wp2_with (first|(go_at_call 162;refine(aX _ _ (by simp;unfold maxLen;omega)).mono ?_;rintro e w1 ⟨rfl,rfl⟩)|(go_at_call 87;refine(aG _ _ (by rw[HW.out];unfold maxLen;omega)).mono ?_;rintro e w1 ⟨rfl,au⟩)|(go_at_call 140;refine(ih _ (by rw[HS.out];omega) _ _ (by omega) (by rw[HS.out];omega)).mono ?_;rintro e w2 ⟨rfl,aH⟩))
          all_goals
           go_ret2;exact⟨EL (by rw[HZ.out.1];omega) (by rw[HZ.out.2];omega),(hnx.trans (au.mono hnx.size)).trans (aH.mono (Nat.le_trans hnx.size au.size))⟩
        · have PD:(((s[k+c+1+M]).toNat:Int)==93)=false:=by rw[hch];rfl
          have Sd:(((s[k+c+1+M]).toNat:Int) != 44)=false:=by rw[hch];rfl
          have HZ:=zh (HR.out.trans hz);clear hz HR hch;go_wp2_with (first|(go_at_call 162;refine(aX _ _ (by simp;unfold maxLen;omega)).mono ?_;rintro e w1 ⟨rfl,rfl⟩)|(go_at_call 87;refine(aG _ _ (by rw[HW.out];unfold maxLen;omega)).mono ?_;rintro e w1 ⟨rfl,au⟩)|(go_at_call 140;refine(ih _ (by rw[HS.out];omega) _ _ (by omega) (by rw[HS.out];omega)).mono ?_;rintro e w2 ⟨rfl,aH⟩))
          all_goals
           go_roundw
           case rel=>exact⟨k+c+1+M+1,max L Lv,w0,n+1,by omega,by omega,by omega,int_eq (by omega),int_eq (by omega),rfl,int_eq (by omega),by rw[show 6 - (n+1)=6 - n - 1 from by omega];exact HZ,(hnx.trans (au.mono hnx.size)).trans (aH.mono (Nat.le_trans hnx.size au.size))⟩
           case measure=>simp[intOf];omega
        · have PD:(((s[k+c+1+M]).toNat:Int)==93)=false:=by rw[beq_eq_false_iff_ne];exact nY hch
          have Sd:(((s[k+c+1+M]).toNat:Int) != 44)=true:=by rw[bne_iff_ne];exact nY KH
          clear hch KH;have HZ:Hid (sM s=0∧ye s=0):=gp (by rw[HR.out];exact hz);clear hz HR;go_wp2_with (first|(go_at_call 162;refine(aX _ _ (by simp;unfold maxLen;omega)).mono ?_;rintro e w1 ⟨rfl,rfl⟩)|(go_at_call 87;refine(aG _ _ (by rw[HW.out];unfold maxLen;omega)).mono ?_;rintro e w1 ⟨rfl,au⟩)|(go_at_call 140;refine(ih _ (by rw[HS.out];omega) _ _ (by omega) (by rw[HS.out];omega)).mono ?_;rintro e w2 ⟨rfl,aH⟩));go_ret2;exact⟨bD HZ.out.1.symm HZ.out.2.symm,(hnx.trans (au.mono hnx.size)).trans (aH.mono (Nat.le_trans hnx.size au.size))⟩
theorem rQ:∀(n:Nat) (s:List UInt8),s.length≤n→gD s
 | 0,s,h=>ux s (λs' hs=>by omega) (λs' hs=>by omega)
 | n+1,s,h=>ux s (λs' hs=>Al s' (λs'' hs'=>rQ n s'' (by omega))) (λs' hs=>rQ n s' (by omega))
theorem yt (s:List UInt8):gD s:=rQ s.length s zr
def dW (w:World):Prop:=Lib.TabIs Tryz.prog w "strings.asciiSpace" .u8 Lib.asciiSpaceTab
theorem Dy:Tryz.prog.globalNamed "strings.asciiSpace" =some 1:=by kernel_rfl
theorem dW.below {B:Nat} {w w':World} (h:dW w) (hb:Below B w w') (hB:w.heap.size≤B):dW w':=by
 have hlt:1<w.heap.size:=by
  have h':=h;unfold dW Lib.TabIs World.var? at h';rw[Dy] at h';simp only[Option.bind_some] at h';rcases hk:w.heap[1]? with _|o
  · rw[hk] at h';simp at h'
  · exact(Array.getElem?_eq_some_iff.1 hk).1
 exact var?_below hb Dy (by omega) h
def oL:List UInt8:=[97,110,100,32,97,114,114,97,121,32,98,101,103,105,110,32,98,111,111,108,32,98,114,101,97,107,32,99,108,117,115,116,101,114,32,100,111,32,100,111,119,110,32,101,108,115,101,32,101,108,115,101,105,102,32,101,110,100,32,101,120,99,101,112,116,32,102,97,108,115,101,32,102,111,114,32,104,97,115,32,105,102,32,105,110,32,105,110,116,32,105,115,32,105,116,101,114,32,109,111,100,32,110,105,108,32,110,111,116,32,110,117,108,108,32,111,110,101,111,102,32,111,114,32,111,116,104,101,114,115,32,112,114,111,99,32,112,117,116,32,114,101,99,111,114,100,32,114,101,112,32,114,101,116,117,114,110,32,114,101,116,117,114,110,115,32,115,105,103,110,97,108,32,115,105,103,110,97,108,115,32,116,97,103,32,116,97,103,99,97,115,101,32,116,104,101,110,32,116,114,117,101,32,117,112,32,118,97,114,32,119,104,101,110,32,119,104,101,114,101,32,119,104,105,108,101,32,121,105,101,108,100,32,121,105,101,108,100,115]
theorem sP:Lib.fields oL=dc:=by decide+kernel
theorem vV:∀(j:Nat) (b:UInt8),oL[j]? =some b→b.toNat<128:=by
 have h:(oL.all λb=>decide (b.toNat<128))=true:=by decide+kernel
 intro j b hj
 simpa using List.all_eq_true.1 h b (List.mem_of_getElem? hj)
set_option maxRecDepth 100000 in
theorem uU (w:World) (ht:dW w):Calls Tryz.prog 273 #[.string ⟨#[97,110,100,32,97,114,114,97,121,32,98,101,103,105,110,32,98,111,111,108,32,98,114,101,97,107,32,99,108,117,115,116,101,114,32,100,111,32,100,111,119,110,32,101,108,115,101,32,101,108,115,101,105,102,32,101,110,100,32,101,120,99,101,112,116,32,102,97,108,115,101,32,102,111,114,32,104,97,115,32,105,102,32,105,110,32,105,110,116,32,105,115,32,105,116,101,114,32,109,111,100,32,110,105,108,32,110,111,116,32,110,117,108,108,32,111,110,101,111,102,32,111,114,32,111,116,104,101,114,115,32,112,114,111,99,32,112,117,116,32,114,101,99,111,114,100,32,114,101,112,32,114,101,116,117,114,110,32,114,101,116,117,114,110,115,32,115,105,103,110,97,108,32,115,105,103,110,97,108,115,32,116,97,103,32,116,97,103,99,97,115,101,32,116,104,101,110,32,116,114,117,101,32,117,112,32,118,97,114,32,119,104,101,110,32,119,104,101,114,101,32,119,104,105,108,101,32,121,105,101,108,100,32,121,105,101,108,100,115]⟩] w λe w'=>e=.returned (.slice (some ⟨w.heap.size,0,none⟩) 46 46)∧w'=w.alloc (.cells (aB dc).toArray 9):=by
 have hf:=Tryz.strings_Fields ⟨oL.toArray⟩ w (by decide+kernel) vV ht
 have he:dc.length=46:=by decide
 rw[show(⟨oL.toArray⟩:ByteArray).data.toList=oL from rfl,sP,he] at hf
 exact hf
set_option maxRecDepth 100000 in
theorem AF (w:World) (ht:dW w):Calls Tryz.prog 249 #[] w λe w'=>e=.returned (.slice (some ⟨w.heap.size,0,none⟩) 46 46)∧w'=w.alloc (.cells (aB dc).toArray 9):=by
 have hf:=uU w ht
 go_enter Tryz.func249,Tryz.ntmps249
 go_wp2_with fail
 refine hf.mono ?_
 rintro e w1 ⟨rfl,rfl⟩
 go_wp2_with fail
 go_ret
 exact⟨rfl,rfl⟩
theorem vU:∀x∈dc,x.length≤12:=by
 have h:(dc.all λx=>decide (x.length≤12))=true:=by decide+kernel
 intro x hx
 simpa using List.all_eq_true.1 h x hx
theorem nC {α:Type} (l:List α) (k:Nat) (x:α) (h:l[k]? =some x):l.take (k+1)=l.take k++[x]:=by
 obtain⟨hk,rfl⟩:=List.getElem?_eq_some_iff.1 h
 exact List.take_succ_eq_append_getElem hk
set_option maxRecDepth 100000 in
theorem vD (w:World) (ht:dW w):Calls Tryz.prog 208 #[] w λe w'=>e=.returned (.map (some w.heap.size))∧aS w' w.heap.size dc∧Below w.heap.size w w':=by
 have hmm:=@run_makeMap Tryz.prog
 have hl:dc.length=46:=by decide
 have Hl:=zh hl
 clear hl
 go_enter Tryz.func208,Tryz.ntmps208
 go_wp2_with fail
 refine(AF _ (ht.below (B:=w.heap.size) ((zb _).alloc zr _) zr)).mono ?_
 rintro e w1 ⟨rfl,rfl⟩
 go_wp2_with fail
 have h0:aS ((w.alloc (.map #[] 0)).alloc (.cells (aB dc).toArray 9)) w.heap.size []:=(aS.made w).kept (World.grownBy_alloc _ _ none) (by simp)
 have h1:((w.alloc (.map #[] 0)).alloc (.cells (aB dc).toArray 9)).heap[w.heap.size+1]? =some (.cells (aB dc).toArray 9):=by
  have:=heap_alloc_new (w.alloc (.map #[] 0)) (.cells (aB dc).toArray 9)
  rwa [World.size_alloc] at this
 have h2:Below w.heap.size w ((w.alloc (.map #[] 0)).alloc (.cells (aB dc).toArray 9)):=((zb _).alloc zr _).alloc (by simp) _
 have hs:w.heap.size+1<((w.alloc (.map #[] 0)).alloc (.cells (aB dc).toArray 9)).heap.size:=by simp
 generalize (w.alloc (.map #[] 0)).alloc (.cells (aB dc).toArray 9)=W at *
 go_loopw [3,7] (λ_ i wr=>∃k:Nat,k≤46∧i=.int .i64 k∧aS wr w.heap.size (dc.take k)∧wr.heap[w.heap.size+1]? =some (.cells (aB dc).toArray 9)∧Below w.heap.size w wr) (λ_ i _=>46 - (intOf i).toNat)
 case atStart=>exact⟨0,by omega,rfl,h0,h1,h2⟩
 case round=>
  obtain⟨k,hk,rfl,ek,hcells,hnx⟩:=hrel
  by_cases hlt:k<46
  · obtain⟨x,hx⟩:∃x,dc[k]? =some x:=⟨dc[k]'(by rw[Hl.out];exact hlt),List.getElem?_eq_getElem _⟩
    have hc:wr.cell? ⟨w.heap.size+1,k,none⟩=some (str x):=by rw[ak hcells];simp[aB,hx]
    have HT:=zh (nC dc k x hx);have hxl:=vU x (List.mem_of_getElem? hx);clear hx;go_wp2_with (at_mapUpdate;refine jb _ rfl _ _ _ rfl w.heap.size (dc.take k) rfl ek (by rw[List.length_take];unfold maxLen;omega) x rfl rfl (by unfold maxLen;omega) ?_;intro w1 tM DS;clear hc)
    go_roundw
    case rel=>exact⟨k+1,by omega,by go_num,by rw[HT.out];exact tM,(DS.block _ (Array.getElem?_eq_some_iff.1 hcells).1 (by simp)).trans hcells,hnx.grown DS hnx.size (by intro j hj;cases hj;exact nl _)⟩
    case measure=>simp[intOf];omega
  · have HT:Hid (dc.take k=dc):=List.take_of_length_le (by rw[Hl.out];omega)
    go_wp2
    go_ret;rw[HT.out] at ek;exact⟨rfl,ek,hnx⟩
theorem yJ (s:List UInt8) (w:World) (ht:dW w) (hl:s.length≤maxLen):Calls Tryz.prog 148 #[str s] w λe w'=>e=.returned (.bool (isWord s))∧Below w.heap.size w w':=by
 go_enter Tryz.func148,Tryz.ntmps148
 go_wp2_with fail
 refine(vD _ ht).mono ?_
 rintro e w1 ⟨rfl,ek,hb⟩
 have hlk:=ek.look hl
 go_wp2
 go_ret
 exact⟨rfl,hb⟩
def fD (x:Nat):Bool:=decide (126<x)|| !eG (UInt8.ofNat x)
theorem kU {x:Nat} (h:126<x):fD x=true:=by simp[fD,h]
theorem jv {x:Nat} (h:x≤126):fD x= !eG (UInt8.ofNat x):=by simp[fD];omega
theorem wm {x:Nat} (h:x≤126):eG (UInt8.ofNat x)=(decide (97≤x)&&decide (x≤122)||decide (48≤x)&&decide (x≤57)):=by
 have:(UInt8.ofNat x).toNat=x:=by simp;omega
 unfold eG
 rw[this]
theorem FD (x:Nat) (W:World):Calls Tryz.prog 146 #[.int .i32 x] W λe w'=>e=.returned (.bool (fD x))∧W=w':=by
 rcases(show(126<x)∨(x≤126∧((97≤x∧x≤122)∨(48≤x∧x≤57)∨(x<48)∨(57<x∧x<97)∨(122<x))) from by omega) with h|⟨h,h1⟩
 · have H:=zh (kU h)
   go_enter Tryz.func146,Tryz.ntmps146
   go_wp2
   go_ret;exact⟨bI H.out.symm,rfl⟩
 · have H:=zh (jv h)
   have H2:=zh (wm h);rcases h1 with⟨h1,h2⟩|⟨h1,h2⟩|h1|⟨h1,h2⟩|h1
   all_goals
    go_enter Tryz.func146,Tryz.ntmps146
    go_wp2
    go_ret;refine⟨bI ?_,rfl⟩;rw[H.out,H2.out,Bool.eq_iff_iff];simp;omega
theorem wh {c:UInt8} (h:eG c=true):c.toNat≤122:=by
 simp only[eG,Bool.or_eq_true,Bool.and_eq_true,decide_eq_true_eq] at h;omega
theorem wJ:∀(l:List UInt8) (k:Nat) (h:k<l.length),k<aj l→eG l[k]=true
 | [],k,h,_=>by simp at h
 | c::l,0,_,hc=>by
  rw[bh] at hc;split at hc
  · simpa
  · omega
 | c::l,k+1,h,hc=>by
  rw[bh] at hc;split at hc
  · simpa using wJ l k (by simpa using h) (by omega)
  · omega
theorem wK:∀(l:List UInt8) (h:aj l<l.length),eG l[aj l]=false
 | [],h=>by simp at h
 | c::l,h=>by
  by_cases hc:eG c=true
  · have e:aj (c::l)=aj l+1:=by rw[bh,if_pos hc]
    have h':=wK l (by rw[e] at h;simpa using h);simp only[e,List.getElem_cons_succ];exact h'
  · have e:aj (c::l)=0:=by rw[bh,if_neg hc]
    simp only[e,List.getElem_cons_zero]
    simpa using hc
theorem xw (s:List UInt8):∀(f pos:Nat),pos≤aj s→s.length≤pos+f→Lib.idxFuncFrom fD true ⟨s.toArray⟩ f pos=if aj s=s.length then -1 else(aj s:Int)
 | 0,pos,h1,h2=>by
  have:=bX s;rw[if_pos (by omega)];rfl
 | f + 1, pos, h1, h2 => by
  have hle:=bX s;unfold Lib.idxFuncFrom;have hsz:(⟨s.toArray⟩:ByteArray).size=s.length:=by simp[ByteArray.size]
  by_cases hp:pos<s.length
  · rw [if_pos (by rw [hsz]; exact hp)]
    have hp':pos<(⟨s.toArray⟩:ByteArray).size:=by rw[hsz];exact hp
    by_cases hc:pos<aj s
    · have ha:=wJ s pos hp hc
      have hb:=wh ha;rw[decode_ascii _ pos hp' (by show(s[pos]).toNat<128;omega)];have e:fD (s[pos]).toNat=false:=by
       rw[jv (by omega)];simp[ha]
      have e2:fD ((⟨s.toArray⟩:ByteArray)[pos]'hp').toNat=false:=e;simp only[e2,Bool.false_eq_true,if_false];exact xw s f (pos+1) (by omega) (by omega)
    · have hm:pos=aj s:=by omega
      subst hm;have ha:=wK s hp;have e:fD (Utf8.decode ⟨s.toArray⟩ (aj s)).1=true:=by
       by_cases hb:(s[aj s]).toNat<128
       · rw[decode_ascii _ _ hp' hb]
         show fD (s[aj s]).toNat=true
         by_cases h126:126<(s[aj s]).toNat
         · exact kU h126
         · rw[jv (by omega)];simp[ha]
       · exact kU (by have:=(decode_high _ _ hp' (by show 128≤(s[aj s]).toNat;omega)).1;omega)
      rw[if_pos e,if_neg (by omega)]
  · rw[if_neg (by rw[hsz];exact hp),if_pos (by omega)]
theorem idx_eq (s:List UInt8):Lib.idxFunc fD true ⟨s.toArray⟩=if aj s=s.length then -1 else(aj s:Int):=
 xw s _ 0 (by omega) (by simp[ByteArray.size])
theorem Dl (w:World):PredAt Tryz.prog 146 #[] encR fD w:=λW x _=>by
 refine(FD x W).mono ?_
 rintro e w' ⟨he,rfl⟩
 exact⟨he,0,rfl⟩
theorem tP (s:List UInt8) (w:World):Calls Tryz.prog 145 #[str s,.func (.func 146) #[] #[]] w λe w'=>e=.returned (.int .i64 (if aj s=s.length then -1 else(aj s:Int)))∧Below w.heap.size w w':=by
 rw[←idx_eq]
 exact Tryz.strings_IndexFunc 146 #[] (enters_of Tryz.func146 (by kernel_rfl) rfl) fD ⟨s.toArray⟩ w (Dl w)
theorem Ce (s:List UInt8) (w:World) (h:aj s=s.length):Calls Tryz.prog 145 #[str s,.func (.func 146) #[] #[]] w λe w'=>e=.returned (.int .i64 (-1))∧Below w.heap.size w w':=by
 have:=tP s w
 rwa [if_pos h] at this
theorem D8 (s:List UInt8) (w:World) (h:aj s≠s.length):Calls Tryz.prog 145 #[str s,.func (.func 146) #[] #[]] w λe w'=>e=.returned (.int .i64 (aj s:Int))∧Below w.heap.size w w':=by
 have:=tP s w
 rwa [if_neg h] at this
theorem cC (s:List UInt8) (w:World) (ht:dW w) (hl:s.length≤maxLen):Calls Tryz.prog 88 #[str s] w λe w'=>e=.returned (.bool (isName s))∧Below w.heap.size w w':=by
 have hl':=hl
 unfold maxLen at hl'
 rcases rC s with⟨rfl,hn⟩|⟨h0,⟨h1,hn⟩|⟨h1,⟨h2,hn⟩|⟨h2,h3,⟨h4,hn⟩|⟨h4,⟨h5,hn⟩|⟨h5,hn⟩⟩⟩⟩⟩
 · have HN:=zh hn
   clear hn;go_enter Tryz.func88,Tryz.ntmps88;go_wp2_with fail;go_ret;exact⟨bI HN.out.symm,zb _⟩
 · have HN:=zh hn
   clear hn;go_enter Tryz.func88,Tryz.ntmps88;go_wp2_with fail;go_ret;exact⟨bI HN.out.symm,zb _⟩
 · have HN:=zh hn
   clear hn;rcases h2 with h2|h2
   all_goals
    go_enter Tryz.func88,Tryz.ntmps88
    go_wp2
    go_ret;exact⟨bI HN.out.symm,zb _⟩
 · have HN:=zh hn
   have H4:=zh h4;have ij:¬(aj s:Int)<0:=by omega
   clear hn h4;go_enter Tryz.func88,Tryz.ntmps88;go_wp2_with (first|(go_at_call 145;refine(D8 _ _ H4.out).mono ?_;rintro e w1 ⟨rfl,hb⟩)|(go_at_call 144;go_in));go_ret;exact⟨bI HN.out.symm,hb⟩
 all_goals
  have HN:=zh hn;have H4:=zh h4;clear hn h4;go_enter Tryz.func88,Tryz.ntmps88;go_wp2_with (first|(go_at_call 145;refine(Ce _ _ H4.out).mono ?_;rintro e w1 ⟨rfl,hb⟩)|(go_at_call 144;go_in)|(go_at_call 148;refine(yJ _ _ (ht.below hb zr) hl).mono ?_;rintro e w2 ⟨rfl,aC⟩));go_ret;exact⟨bI HN.out.symm,hb.trans (aC.mono hb.size)⟩
@[go_sem] theorem FF (a b : List UInt8) : (⟨a.toArray⟩ : ByteArray) ++ ⟨b.toArray⟩ = ⟨(a ++ b).toArray⟩ := by
 apply ByteArray.ext
 simp
def Kept (b:Nat) (w w':World):Prop:=w.grownBy w' (some b)
theorem Kept.refl (b:Nat) (w:World):Kept b w w:=⟨rfl,rfl,rfl,nl _,λ_ _ _=>rfl⟩
theorem Kept.trans {b:Nat} {w1 w2 w3:World} (h:Kept b w1 w2) (k:Kept b w2 w3):Kept b w1 w3:=
 ⟨k.os.trans h.os,k.tape.trans h.tape,k.output.trans h.output,Nat.le_trans h.size k.size,λi hi hne=>(k.block i (Nat.lt_of_lt_of_le hi h.size) hne).trans (h.block i hi hne)⟩
theorem Kept.ey {b B:Nat} {w w':World} (h:Below B w w') (hB:w.heap.size≤B):Kept b w w':=
 ⟨h.os,h.tape,h.output,h.size,λi hi _=>h.block i (by omega)⟩
theorem Kept.setCell (w:World) (b o:Nat) (u:Value):Kept b w (w.setCell ⟨b,o,none⟩ u):=
 ⟨rfl,rfl,rfl,by simp[World.setCell],λi _ hne=>Below.heap_setCell _ _ _ _ (λe=>hne (by rw[e]))⟩
theorem Kept.alloc (b:Nat) (w:World) (o:Obj):Kept b w (w.alloc o):=World.grownBy_alloc w o _
theorem Kept.drew {b:Nat} {w w':World} (h:Kept b w w'):Kept b w w'.drew:=⟨h.os,h.tape,h.output,h.size,h.block⟩
theorem Kept.cell {b:Nat} {w w':World} (h:Kept b w w') {a:Addr} {v:Value} (hc:w.cell? a=some v) (hne:a.block≠b):w'.cell? a=some v:=
 World.grownBy.cell h hc (λe=>hne (Option.some.inj e))
theorem Kept.heap {b:Nat} {w w':World} (h:Kept b w w') {k:Nat} {o:Obj} (hc:w.heap[k]? =some o) (hne:k≠b):w'.heap[k]? =some o:=
 (h.block k (Array.getElem?_eq_some_iff.1 hc).1 (λe=>hne (Option.some.inj e))).trans hc
theorem dW.kept {b:Nat} {w w':World} (h:dW w) (k:Kept b w w') (hne:b≠1):dW w':=by
 have h':=h
 unfold dW Lib.TabIs World.var? at h' ⊢
 rw[Dy] at h' ⊢
 simp only[Option.bind_some] at h' ⊢
 rcases hk:w.heap[1]? with _|o
 · rw[hk] at h';simp at h'
 · rw[k.heap hk (Ne.symm hne)]
   rw[hk] at h';exact h'
theorem r8 (p r:List UInt8):Lib.hasPrefix (p++r) p=true∧Lib.trimPrefix (p++r) p=r:=by
 have:Lib.hasPrefix (p++r) p=true:=by unfold Lib.hasPrefix;simp
 exact⟨this,by unfold Lib.trimPrefix;rw[if_pos this];simp⟩
theorem FH (p r:List UInt8) (w:World):Calls Tryz.prog 274 #[str (p++r),str p] w λe w'=>e=.returned (.tuple #[str r,.bool true])∧w'=w:=by
 have h:=Tryz.strings_CutPrefix ⟨(p++r).toArray⟩ ⟨p.toArray⟩ w
 obtain⟨h1,h2⟩:=r8 p r
 simp only at h
 rw[h1,h2] at h
 exact h
theorem Ih (s p:List UInt8) (w:World) (hn:Lib.hasPrefix s p=false):Calls Tryz.prog 274 #[str s,str p] w λe w'=>e=.returned (.tuple #[str s,.bool false])∧w'=w:=by
 have h:=Tryz.strings_CutPrefix ⟨s.toArray⟩ ⟨p.toArray⟩ w
 have h2:Lib.trimPrefix s p=s:=by unfold Lib.trimPrefix;rw[if_neg (by rw[hn];simp)]
 simp only at h
 rw[hn,h2] at h
 exact h
theorem E8 (p r:List UInt8) (b:Nat) (w:World) (hc:w.cell? ⟨b,0,none⟩=some (str (p++r))) (hf:w.frozen? ⟨b,0,none⟩=false):
 Calls Tryz.prog 253 #[.pointer (some ⟨b,0,none⟩),str p] w λe w'=>e=.returned (.bool true)∧w'=w.setCell ⟨b,0,none⟩ (str r):=by
 have NF:=FH p r
 go_enter Tryz.func253,Tryz.ntmps253
 go_wp2_with (go_at_call 274;refine(NF _).mono ?_;rintro e w1 ⟨rfl,rfl⟩)
 go_ret
 exact⟨rfl,rfl⟩
theorem cL (s p:List UInt8) (b:Nat) (w:World) (hc:w.cell? ⟨b,0,none⟩=some (str s)) (hn:Lib.hasPrefix s p=false):
 Calls Tryz.prog 253 #[.pointer (some ⟨b,0,none⟩),str p] w λe w'=>e=.returned (.bool false)∧w=w':=by
 have NF:=Ih s p
 go_enter Tryz.func253,Tryz.ntmps253
 go_wp2_with (go_at_call 274;refine(NF _ hn).mono ?_;rintro e w1 ⟨rfl,rfl⟩)
 go_ret
 exact⟨rfl,rfl⟩
def dL:List PanicEntry:=[{v:=.iface 250 (.agg #[]),recovered:=false }]
theorem dS (w:World):Calls Tryz.prog 251 #[.bool true] w λe w'=>e=.returned (.tuple #[])∧w=w':=by
 go_enter Tryz.func251,Tryz.ntmps251
 go_wp2
 go_end0
 exact⟨rfl,rfl⟩
theorem fF (w:World):Calls Tryz.prog 251 #[.bool false] w λe w'=>e=.panicked dL∧w=w':=by
 go_enter Tryz.func251,Tryz.ntmps251
 go_wp2
 exact⟨rfl,rfl,rfl⟩
def wk (w:List UInt8):Nat:=
 if w=[105,110,116] then 1 else if w=[98,111,111,108] then 2 else if w=[110,117,108,108] then 3 else if w=[97,114,114,97,121,91] then 4 else if w=[114,101,99,111,114,100,91] then 5 else if w=[111,110,101,111,102,91] then 6 else 0
theorem jD (s:List UInt8) (w:World):Calls Tryz.prog 255 #[str s] w λe w'=>e=.returned (.int .u8 (wk s))∧w=w':=by
 by_cases h1:s=[105,110,116]
 · subst h1
   go_enter Tryz.func255,Tryz.ntmps255
   go_wp2
   go_ret;exact⟨rfl,rfl⟩
 by_cases h2:s=[98,111,111,108]
 · subst h2
   go_enter Tryz.func255,Tryz.ntmps255
   go_wp2
   go_ret;exact⟨rfl,rfl⟩
 by_cases h3:s=[110,117,108,108]
 · subst h3
   go_enter Tryz.func255,Tryz.ntmps255
   go_wp2
   go_ret;exact⟨rfl,rfl⟩
 by_cases h4:s=[97,114,114,97,121,91]
 · subst h4
   go_enter Tryz.func255,Tryz.ntmps255
   go_wp2
   go_ret;exact⟨rfl,rfl⟩
 by_cases h5:s=[114,101,99,111,114,100,91]
 · subst h5
   go_enter Tryz.func255,Tryz.ntmps255
   go_wp2
   go_ret;exact⟨rfl,rfl⟩
 by_cases h6:s=[111,110,101,111,102,91]
 · subst h6
   go_enter Tryz.func255,Tryz.ntmps255
   go_wp2
   go_ret;exact⟨rfl,rfl⟩
 have H:Hid (wk s=0):=by show _=_;unfold wk;rw[if_neg h1,if_neg h2,if_neg h3,if_neg h4,if_neg h5,if_neg h6]
 have g1:(s==[105,110,116])=false:=by simpa using h1
 have g2:(s==[98,111,111,108])=false:=by simpa using h2
 have g3:(s==[110,117,108,108])=false:=by simpa using h3
 have g4:(s==[97,114,114,97,121,91])=false:=by simpa using h4
 have g5:(s==[114,101,99,111,114,100,91])=false:=by simpa using h5
 have g6:(s==[111,110,101,111,102,91])=false:=by simpa using h6
 clear h1 h2 h3 h4 h5 h6
 go_enter Tryz.func255,Tryz.ntmps255
 go_wp2
 go_ret
 exact⟨by rw[H.out];rfl,rfl⟩
end Go.Proofs.YtakgjcfkdemipaaGreatDoor
