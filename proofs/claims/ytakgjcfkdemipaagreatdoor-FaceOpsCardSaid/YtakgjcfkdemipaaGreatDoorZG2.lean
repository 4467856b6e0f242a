/-
  Lemmas for the statement: contracts: the reference reads a type (argusref03.read, argusref03.parts): how many bytes and how many levels. Contracts: the reference reads a type and parts, whole (argusref03.read, argusref03.parts). Contracts: reserved words and names as the program has them (token.Words, reserved, IsWord, IsName). Conditions: bounds of lengths; the variable strings.asciiSpace.
-/
import Derived.Test.YtakgjcfkdemipaaGreatDoorZGn
import Derived.Test.YtakgjcfkdemipaaGreatDoorZG0
import Derived.Test.YtakgjcfkdemipaaGreatDoorZG1
set_option maxHeartbeats 6400000
namespace Go.Proofs.YtakgjcfkdemipaaGreatDoor
open Go.RowKit
theorem NR (v : Value) (ss : List (List UInt8)) (s : List UInt8) (w : World) (hv : Strs w v ss) :
 Calls Tryz.prog 204 #[v,str s] w λe w'=>e=.returned (.bool (hasB ss s))∧w=w':=by
 rcases hv.shape with⟨rfl,rfl⟩|⟨b,o,cap,rfl,hm,hc⟩
 · go_enter Tryz.func204,Tryz.ntmps204
   go_wp2
   refine wp_loop_rounds 1 ?_;rw[rounds_succ]
   go_wp2
   go_ret;exact⟨rfl,rfl⟩
 · unfold maxLen at hm
   go_enter Tryz.func204,Tryz.ntmps204
   go_wp2
   go_loop [5] (λi=>∃k:Nat,k≤ss.length∧hasB (ss.take k) s=false∧i=.int .i64 k) (λi=>ss.length - (intOf i).toNat)
   case atStart=>exact⟨0,by omega,xg _ _,rfl⟩
   case round =>
    obtain⟨k,hk,hn,rfl⟩:=hrel;have Hn:=Lib.hid hn;clear hn
    by_cases hlt:k<ss.length
    · have QW:=hc k hlt
      clear hc;cases he:(ss[k]==s)
      · have Hs:=Lib.hid (nu ss s k hlt Hn.out he)
        go_wp2
        go_round
        case rel=>exact⟨k+1,by omega,Hs.out,by go_num⟩
        case measure=>simp[intOf];omega
      · have Hs:=Lib.hid (An ss s k hlt he)
        go_wp2
        go_ret;exact⟨cC Hs.out.symm,rfl⟩
    · have Hs:=Lib.hid (Am ss s k hlt Hn.out)
      clear hc
      go_wp2
      go_ret;exact⟨cC Hs.out.symm,rfl⟩
set_option maxRecDepth 100000 in
theorem Gt (w:World):Calls Tryz.prog 205 #[] w λe w'=>∃v,e=.returned v∧Strs w' v eD∧Below w.heap.size w w':=by
 go_enter Tryz.func205,Tryz.ntmps205
 go_wp2
 go_ret
 exact⟨_,rfl,JO w eD 9 _ 46 (by decide),(Below.refl _ _).alloc (nl _) _⟩
theorem Bk (s:List UInt8) (w:World):Calls Tryz.prog 143 #[str s] w λe w'=>e=.returned (.bool (isWord s))∧Below w.heap.size w w':=by
 go_enter Tryz.func143,Tryz.ntmps143
 go_wp2_with fail
 refine(Gt _).mono ?_
 rintro e w1 ⟨v,rfl,hv,hb⟩
 go_wp2_with fail
 refine(NR _ _ _ _ hv).mono ?_
 rintro e w2 ⟨rfl,rfl⟩
 go_wp2_with fail
 go_ret
 exact⟨rfl,hb⟩
theorem uD (s : List UInt8) : (s = [] ∧ isName s = false) ∨ (∃ h : 0 < s.length, (12 < s.length ∧ isName s = false) ∨ (s.length ≤ 12 ∧
 (((((s[0]).toNat:Int)<97∨(122:Int)<((s[0]).toNat:Int))∧isName s=false)∨((97:Int)≤((s[0]).toNat:Int)∧((s[0]).toNat:Int)≤122∧
  ((aj s≠s.length∧isName s=false)∨(aj s=s.length∧((isWord s=true∧isName s=false)∨(isWord s=false∧isName s=true)))))))):=by
 cases s with
 | nil=>exact .inl ⟨rfl,rfl⟩
 | cons c r =>
  refine .inr ⟨by simp,?_⟩;simp only[List.getElem_cons_zero]
  by_cases h1:(c::r).length≤12
  · refine .inr ⟨h1,?_⟩
    by_cases h2:low c=true
    · have Tp:=h2
      simp only[low,Bool.and_eq_true,decide_eq_true_eq] at Tp;refine .inr ⟨by omega,by omega,?_⟩
      by_cases h3:aj (c::r)=(c::r).length
      · refine .inr ⟨h3,?_⟩
        cases h4:isWord (c::r)
        · exact .inr ⟨rfl,by simp only[isName,h1,h2,h3,h4];rfl⟩
        · exact .inl ⟨rfl,by simp only[isName,h1,h2,h3,h4];rfl⟩
      · exact .inl ⟨h3,by simp only[isName,h1,h2,h3];simp⟩
    · have Tp:=h2
      simp only[low,Bool.and_eq_true,decide_eq_true_eq] at Tp;simp only[Bool.not_eq_true] at h2;refine .inl ⟨by omega,by simp only[isName,h2];simp⟩
  · exact .inl ⟨by omega,by simp only[isName];simp at h1 ⊢;intro h;omega⟩
theorem aN (s:List UInt8) (w:World) (hl:s.length≤maxLen):Calls Tryz.prog 87 #[str s] w λe w'=>e=.returned (.bool (isName s))∧Below w.heap.size w w':=by
 have hl':=hl
 unfold maxLen at hl'
 rcases uD s with⟨rfl,hn⟩|⟨h0,⟨h1,hn⟩|⟨h1,⟨h2,hn⟩|⟨h2,h3,⟨h4,hn⟩|⟨h4,⟨h5,hn⟩|⟨h5,hn⟩⟩⟩⟩⟩
 · have HN:=Lib.hid hn
   clear hn;go_enter Tryz.func87,Tryz.ntmps87;go_wp2_with fail;go_ret;exact⟨cC HN.out.symm,Below.refl _ _⟩
 · have HN:=Lib.hid hn
   clear hn;go_enter Tryz.func87,Tryz.ntmps87;go_wp2_with fail;go_ret;exact⟨cC HN.out.symm,Below.refl _ _⟩
 · have HN:=Lib.hid hn
   clear hn;rcases h2 with h2|h2
   all_goals
    go_enter Tryz.func87,Tryz.ntmps87
    go_wp2
    go_ret;exact⟨cC HN.out.symm,Below.refl _ _⟩
 · have HN:=Lib.hid hn
   have hc:=cL s;have jF:((aj s:Int)==(s.length:Int))=false:=by simp;omega
   clear hn h4;go_enter Tryz.func87,Tryz.ntmps87;go_wp2_with (first|(go_at_call 142;refine(Ez _ _ hl).mono ?_;rintro e w1 ⟨rfl,rfl⟩)|(go_at_call 141;go_in));go_ret;exact⟨cC HN.out.symm,Below.refl _ _⟩
 all_goals
  have HN:=Lib.hid hn;have hc:=cL s;have jF:((aj s:Int)==(s.length:Int))=true:=by simp;omega
  clear hn h4;go_enter Tryz.func87,Tryz.ntmps87;go_wp2_with (first|(go_at_call 142;refine(Ez _ _ hl).mono ?_;rintro e w1 ⟨rfl,rfl⟩)|(go_at_call 141;go_in)|(go_at_call 143;refine(Bk _ _).mono ?_;rintro e w1 ⟨rfl,hb⟩));go_ret;exact⟨cC HN.out.symm,hb⟩
end Go.Proofs.YtakgjcfkdemipaaGreatDoor
namespace Go.Proofs.YtakgjcfkdemipaaGreatDoor
open Go.RowKit
def eB (s:List UInt8):Nat:=match aY s with|some (_,r)=>s.length - r.length|none=>0
def jN (s:List UInt8):Nat:=match aY s with|some (t,_)=>t.level|none=>0
def l9 (m L:Nat) (b s:List UInt8):Option (List UInt8×Nat):=
 match dc b s with|some (fo,93::r)=>if fo.len≤m then some (r,max L fo.level) else none|_=>none
def wG (s:List UInt8):Nat:=match l9 6 0 [] s with|some (r,_)=>s.length - r.length|none=>0
def Bf (s:List UInt8):Nat:=match l9 6 0 [] s with|some (_,l)=>l|none=>0
def iZ (s:List UInt8):Prop:=∀(deep:Int) (w:World),0≤deep→2 * deep+s.length≤200→
 Calls Tryz.prog 140 #[str s,.int .i64 deep] w λe w'=>e=.returned (.tuple #[.int .i64 (eB s),.int .i64 (jN s)])∧Below w.heap.size w w'
def yE (s:List UInt8):Prop:=∀(deep:Int) (w:World),0≤deep→2 * deep+s.length≤200→
 Calls Tryz.prog 202 #[str s,.int .i64 deep] w λe w'=>e=.returned (.tuple #[.int .i64 (wG s),.int .i64 (Bf s)])∧Below w.heap.size w w'
theorem b8 {a b c d:Nat} (h:a=c) (h':b=d):Ending.returned (.tuple #[.int .i64 a,.int .i64 b])=.returned (.tuple #[.int .i64 c,.int .i64 d]):=by rw[h,h']
theorem jt {α:Type} [BEq α] [LawfulBEq α] {a b:α} (h:a≠b):(a==b)=false:=by simpa using h
theorem j8 {s:List UInt8} (h:eA s):List.take 2 s≠[63,116]:=by
 intro e
 match s,e with
 | [],e=>simp at e
 | [a],e=>simp at e
 | a::b::r,e=>simp at e;obtain⟨rfl,rfl⟩:=e;exact h r rfl
theorem behind (s:List UInt8):(s.length=aj s∧s.drop (aj s)=[])∨(∃h:aj s<s.length,s.drop (aj s)=s[aj s]::s.drop (aj s+1)):=by
 have:=cL s
 by_cases h:aj s<s.length
 · exact .inr ⟨h,List.drop_eq_getElem_cons h⟩
 · exact .inl ⟨by omega,List.drop_of_length_le (by omega)⟩
theorem F0 (s:List UInt8) (hp:eA s) (h0:di (s.take (aj s))≠0):iZ s:=by
 intro deep w Kc hd
 have hm:s.length≤maxLen:=by unfold maxLen;omega
 have e:=nH hp h0
 have hN:eB s=aj s:=by
  unfold eB;rw[e];simp;have:=cL s;omega
 have hL:jN s=1:=by unfold jN;rw[e];rfl
 have HN:=Lib.hid hN
 have HL:=Lib.hid hL
 clear hN hL e
 have h2:=jt (j8 hp)
 have uf:=cL s
 have hw : s.take (aj s) = cU ∨ s.take (aj s) = aX ∨ s.take (aj s) = lH := by
  unfold di at h0
  by_cases h1:s.take (aj s)=cU
  · exact .inl h1
  · by_cases h2:s.take (aj s)=aX
    · exact .inr (.inl h2)
    · by_cases h3:s.take (aj s)=lH
      · exact .inr (.inr h3)
      · simp[h1,h2,h3] at h0
 clear hp h0
 by_cases hl:2≤s.length
 all_goals
  rcases hw with hw|hw|hw
  all_goals
   first |unfold cU at hw|unfold aX at hw|unfold lH at hw
   go_enter Tryz.func140,Tryz.ntmps140;go_wp2_with (go_at_call 162;refine(bz _ _ hm).mono ?_;rintro e w1 ⟨rfl,rfl⟩);go_ret2;exact⟨b8 HN.out.symm HL.out.symm,Below.refl _ _⟩
theorem si {w:List UInt8} (h0:di w=0):(w==[105,110,116])=false∧(w==[98,111,111,108])=false∧(w==[110,117,108,108])=false:=by
 unfold di at h0
 refine⟨jt λe=>?_,jt λe=>?_,jt λe=>?_⟩
 · rw[if_pos (show w=cU from e)] at h0;omega
 · rw[if_neg (by rw[e];decide),if_pos (show w=aX from e)] at h0;omega
 · rw[if_neg (by rw[e];decide),if_neg (by rw[e];decide),if_pos (show w=lH from e)] at h0;omega
theorem eV {w:List UInt8}:(bD w=4∧w=[97,114,114,97,121])∨(bD w=5∧w=[114,101,99,111,114,100])∨(bD w=6∧w=[111,110,101,111,102])∨
 (bD w=0∧(w==[97,114,114,97,121])=false∧(w==[114,101,99,111,114,100])=false∧(w==[111,110,101,111,102])=false):=by
 unfold bD
 by_cases h1:w=fT
 · exact .inl ⟨by rw[if_pos h1],h1⟩
 · by_cases h2:w=fP
   · exact .inr (.inl ⟨by rw[if_neg h1,if_pos h2],h2⟩)
   · by_cases h3:w=gV
     · exact .inr (.inr (.inl ⟨by rw[if_neg h1,if_neg h2,if_pos h3],h3⟩))
     · exact .inr (.inr (.inr ⟨by rw[if_neg h1,if_neg h2,if_neg h3],jt h1,jt h2,jt h3⟩))
theorem iQ {s:List UInt8} (h:l9 6 0 [] s=none):wG s=0∧Bf s=0:=by unfold wG Bf;rw[h];exact⟨rfl,rfl⟩
theorem Bg {s r:List UInt8} {l:Nat} (h:l9 6 0 [] s=some (r,l)):wG s=s.length - r.length∧Bf s=l∧r.length+1<s.length:=by
 refine⟨by unfold wG;rw[h],by unfold Bf;rw[h],?_⟩
 unfold l9 at h
 split at h
 · rename_i fo r' e
   split at h
   · simp only[Option.some.injEq,Prod.mk.injEq] at h
     have:=FM e;simp at this;rw[←h.1];omega
   · simp at h
 · simp at h
theorem N1 {s s2:List UInt8} (hp:eA s) (h0:di (s.take (aj s))=0) (hk:bD (s.take (aj s))=5∨bD (s.take (aj s))=6) (hb:s.drop (aj s)=91::s2):
 (wG s2=0∧eB s=0∧jN s=0)∨(0<wG s2∧eB s=aj s+1+wG s2∧jN s=Bf s2+1):=by
 have e:=pX hp h0 hk hb
 have hl:s.length=aj s+1+s2.length:=by
  have:=congrArg List.length hb;simp at this;have:=cL s;omega
 cases hq:l9 6 0 [] s2 with
 | none=>
  refine .inl ⟨(iQ hq).1,?_⟩;have:aY s=none:=by
   rw[e];unfold l9 at hq;split at hq
   · rename_i fo r e2
     rw[e2];split at hq
     · simp at hq
     · rename_i h6;simp only[h6,if_false]
   · rename_i h3
     split
     · rename_i fo r e2;exact absurd e2 (h3 fo r)
     · rfl
  unfold eB jN;rw[this];exact⟨rfl,rfl⟩
 | some x=>
  obtain⟨r,l⟩:=x;obtain⟨h1,h2,h3⟩:=Bg hq;refine .inr ⟨by omega,?_⟩;have:∃fo,aY s=some (⟨bD (s.take (aj s)),s.take (aj s),fo⟩,r)∧fo.level=l:=by
   rw[e];unfold l9 at hq;split at hq
   · rename_i fo r' e2
     rw[e2];split at hq
     · rename_i h6
       simp only[Option.some.injEq,Prod.mk.injEq] at hq;obtain⟨rfl,rfl⟩:=hq;simp only[h6,if_true];exact⟨fo,rfl,by simp⟩
     · simp at hq
   · simp at hq
  obtain⟨fo,e2,rfl⟩:=this;unfold eB jN;rw[e2,h1,h2];exact⟨by simp;omega,rfl⟩
theorem N0 (s:List UInt8):wG s≤s.length:=by unfold wG;split<;>omega
theorem NZ (s:List UInt8):Bf s≤s.length:=by
 unfold Bf l9
 split
 · rename_i r l h
   split at h
   · rename_i fo r' e
     split at h
     · simp only[Option.some.injEq,Prod.mk.injEq] at h
       have:=tU _ _ _ _ _ e;simp at this;omega
     · simp at h
   · simp at h
 · omega
theorem zg (s:List UInt8):eB s≤s.length:=by unfold eB;split<;>omega
theorem Dt (s:List UInt8):jN s≤s.length:=by
 unfold jN
 split
 · rename_i t r h
   have:=tU (s.length+1) none s (.one t) r (by rw[jf (by omega),h];rfl);simp[Fo.one,Fo.level,Tr.level] at this ⊢;omega
 · omega
theorem qR {s:List UInt8} {a b:UInt8} {r:List UInt8} (h:s.take (aj s)=a::b::r):2≤s.length:=by
 have:=congrArg List.length h
 simp at this
 omega
theorem qQ {s:List UInt8} {a b:UInt8} {r:List UInt8} (h:s.take (aj s)=a::b::r):1≤aj s:=by
 have:=congrArg List.length h
 simp at this
 omega
theorem Bo (s:List UInt8) (hp:eA s) (h0:di (s.take (aj s))=0) (hk:bD (s.take (aj s))=5∨bD (s.take (aj s))=6)
 (ih:∀s',s'.length<s.length→yE s'):iZ s:=by
 intro deep w Kc hd
 have hm:s.length≤maxLen:=by unfold maxLen;omega
 have h2:=jt (j8 hp)
 have uf:=cL s
 rcases behind s with⟨hb,aA⟩|⟨hb,aA⟩
 · have e:=jq hp h0 hk (by rw[aA];intro r;simp)
   have HN:Hid (eB s=0):=by show _=_;unfold eB;rw[e]
   have HL:Hid (jN s=0):=by show _=_;unfold jN;rw[e]
   clear hp h0 e aA ih;have hb':¬aj s<s.length:=by omega
   clear hb;rcases eV (w:=s.take (aj s)) with⟨k1,k2⟩|⟨k1,k2⟩|⟨k1,k2⟩|⟨k1,k2⟩
   · omega
   · clear hk k1
     have hl:=qR k2;have Av:=qQ k2;go_enter Tryz.func140,Tryz.ntmps140;go_wp2_with (go_at_call 162;refine(bz _ _ hm).mono ?_;rintro e w1 ⟨rfl,rfl⟩);go_ret2;exact⟨b8 HN.out.symm HL.out.symm,Below.refl _ _⟩
   · clear hk k1
     have hl:=qR k2;have Av:=qQ k2;go_enter Tryz.func140,Tryz.ntmps140;go_wp2_with (go_at_call 162;refine(bz _ _ hm).mono ?_;rintro e w1 ⟨rfl,rfl⟩);go_ret2;exact⟨b8 HN.out.symm HL.out.symm,Below.refl _ _⟩
   · omega
 · by_cases hc:s[aj s]=91
   · rw [hc] at aA
     have hr:=N1 hp h0 hk aA;have hs2:(s.drop (aj s+1)).length=s.length - (aj s+1):=by simp
     have HS:=Lib.hid hs2;have Np:(((s[aj s]).toNat:Int)==91)=true:=by rw[hc];rfl
     clear hp h0 aA hc hs2;have hq:(aj s:Int)<(s.length:Int):=by omega
     rcases hr with⟨hz,hN,hL⟩|⟨hz,hN,hL⟩
     · have HN:=Lib.hid hN
       have HL:=Lib.hid hL;have IG:((wG (s.drop (aj s+1)):Int)==0)=true:=by simp[hz]
       clear hN hL hz;rcases eV (w:=s.take (aj s)) with⟨k1,k2⟩|⟨k1,k2⟩|⟨k1,k2⟩|⟨k1,k2⟩
       · omega
       · clear hk k1
         have hl:=qR k2;have Av:=qQ k2;go_enter Tryz.func140,Tryz.ntmps140;go_wp2_with (first|(go_at_call 162;refine(bz _ _ hm).mono ?_;rintro e w1 ⟨rfl,rfl⟩)|(go_at_call 202;refine(ih _ (by rw[HS.out];omega) _ _ (by omega) (by rw[HS.out];omega)).mono ?_;rintro e w1 ⟨rfl,ay⟩));go_ret2;exact⟨b8 HN.out.symm HL.out.symm,ay⟩
       · clear hk k1
         have hl:=qR k2;have Av:=qQ k2;go_enter Tryz.func140,Tryz.ntmps140;go_wp2_with (first|(go_at_call 162;refine(bz _ _ hm).mono ?_;rintro e w1 ⟨rfl,rfl⟩)|(go_at_call 202;refine(ih _ (by rw[HS.out];omega) _ _ (by omega) (by rw[HS.out];omega)).mono ?_;rintro e w1 ⟨rfl,ay⟩));go_ret2;exact⟨b8 HN.out.symm HL.out.symm,ay⟩
       · omega
     · have HN:=Lib.hid hN
       have HL:=Lib.hid hL;have IG:((wG (s.drop (aj s+1)):Int)==0)=false:=by simp;omega
       have hbd:=N0 (s.drop (aj s+1));have GC:=NZ (s.drop (aj s+1));rw[HS.out] at hbd GC;clear hN hL hz;rcases eV (w:=s.take (aj s)) with⟨k1,k2⟩|⟨k1,k2⟩|⟨k1,k2⟩|⟨k1,k2⟩
       · omega
       · clear hk k1
         have hl:=qR k2;have Av:=qQ k2;go_enter Tryz.func140,Tryz.ntmps140;go_wp2_with (first|(go_at_call 162;refine(bz _ _ hm).mono ?_;rintro e w1 ⟨rfl,rfl⟩)|(go_at_call 202;refine(ih _ (by rw[HS.out];omega) _ _ (by omega) (by rw[HS.out];omega)).mono ?_;rintro e w1 ⟨rfl,ay⟩));go_ret2;exact⟨b8 HN.out.symm HL.out.symm,ay⟩
       · clear hk k1
         have hl:=qR k2;have Av:=qQ k2;go_enter Tryz.func140,Tryz.ntmps140;go_wp2_with (first|(go_at_call 162;refine(bz _ _ hm).mono ?_;rintro e w1 ⟨rfl,rfl⟩)|(go_at_call 202;refine(ih _ (by rw[HS.out];omega) _ _ (by omega) (by rw[HS.out];omega)).mono ?_;rintro e w1 ⟨rfl,ay⟩));go_ret2;exact⟨b8 HN.out.symm HL.out.symm,ay⟩
       · omega
   · have e:=jq hp h0 hk (by intro r e;rw[aA] at e;injection e with e1 _;exact hc e1)
     have HN:Hid (eB s=0):=by show _=_;unfold eB;rw[e]
     have HL:Hid (jN s=0):=by show _=_;unfold jN;rw[e]
     have Np:(((s[aj s]).toNat:Int)==91)=false:=by
      rw[beq_eq_false_iff_ne];intro h;exact hc (UInt8.toNat_inj.1 (by simp;omega))
     have hq:(aj s:Int)<(s.length:Int):=by omega
     clear hp h0 e aA ih hc;rcases eV (w:=s.take (aj s)) with⟨k1,k2⟩|⟨k1,k2⟩|⟨k1,k2⟩|⟨k1,k2⟩
     · omega
     · clear hk k1
       have hl:=qR k2;have Av:=qQ k2;go_enter Tryz.func140,Tryz.ntmps140;go_wp2_with (go_at_call 162;refine(bz _ _ hm).mono ?_;rintro e w1 ⟨rfl,rfl⟩);go_ret2;exact⟨b8 HN.out.symm HL.out.symm,Below.refl _ _⟩
     · clear hk k1
       have hl:=qR k2;have Av:=qQ k2;go_enter Tryz.func140,Tryz.ntmps140;go_wp2_with (go_at_call 162;refine(bz _ _ hm).mono ?_;rintro e w1 ⟨rfl,rfl⟩);go_ret2;exact⟨b8 HN.out.symm HL.out.symm,Below.refl _ _⟩
     · omega
theorem Js {s s2:List UInt8} (hp:eA s) (h0:di (s.take (aj s))=0) (hk:bD (s.take (aj s))=4∨(bD (s.take (aj s))=0∧isName (s.take (aj s))=true)) (hb:s.drop (aj s)=91::s2):
 (eB s2=0∧eB s=0∧jN s=0)∨(0<eB s2∧s.length≤aj s+1+eB s2∧eB s=0∧jN s=0)∨
 (0<eB s2∧∃h:aj s+1+eB s2<s.length,s[aj s+1+eB s2]≠93∧eB s=0∧jN s=0)∨
 (0<eB s2∧∃h:aj s+1+eB s2<s.length,s[aj s+1+eB s2]=93∧eB s=aj s+eB s2+2∧jN s=jN s2+1):=by
 have e:=kg hp h0 hk hb
 have hl:s.length=aj s+1+s2.length:=by
  have:=congrArg List.length hb;simp at this;have:=cL s;omega
 have hs2:s.drop (aj s+1)=s2:=by rw[←List.drop_drop,hb];rfl
 cases hq:aY s2 with
 | none=>
  rw[hq] at e;refine .inl ⟨by unfold eB;rw[hq],by unfold eB;rw[e],by unfold jN;rw[e]⟩
 | some x=>
  obtain⟨t,r⟩:=x;have hr:=iF hq;have hdr:=sA hq;have hn:eB s2=s2.length - r.length:=by unfold eB;rw[hq]
  have hL:jN s2=t.level:=by unfold jN;rw[hq]
  rw[hq] at e;have U0:s.drop (aj s+1+eB s2)=r:=by rw[←List.drop_drop,hs2,hn,hdr]
  cases r with
  | nil=>
   refine .inr (.inl ⟨by omega,by simp at hn;omega,by unfold eB;rw[e],by unfold jN;rw[e]⟩)
  | cons c r =>
   simp only[List.length_cons] at hn hr;have hlt:aj s+1+eB s2<s.length:=by omega
   have KQ:s[aj s+1+eB s2]=c:=by
    have:=List.drop_eq_getElem_cons hlt;rw[U0] at this;injection this with h1 _;exact h1.symm
   by_cases hc:c=93
   · subst hc
     refine .inr (.inr (.inr ⟨by omega,hlt,KQ,?_,?_⟩))
     · unfold eB at *;rw[e];simp only;omega
     · rw[hL];unfold jN;rw[e];simp[Tr.level,Fo.one,Fo.level]
   · refine .inr (.inr (.inl ⟨by omega,hlt,by rw[KQ];exact hc,?_,?_⟩))
     · unfold eB;rw[e];split
       · rename_i h;split at h
         · rename_i h2;simp only[Option.some.injEq,Prod.mk.injEq,List.cons.injEq] at h2;exact absurd h2.2.1 hc
         · simp at h
       · rfl
     · unfold jN;rw[e];split
       · rename_i h;split at h
         · rename_i h2;simp only[Option.some.injEq,Prod.mk.injEq,List.cons.injEq] at h2;exact absurd h2.2.1 hc
         · simp at h
       · rfl
theorem uE {w:List UInt8} (h:isName w=true):1≤w.length:=by
 cases w with
 | nil=>simp[isName] at h
 | cons=>simp
theorem Jt (s : List UInt8) (hp : eA s) (h0 : di (s.take (aj s)) = 0) (hk : bD (s.take (aj s)) = 4)
 (ih:∀s',s'.length<s.length→iZ s'):iZ s:=by
 intro deep w Kc hd
 have hm:s.length≤maxLen:=by unfold maxLen;omega
 have h2:=jt (j8 hp)
 have uf:=cL s
 have k2:s.take (aj s)=[97,114,114,97,121]:=by
  rcases eV (w:=s.take (aj s)) with⟨k1,k2⟩|⟨k1,k2⟩|⟨k1,k2⟩|⟨k1,k2⟩
  · exact k2
  all_goals omega
 have hl:=qR k2
 have Av:=qQ k2
 rcases behind s with⟨hb,aA⟩|⟨hb,aA⟩
 · have e:=kQ hp h0 hk (by rw[aA];intro r;simp)
   have HN:Hid (eB s=0):=by show _=_;unfold eB;rw[e]
   have HL:Hid (jN s=0):=by show _=_;unfold jN;rw[e]
   clear hp h0 e aA ih hk;have hb':¬aj s<s.length:=by omega
   clear hb;go_enter Tryz.func140,Tryz.ntmps140;go_wp2_with (go_at_call 162;refine(bz _ _ hm).mono ?_;rintro e w1 ⟨rfl,rfl⟩);go_ret2;exact⟨b8 HN.out.symm HL.out.symm,Below.refl _ _⟩
 · by_cases hc:s[aj s]=91
   · rw [hc] at aA
     have hr:=Js hp h0 (.inl hk) aA;have hs2:(s.drop (aj s+1)).length=s.length - (aj s+1):=by simp
     have HS:=Lib.hid hs2;have UX:=zg (s.drop (aj s+1));have hrl:=Dt (s.drop (aj s+1));rw[hs2] at UX hrl;have Np:(((s[aj s]).toNat:Int)==91)=true:=by rw[hc];rfl
     clear hp h0 aA hc hs2 hk;have hq:(aj s:Int)<(s.length:Int):=by omega
     rcases hr with⟨hz,hN,hL⟩|⟨hz,hz2,hN,hL⟩|⟨hz,hz2,CR,hN,hL⟩|⟨hz,hz2,CR,hN,hL⟩
     · have HN:=Lib.hid hN
       have HL:=Lib.hid hL;have IG:((eB (s.drop (aj s+1)):Int)==0)=true:=by simp[hz]
       clear hN hL hz;go_enter Tryz.func140,Tryz.ntmps140;go_wp2_with (first|(go_at_call 162;refine(bz _ _ hm).mono ?_;rintro e w1 ⟨rfl,rfl⟩)|(go_at_call 140;refine(ih _ (by rw[HS.out];omega) _ _ (by omega) (by rw[HS.out];omega)).mono ?_;rintro e w2 ⟨rfl,aK⟩));go_ret2;exact⟨b8 HN.out.symm HL.out.symm,aK⟩
     · have HN:=Lib.hid hN
       have HL:=Lib.hid hL;have IG:((eB (s.drop (aj s+1)):Int)==0)=false:=by simp;omega
       clear hN hL hz;go_enter Tryz.func140,Tryz.ntmps140;go_wp2_with (first|(go_at_call 162;refine(bz _ _ hm).mono ?_;rintro e w1 ⟨rfl,rfl⟩)|(go_at_call 140;refine(ih _ (by rw[HS.out];omega) _ _ (by omega) (by rw[HS.out];omega)).mono ?_;rintro e w2 ⟨rfl,aK⟩));go_ret2;exact⟨b8 HN.out.symm HL.out.symm,aK⟩
     · have HN:=Lib.hid hN
       have HL:=Lib.hid hL;have IG:((eB (s.drop (aj s+1)):Int)==0)=false:=by simp;omega
       have RG:(((s[aj s+1+eB (s.drop (aj s+1))]).toNat:Int) != 93)=true:=by
        rw[bne_iff_ne];intro h;exact CR (UInt8.toNat_inj.1 (by simp;omega))
       clear hN hL hz CR;go_enter Tryz.func140,Tryz.ntmps140;go_wp2_with (first|(go_at_call 162;refine(bz _ _ hm).mono ?_;rintro e w1 ⟨rfl,rfl⟩)|(go_at_call 140;refine(ih _ (by rw[HS.out];omega) _ _ (by omega) (by rw[HS.out];omega)).mono ?_;rintro e w2 ⟨rfl,aK⟩));go_ret2;exact⟨b8 HN.out.symm HL.out.symm,aK⟩
     · have HN:=Lib.hid hN
       have HL:=Lib.hid hL;have IG:((eB (s.drop (aj s+1)):Int)==0)=false:=by simp;omega
       have RG:(((s[aj s+1+eB (s.drop (aj s+1))]).toNat:Int) != 93)=false:=by rw[CR];rfl
       clear hN hL hz CR;go_enter Tryz.func140,Tryz.ntmps140;go_wp2_with (first|(go_at_call 162;refine(bz _ _ hm).mono ?_;rintro e w1 ⟨rfl,rfl⟩)|(go_at_call 140;refine(ih _ (by rw[HS.out];omega) _ _ (by omega) (by rw[HS.out];omega)).mono ?_;rintro e w2 ⟨rfl,aK⟩));go_ret2;exact⟨b8 HN.out.symm HL.out.symm,aK⟩
   · have e:=kQ hp h0 hk (by intro r e;rw[aA] at e;injection e with e1 _;exact hc e1)
     have HN:Hid (eB s=0):=by show _=_;unfold eB;rw[e]
     have HL:Hid (jN s=0):=by show _=_;unfold jN;rw[e]
     have Np:(((s[aj s]).toNat:Int)==91)=false:=by
      rw[beq_eq_false_iff_ne];intro h;exact hc (UInt8.toNat_inj.1 (by simp;omega))
     have hq:(aj s:Int)<(s.length:Int):=by omega
     clear hp h0 e aA ih hc hk;go_enter Tryz.func140,Tryz.ntmps140;go_wp2_with (go_at_call 162;refine(bz _ _ hm).mono ?_;rintro e w1 ⟨rfl,rfl⟩);go_ret2;exact⟨b8 HN.out.symm HL.out.symm,Below.refl _ _⟩
theorem FZ (s : List UInt8) (hp : eA s) (h0 : di (s.take (aj s)) = 0) (hk : bD (s.take (aj s)) = 0) (hn : isName (s.take (aj s)) = true)
 (ih:∀s',s'.length<s.length→iZ s'):iZ s:=by
 intro deep w Kc hd
 have hm:s.length≤maxLen:=by unfold maxLen;omega
 have h2:=jt (j8 hp)
 have uf:=cL s
 have HW:Hid ((s.take (aj s)).length=aj s):=by show _=_;simp;omega
 have h4:(s.take (aj s)==[97,114,114,97,121])=false∧(s.take (aj s)==[114,101,99,111,114,100])=false∧(s.take (aj s)==[111,110,101,111,102])=false:=by
  rcases eV (w:=s.take (aj s)) with⟨k1,k2⟩|⟨k1,k2⟩|⟨k1,k2⟩|⟨k1,k2⟩
  all_goals first|omega|exact k2
 obtain⟨h4,h5,h6⟩:=h4
 obtain⟨f1,f2,f3⟩:=si h0
 have Av:1≤aj s:=by have:=uE hn;rw[HW.out] at this;exact this
 rcases behind s with⟨hb,aA⟩|⟨hb,aA⟩
 · have e:=kJ hp h0 hk hn (by rw[aA];intro r;simp)
   have HN:Hid (eB s=aj s):=by show _=_;unfold eB;rw[e];simp;omega
   have HL:Hid (jN s=1):=by show _=_;unfold jN;rw[e];rfl
   clear hp h0 e aA ih hk;have hb':¬aj s<s.length:=by omega
   clear hb
   by_cases hl:2≤s.length
   all_goals
    go_enter Tryz.func140,Tryz.ntmps140;go_wp2_with (first|(go_at_call 162;refine(bz _ _ hm).mono ?_;rintro e w1 ⟨rfl,rfl⟩)|(go_at_call 87;refine(aN _ _ (by rw[HW.out];omega)).mono ?_;rintro e w1 ⟨rfl,ay⟩));go_ret2;exact⟨b8 HN.out.symm HL.out.symm,ay⟩
 · by_cases hc:s[aj s]=91
   · rw [hc] at aA
     have hr:=Js hp h0 (.inr ⟨hk,hn⟩) aA;have hs2:(s.drop (aj s+1)).length=s.length - (aj s+1):=by simp
     have HS:=Lib.hid hs2;have UX:=zg (s.drop (aj s+1));have hrl:=Dt (s.drop (aj s+1));rw[hs2] at UX hrl;have Np:(((s[aj s]).toNat:Int)==91)=true:=by rw[hc];rfl
     clear hp h0 aA hc hs2 hk;have hq:(aj s:Int)<(s.length:Int):=by omega
     rcases hr with⟨hz,hN,hL⟩|⟨hz,hz2,hN,hL⟩|⟨hz,hz2,CR,hN,hL⟩|⟨hz,hz2,CR,hN,hL⟩
     · have HN:=Lib.hid hN
       have HL:=Lib.hid hL;have IG:((eB (s.drop (aj s+1)):Int)==0)=true:=by simp[hz]
       clear hN hL hz;have hl:2≤s.length:=by omega
       go_enter Tryz.func140,Tryz.ntmps140;go_wp2_with (first|(go_at_call 162;refine(bz _ _ hm).mono ?_;rintro e w1 ⟨rfl,rfl⟩)|(go_at_call 87;refine(aN _ _ (by rw[HW.out];omega)).mono ?_;rintro e w1 ⟨rfl,ay⟩)|(go_at_call 140;refine(ih _ (by rw[HS.out];omega) _ _ (by omega) (by rw[HS.out];omega)).mono ?_;rintro e w2 ⟨rfl,aK⟩));go_ret2;exact⟨b8 HN.out.symm HL.out.symm,ay.trans (aK.mono ay.size)⟩
     · have HN:=Lib.hid hN
       have HL:=Lib.hid hL;have IG:((eB (s.drop (aj s+1)):Int)==0)=false:=by simp;omega
       clear hN hL hz;have hl:2≤s.length:=by omega
       go_enter Tryz.func140,Tryz.ntmps140;go_wp2_with (first|(go_at_call 162;refine(bz _ _ hm).mono ?_;rintro e w1 ⟨rfl,rfl⟩)|(go_at_call 87;refine(aN _ _ (by rw[HW.out];omega)).mono ?_;rintro e w1 ⟨rfl,ay⟩)|(go_at_call 140;refine(ih _ (by rw[HS.out];omega) _ _ (by omega) (by rw[HS.out];omega)).mono ?_;rintro e w2 ⟨rfl,aK⟩));go_ret2;exact⟨b8 HN.out.symm HL.out.symm,ay.trans (aK.mono ay.size)⟩
     · have HN:=Lib.hid hN
       have HL:=Lib.hid hL;have IG:((eB (s.drop (aj s+1)):Int)==0)=false:=by simp;omega
       have RG:(((s[aj s+1+eB (s.drop (aj s+1))]).toNat:Int) != 93)=true:=by
        rw[bne_iff_ne];intro h;exact CR (UInt8.toNat_inj.1 (by simp;omega))
       clear hN hL hz CR;have hl:2≤s.length:=by omega
       go_enter Tryz.func140,Tryz.ntmps140;go_wp2_with (first|(go_at_call 162;refine(bz _ _ hm).mono ?_;rintro e w1 ⟨rfl,rfl⟩)|(go_at_call 87;refine(aN _ _ (by rw[HW.out];omega)).mono ?_;rintro e w1 ⟨rfl,ay⟩)|(go_at_call 140;refine(ih _ (by rw[HS.out];omega) _ _ (by omega) (by rw[HS.out];omega)).mono ?_;rintro e w2 ⟨rfl,aK⟩));go_ret2;exact⟨b8 HN.out.symm HL.out.symm,ay.trans (aK.mono ay.size)⟩
     · have HN:=Lib.hid hN
       have HL:=Lib.hid hL;have IG:((eB (s.drop (aj s+1)):Int)==0)=false:=by simp;omega
       have RG:(((s[aj s+1+eB (s.drop (aj s+1))]).toNat:Int) != 93)=false:=by rw[CR];rfl
       clear hN hL hz CR;have hl:2≤s.length:=by omega
       go_enter Tryz.func140,Tryz.ntmps140;go_wp2_with (first|(go_at_call 162;refine(bz _ _ hm).mono ?_;rintro e w1 ⟨rfl,rfl⟩)|(go_at_call 87;refine(aN _ _ (by rw[HW.out];omega)).mono ?_;rintro e w1 ⟨rfl,ay⟩)|(go_at_call 140;refine(ih _ (by rw[HS.out];omega) _ _ (by omega) (by rw[HS.out];omega)).mono ?_;rintro e w2 ⟨rfl,aK⟩));go_ret2;exact⟨b8 HN.out.symm HL.out.symm,ay.trans (aK.mono ay.size)⟩
   · have e:=kJ hp h0 hk hn (by intro r e;rw[aA] at e;injection e with e1 _;exact hc e1)
     have HN:Hid (eB s=aj s):=by show _=_;unfold eB;rw[e];simp;omega
     have HL:Hid (jN s=1):=by show _=_;unfold jN;rw[e];rfl
     have Np:(((s[aj s]).toNat:Int)==91)=false:=by
      rw[beq_eq_false_iff_ne];intro h;exact hc (UInt8.toNat_inj.1 (by simp;omega))
     have hq:(aj s:Int)<(s.length:Int):=by omega
     clear hp h0 e aA ih hc hk;have hl:2≤s.length:=by omega
     go_enter Tryz.func140,Tryz.ntmps140;go_wp2_with (first|(go_at_call 162;refine(bz _ _ hm).mono ?_;rintro e w1 ⟨rfl,rfl⟩)|(go_at_call 87;refine(aN _ _ (by rw[HW.out];omega)).mono ?_;rintro e w1 ⟨rfl,ay⟩));go_ret2;exact⟨b8 HN.out.symm HL.out.symm,ay⟩
theorem Ju (s:List UInt8) (hp:eA s) (h0:di (s.take (aj s))=0) (hk:bD (s.take (aj s))=0) (hn:isName (s.take (aj s))=false):iZ s:=by
 intro deep w Kc hd
 have hm:s.length≤maxLen:=by unfold maxLen;omega
 have h2:=jt (j8 hp)
 have uf:=cL s
 have HW:Hid ((s.take (aj s)).length=aj s):=by show _=_;simp;omega
 have h4:(s.take (aj s)==[97,114,114,97,121])=false∧(s.take (aj s)==[114,101,99,111,114,100])=false∧(s.take (aj s)==[111,110,101,111,102])=false:=by
  rcases eV (w:=s.take (aj s)) with⟨k1,k2⟩|⟨k1,k2⟩|⟨k1,k2⟩|⟨k1,k2⟩
  all_goals first|omega|exact k2
 obtain⟨h4,h5,h6⟩:=h4
 obtain⟨f1,f2,f3⟩:=si h0
 have e:=uQ hp h0 hk hn
 have HN:Hid (eB s=0):=by show _=_;unfold eB;rw[e]
 have HL:Hid (jN s=0):=by show _=_;unfold jN;rw[e]
 clear hp h0 e hk
 by_cases hl:2≤s.length
 all_goals
  go_enter Tryz.func140,Tryz.ntmps140;go_wp2_with (first|(go_at_call 162;refine(bz _ _ hm).mono ?_;rintro e w1 ⟨rfl,rfl⟩)|(go_at_call 87;refine(aN _ _ (by rw[HW.out];omega)).mono ?_;rintro e w1 ⟨rfl,ay⟩))
  all_goals
   go_ret2;exact⟨b8 HN.out.symm HL.out.symm,ay⟩
theorem Du (r:List UInt8):iZ (63::116::r):=by
 intro deep w Kc hd
 simp only[List.length_cons] at hd
 have e:=l8 r
 have HN:Hid (eB (63::116::r)=2):=by show _=_;unfold eB;rw[e];simp;omega
 have HL:Hid (jN (63::116::r)=1):=by show _=_;unfold jN;rw[e];rfl
 clear e
 go_enter Tryz.func140,Tryz.ntmps140
 go_wp2_with fail
 go_ret2
 exact⟨b8 HN.out.symm HL.out.symm,Below.refl _ _⟩
theorem ya (s:List UInt8) (WV:∀s',s'.length<s.length→yE s') (ih:∀s',s'.length<s.length→iZ s'):iZ s:=by
 by_cases hp:eA s
 · by_cases h0:di (s.take (aj s))=0
   · rcases eV (w:=s.take (aj s)) with⟨k1,_⟩|⟨k1,_⟩|⟨k1,_⟩|⟨k1,_⟩
     · exact Jt s hp h0 k1 ih
     · exact Bo s hp h0 (.inl k1) WV
     · exact Bo s hp h0 (.inr k1) WV
     · cases hn:isName (s.take (aj s))
       · exact Ju s hp h0 k1 hn
       · exact FZ s hp h0 k1 hn ih
   · exact F0 s hp h0
 · unfold eA at hp
   simp only[ne_eq,Classical.not_forall,Decidable.not_not] at hp;obtain⟨r',rfl⟩:=hp;exact Du r'
end Go.Proofs.YtakgjcfkdemipaaGreatDoor
namespace Go.Proofs.YtakgjcfkdemipaaGreatDoor
open Go.RowKit
theorem Jg (L:Nat) (b u:List UInt8):l9 0 L b u=none:=by
 unfold l9
 split
 · rename_i fo r e
   have:=Dk e;rw[if_neg (by omega)]
 · rfl
theorem jA {m L:Nat} {b u:List UInt8} (h:dc b u=none):l9 m L b u=none:=by unfold l9;rw[h]
theorem Jh (m L:Nat) (b u:List UInt8) (hm:1≤m):
 (isName (u.take (aj u))=false∧l9 m L b u=none)∨
 (isName (u.take (aj u))=true∧Op.bytesLess b (u.take (aj u))=false∧l9 m L b u=none)∨
 (isName (u.take (aj u))=true∧Op.bytesLess b (u.take (aj u))=true∧u.length≤aj u∧l9 m L b u=none)∨
 (isName (u.take (aj u))=true∧Op.bytesLess b (u.take (aj u))=true∧∃h:aj u<u.length,u[aj u]≠58∧l9 m L b u=none)∨
 (isName (u.take (aj u))=true∧Op.bytesLess b (u.take (aj u))=true∧∃h:aj u<u.length,u[aj u]=58∧
  ((eB (u.drop (aj u + 1)) = 0 ∧ l9 m L b u = none) ∨
   (0<eB (u.drop (aj u+1))∧u.length≤aj u+1+eB (u.drop (aj u+1))∧l9 m L b u=none)∨
   (0<eB (u.drop (aj u+1))∧∃h2:aj u+1+eB (u.drop (aj u+1))<u.length,
    ((u[aj u+1+eB (u.drop (aj u+1))]=93∧l9 m L b u=some (u.drop (aj u+1+eB (u.drop (aj u+1))+1),max L (jN (u.drop (aj u+1)))))∨
     (u[aj u+1+eB (u.drop (aj u+1))]=44∧l9 m L b u=l9 (m - 1) (max L (jN (u.drop (aj u+1)))) (u.take (aj u)) (u.drop (aj u+1+eB (u.drop (aj u+1))+1)))∨
     (u[aj u+1+eB (u.drop (aj u+1))]≠93∧u[aj u+1+eB (u.drop (aj u+1))]≠44∧l9 m L b u=none))))):=by
 cases h1:isName (u.take (aj u))
 · exact .inl ⟨rfl,jA (pU (by simp[h1]))⟩
 refine .inr ?_
 cases h2:Op.bytesLess b (u.take (aj u))
 · exact .inl ⟨rfl,rfl,jA (pU (by simp[h2]))⟩
 refine .inr ?_
 rcases behind u with⟨hb,aA⟩|⟨hb,aA⟩
 · exact .inl ⟨rfl,rfl,by omega,jA (l6 (by rw[aA];intro r;simp))⟩
 refine .inr ?_
 by_cases hc:u[aj u]=58
 · refine .inr ⟨rfl, rfl, hb, hc, ?_⟩
   rw[hc] at aA;have e:=ou h1 h2 aA;have wq:(u.drop (aj u+1)).length=u.length - (aj u+1):=by simp
   generalize U5:u.drop (aj u+1)=u2 at *;cases hq:aY u2 with
   | none=>
    rw[hq] at e;exact .inl ⟨by unfold eB;rw[hq],jA e⟩
   | some x =>
    obtain⟨t,r⟩:=x;have hr:=iF hq;have hdr:=sA hq;have hn:eB u2=u2.length - r.length:=by unfold eB;rw[hq]
    have hL:jN u2=t.level:=by unfold jN;rw[hq]
    have U0:u.drop (aj u+1+eB u2)=r:=by rw[←List.drop_drop,U5,hn,hdr]
    rw[hq] at e;dsimp only at e;cases r with
    | nil=>
     refine .inr (.inl ⟨by omega,by simp at hn;omega,?_⟩);unfold l9;rw[e]
    | cons c r=>
     simp only[List.length_cons] at hn hr;have hlt:aj u+1+eB u2<u.length:=by omega
     have hds:=List.drop_eq_getElem_cons hlt;rw[U0] at hds;injection hds with KQ Aw;refine .inr (.inr ⟨by omega,hlt,?_⟩);rw[←KQ,←Aw,hL]
     by_cases h93:c=93
     · subst h93
       refine .inl ⟨rfl,?_⟩;unfold l9;rw[e];simp[Fo.len,Fo.level,Tr.level];omega
     · by_cases h44 : c = 44
       · subst h44
         refine .inr (.inl ⟨rfl,?_⟩)
         replace e:dc b u=(match dc (u.take (aj u)) r with
          | some (fo,r3)=>some (.cons (u.take (aj u)) t.k t.n t.sub fo,r3)
          | none=>none):=e
         unfold l9;cases hp:dc (u.take (aj u)) r with
         | none=>rw[hp] at e;rw[e]
         | some y =>
          obtain⟨fo,r3⟩:=y;rw[hp] at e;rw[e];rcases r3 with _|⟨c3,r3⟩
          · rfl
          · by_cases hc3:c3=93
            · subst hc3
              show(if(Fo.cons (u.take (aj u)) t.k t.n t.sub fo).len≤m then some (r3,max L (Fo.cons (u.take (aj u)) t.k t.n t.sub fo).level) else none)=if fo.len≤m - 1 then some (r3,max (max L t.level) fo.level) else none
              have e1:(Fo.cons (u.take (aj u)) t.k t.n t.sub fo).len=fo.len+1:=rfl;have e2:(Fo.cons (u.take (aj u)) t.k t.n t.sub fo).level=max (t.level) fo.level:=rfl
              by_cases hle:fo.len+1≤m
              · rw[if_pos (by rw[e1];exact hle),if_pos (by omega),e2]
                simp
              · rw[if_neg (by rw[e1];exact hle),if_neg (by omega)]
            · split
              · rename_i h;simp only[Option.some.injEq,Prod.mk.injEq,List.cons.injEq] at h;exact absurd h.2.1 hc3
              · split
                · rename_i h;simp only[Option.some.injEq,Prod.mk.injEq,List.cons.injEq] at h;exact absurd h.2.1 hc3
                · rfl
       · refine .inr (.inr ⟨h93,h44,?_⟩)
         have e':dc b u=some (.cons (u.take (aj u)) t.k t.n t.sub .nil,c::r):=by
          rw[e];split
          · rename_i h;injection h with h _;exact absurd h h44
          · rfl
         unfold l9;rw[e'];split
         · rename_i h;simp only[Option.some.injEq,Prod.mk.injEq,List.cons.injEq] at h;exact absurd h.2.1 h93
         · rfl
 · exact .inl ⟨rfl,rfl,hb,hc,jA (l6 (by intro r e;rw[aA] at e;injection e with e1 _;exact hc e1))⟩
theorem Jv {a b:Int} {c d:Nat} (h:a=c) (h':b=d):Ending.returned (.tuple #[.int .i64 a,.int .i64 b])=.returned (.tuple #[.int .i64 c,.int .i64 d]):=by rw[h,h']
theorem int_eq {a b:Int} (h:a=b):Value.int .i64 a=.int .i64 b:=by rw[h]
theorem FQ (s:List UInt8) (k m L:Nat) (b:List UInt8) (hm:1≤m) (hk:k≤s.length):∃(c:Nat) (w0:List UInt8) (M Lv:Nat),aj (s.drop k)=c∧List.drop k (List.take (k+c) s)=w0∧w0.length=c∧k+c≤s.length∧
 eB (s.drop (k+c+1))=M∧jN (s.drop (k+c+1))=Lv∧
 ((isName w0 = false ∧ l9 m L b (s.drop k) = none) ∨
  (isName w0=true∧Op.bytesLess b w0=false∧l9 m L b (s.drop k)=none)∨
  (isName w0=true∧Op.bytesLess b w0=true∧s.length≤k+c∧l9 m L b (s.drop k)=none)∨
  (isName w0=true∧Op.bytesLess b w0=true∧∃h:k+c<s.length,s[k+c]≠58∧l9 m L b (s.drop k)=none)∨
  (isName w0=true∧Op.bytesLess b w0=true∧∃h:k+c<s.length,s[k+c]=58∧
   ((M = 0 ∧ l9 m L b (s.drop k) = none) ∨
    (0<M∧s.length≤k+c+1+M∧l9 m L b (s.drop k)=none)∨
    (0<M∧∃h2:k+c+1+M<s.length,
     ((s[k+c+1+M]=93∧l9 m L b (s.drop k)=some (s.drop (k+c+1+M+1),max L Lv))∨
      (s[k+c+1+M]=44∧l9 m L b (s.drop k)=l9 (m - 1) (max L Lv) w0 (s.drop (k+c+1+M+1)))∨
      (s[k+c+1+M]≠93∧s[k+c+1+M]≠44∧l9 m L b (s.drop k)=none)))))):=by
 have hu:(s.drop k).length=s.length - k:=by simp
 have uf:=cL (s.drop k)
 have hnm:List.drop k (List.take (k+aj (s.drop k)) s)=List.take (aj (s.drop k)) (s.drop k):=by
  rw[List.drop_take];congr 1;omega
 have oO:(List.take (aj (s.drop k)) (s.drop k)).length=aj (s.drop k):=by simp;omega
 refine⟨_,_,_,_,rfl,rfl,by rw[hnm];exact oO,by omega,rfl,rfl,?_⟩
 rw[hnm]
 have hc:=Jh m L b (s.drop k) hm
 simp only[List.drop_drop,hu,List.getElem_drop] at hc
 simp only[←Nat.add_assoc] at hc
 rcases hc with h|h|⟨h1,h2,h3,h4⟩|⟨h1,h2,h3,h4⟩|⟨h1,h2,h3,h4,h5⟩
 · exact .inl h
 · exact .inr (.inl h)
 · exact .inr (.inr (.inl ⟨h1,h2,by omega,h4⟩))
 · exact .inr (.inr (.inr (.inl ⟨h1,h2,by omega,h4⟩)))
 · refine .inr (.inr (.inr (.inr ⟨h1,h2,by omega,h4,?_⟩)))
   rcases h5 with h5|⟨h5,h6,h7⟩|⟨h5,h6,h7⟩
   · exact .inl h5
   · exact .inr (.inl ⟨h5,by omega,h7⟩)
   · exact .inr (.inr ⟨h5,by omega,h7⟩)
theorem oS {c d:UInt8} (h:c≠d):(c.toNat:Int)≠(d.toNat:Int):=λe=>h (UInt8.toNat_inj.1 (by omega))
set_option maxRecDepth 100000 in
theorem Dm (s : List UInt8) (ih : ∀ s', s'.length < s.length → iZ s') : yE s := by
 intro deep w Kc hd
 have hm:s.length≤maxLen:=by unfold maxLen;omega
 go_enter Tryz.func202,Tryz.ntmps202
 go_wp2_with fail
 go_loopw [6,7,8,9] (λa l b m wr=>∃(k L:Nat) (bf:List UInt8) (n:Nat),k≤s.length∧L≤s.length∧n≤6∧a=.int .i64 k∧l=.int .i64 L∧b=str bf∧m=.int .i64 (n+1)∧Hid (l9 6 0 [] s=l9 (6 - n) L bf (s.drop k))∧Below w.heap.size w wr)
  (λ_ _ _ m _=>7 - (intOf m).toNat)
 case atStart=>exact⟨0,0,[],0,by omega,by omega,by omega,rfl,rfl,rfl,rfl,rfl,Below.refl _ _⟩
 case round =>
  obtain⟨k,L,bf,n,hk,hL,hn,rfl,rfl,rfl,rfl,HR,hnx⟩:=hrel
  by_cases hn6:n=6
  · subst hn6
    have HZ:Hid (wG s=0∧Bf s=0):=iQ (by rw[HR.out];exact Jg _ _ _);go_wp2_with fail;go_ret2;exact⟨b8 HZ.out.1.symm HZ.out.2.symm,hnx⟩
  · have sW:n≤5:=by omega
    clear hn6 hn;obtain⟨c,w0,M,Lv,hcut,hnm,hw,hkc,hM,P7,hcs⟩:=FQ s k (6 - n) L bf (by omega) hk;have HW:=Lib.hid hw;have HS:Hid ((s.drop (k+c+1)).length=s.length - (k+c+1)):=by show _=_;simp
    have Ak:Lv≤s.length:=by have:=Dt (s.drop (k+c+1));rw[P7,HS.out] at this;omega
    have YF:M≤s.length:=by have:=zg (s.drop (k+c+1));rw[hM,HS.out] at this;omega
    clear hw;rcases hcs with⟨hname,hz⟩|⟨hname,hless,hz⟩|⟨hname,hless,hlen,hz⟩|⟨hname,hless,hlt,hch,hz⟩|⟨hname,hless,hlt,hch,hcs⟩
    · clear hM P7
      have HZ:Hid (wG s=0∧Bf s=0):=iQ (by rw[HR.out];exact hz);clear hz HR;go_wp2_with (first|(go_at_call 162;refine(bz _ _ (by simp;unfold maxLen;omega)).mono ?_;rintro e w1 ⟨rfl,rfl⟩)|(go_at_call 87;refine(aN _ _ (by rw[HW.out];unfold maxLen;omega)).mono ?_;rintro e w1 ⟨rfl,ay⟩));go_ret2;exact⟨b8 HZ.out.1.symm HZ.out.2.symm,hnx.trans (ay.mono hnx.size)⟩
    · clear hM P7
      have hl2:=jc _ _ hless;clear hless;have HZ:Hid (wG s=0∧Bf s=0):=iQ (by rw[HR.out];exact hz);clear hz HR;go_wp2_with (first|(go_at_call 162;refine(bz _ _ (by simp;unfold maxLen;omega)).mono ?_;rintro e w1 ⟨rfl,rfl⟩)|(go_at_call 87;refine(aN _ _ (by rw[HW.out];unfold maxLen;omega)).mono ?_;rintro e w1 ⟨rfl,ay⟩));go_ret2;exact⟨b8 HZ.out.1.symm HZ.out.2.symm,hnx.trans (ay.mono hnx.size)⟩
    · clear hM P7
      have hl2:=uA _ _ hless;clear hless;have HZ:Hid (wG s=0∧Bf s=0):=iQ (by rw[HR.out];exact hz);clear hz HR;go_wp2_with (first|(go_at_call 162;refine(bz _ _ (by simp;unfold maxLen;omega)).mono ?_;rintro e w1 ⟨rfl,rfl⟩)|(go_at_call 87;refine(aN _ _ (by rw[HW.out];unfold maxLen;omega)).mono ?_;rintro e w1 ⟨rfl,ay⟩));go_ret2;exact⟨b8 HZ.out.1.symm HZ.out.2.symm,hnx.trans (ay.mono hnx.size)⟩
    · clear hM P7
      have hl2:=uA _ _ hless;have UF:(((s[k+c]).toNat:Int) != 58)=true:=by rw[bne_iff_ne];exact oS hch
      clear hless hch;have HZ:Hid (wG s=0∧Bf s=0):=iQ (by rw[HR.out];exact hz);clear hz HR;go_wp2_with (first|(go_at_call 162;refine(bz _ _ (by simp;unfold maxLen;omega)).mono ?_;rintro e w1 ⟨rfl,rfl⟩)|(go_at_call 87;refine(aN _ _ (by rw[HW.out];unfold maxLen;omega)).mono ?_;rintro e w1 ⟨rfl,ay⟩));go_ret2;exact⟨b8 HZ.out.1.symm HZ.out.2.symm,hnx.trans (ay.mono hnx.size)⟩
    · have hl2 := uA _ _ hless
      have UF:(((s[k+c]).toNat:Int) != 58)=false:=by rw[hch];rfl
      have hc1:1≤c:=by have:=uE hname;rw[HW.out] at this;exact this
      clear hless hch;rcases hcs with⟨ON,hz⟩|⟨ON,hlen,hz⟩|⟨ON,hlt2,hcs⟩
      · have SB:((M:Int)==0)=true:=by simp[ON]
        clear ON;have HZ:Hid (wG s=0∧Bf s=0):=iQ (by rw[HR.out];exact hz);clear hz HR;go_wp2_with (first|(go_at_call 162;refine(bz _ _ (by simp;unfold maxLen;omega)).mono ?_;rintro e w1 ⟨rfl,rfl⟩)|(go_at_call 87;refine(aN _ _ (by rw[HW.out];unfold maxLen;omega)).mono ?_;rintro e w1 ⟨rfl,ay⟩)|(go_at_call 140;refine(ih _ (by rw[HS.out];omega) _ _ (by omega) (by rw[HS.out];omega)).mono ?_;rintro e w2 ⟨rfl,aK⟩));go_ret2;exact⟨b8 HZ.out.1.symm HZ.out.2.symm,(hnx.trans (ay.mono hnx.size)).trans (aK.mono (Nat.le_trans hnx.size ay.size))⟩
      · have SB:((M:Int)==0)=false:=by simp;omega
        clear ON;have HZ:Hid (wG s=0∧Bf s=0):=iQ (by rw[HR.out];exact hz);clear hz HR;go_wp2_with (first|(go_at_call 162;refine(bz _ _ (by simp;unfold maxLen;omega)).mono ?_;rintro e w1 ⟨rfl,rfl⟩)|(go_at_call 87;refine(aN _ _ (by rw[HW.out];unfold maxLen;omega)).mono ?_;rintro e w1 ⟨rfl,ay⟩)|(go_at_call 140;refine(ih _ (by rw[HS.out];omega) _ _ (by omega) (by rw[HS.out];omega)).mono ?_;rintro e w2 ⟨rfl,aK⟩));go_ret2;exact⟨b8 HZ.out.1.symm HZ.out.2.symm,(hnx.trans (ay.mono hnx.size)).trans (aK.mono (Nat.le_trans hnx.size ay.size))⟩
      · have SB:((M:Int)==0)=false:=by simp;omega
        clear ON;rcases hcs with⟨hch,hz⟩|⟨hch,hz⟩|⟨hch,QV,hz⟩
        · have Wt:(((s[k+c+1+M]).toNat:Int)==93)=true:=by rw[hch];rfl
          have HZ:Hid (wG s=k+c+1+M+1∧Bf s=max L Lv):=by
           have:=Bg (HR.out.trans hz);refine⟨?_,this.2.1⟩;rw[this.1];simp;omega
          clear hz HR hch;go_wp2_with (first|(go_at_call 162;refine(bz _ _ (by simp;unfold maxLen;omega)).mono ?_;rintro e w1 ⟨rfl,rfl⟩)|(go_at_call 87;refine(aN _ _ (by rw[HW.out];unfold maxLen;omega)).mono ?_;rintro e w1 ⟨rfl,ay⟩)|(go_at_call 140;refine(ih _ (by rw[HS.out];omega) _ _ (by omega) (by rw[HS.out];omega)).mono ?_;rintro e w2 ⟨rfl,aK⟩))
          all_goals
           go_ret2;exact⟨Jv (by rw[HZ.out.1];omega) (by rw[HZ.out.2];omega),(hnx.trans (ay.mono hnx.size)).trans (aK.mono (Nat.le_trans hnx.size ay.size))⟩
        · have Wt:(((s[k+c+1+M]).toNat:Int)==93)=false:=by rw[hch];rfl
          have Zf:(((s[k+c+1+M]).toNat:Int) != 44)=false:=by rw[hch];rfl
          have HZ:=Lib.hid (HR.out.trans hz);clear hz HR hch;go_wp2_with (first|(go_at_call 162;refine(bz _ _ (by simp;unfold maxLen;omega)).mono ?_;rintro e w1 ⟨rfl,rfl⟩)|(go_at_call 87;refine(aN _ _ (by rw[HW.out];unfold maxLen;omega)).mono ?_;rintro e w1 ⟨rfl,ay⟩)|(go_at_call 140;refine(ih _ (by rw[HS.out];omega) _ _ (by omega) (by rw[HS.out];omega)).mono ?_;rintro e w2 ⟨rfl,aK⟩))
          all_goals
           go_roundw
           case rel=>exact⟨k+c+1+M+1,max L Lv,w0,n+1,by omega,by omega,by omega,int_eq (by omega),int_eq (by omega),rfl,int_eq (by omega),by rw[show 6 - (n+1)=6 - n - 1 from by omega];exact HZ,(hnx.trans (ay.mono hnx.size)).trans (aK.mono (Nat.le_trans hnx.size ay.size))⟩
           case measure=>simp[intOf];omega
        · have Wt:(((s[k+c+1+M]).toNat:Int)==93)=false:=by rw[beq_eq_false_iff_ne];exact oS hch
          have Zf:(((s[k+c+1+M]).toNat:Int) != 44)=true:=by rw[bne_iff_ne];exact oS QV
          clear hch QV;have HZ:Hid (wG s=0∧Bf s=0):=iQ (by rw[HR.out];exact hz);clear hz HR;go_wp2_with (first|(go_at_call 162;refine(bz _ _ (by simp;unfold maxLen;omega)).mono ?_;rintro e w1 ⟨rfl,rfl⟩)|(go_at_call 87;refine(aN _ _ (by rw[HW.out];unfold maxLen;omega)).mono ?_;rintro e w1 ⟨rfl,ay⟩)|(go_at_call 140;refine(ih _ (by rw[HS.out];omega) _ _ (by omega) (by rw[HS.out];omega)).mono ?_;rintro e w2 ⟨rfl,aK⟩));go_ret2;exact⟨b8 HZ.out.1.symm HZ.out.2.symm,(hnx.trans (ay.mono hnx.size)).trans (aK.mono (Nat.le_trans hnx.size ay.size))⟩
theorem vh:∀(n:Nat) (s:List UInt8),s.length≤n→iZ s
 | 0,s,h=>ya s (λs' hs=>by omega) (λs' hs=>by omega)
 | n+1,s,h=>ya s (λs' hs=>Dm s' (λs'' hs'=>vh n s'' (by omega))) (λs' hs=>vh n s' (by omega))
theorem vk (s:List UInt8):iZ s:=vh s.length s (nl _)
end Go.Proofs.YtakgjcfkdemipaaGreatDoor
namespace Go.Proofs.YtakgjcfkdemipaaGreatDoor
open Go.RowKit
def fN (w:World):Prop:=Lib.TabIs Tryz.prog w "strings.asciiSpace" .u8 Lib.asciiSpaceTab
theorem Hq:Tryz.prog.globalNamed "strings.asciiSpace" =some 1:=by kernel_rfl
theorem fN.below {B:Nat} {w w':World} (h:fN w) (hb:Below B w w') (hB:w.heap.size≤B):fN w':=by
 have hlt:1<w.heap.size:=by
  have h':=h;unfold fN Lib.TabIs World.var? at h';rw[Hq] at h';simp only[Option.bind_some] at h';rcases hk:w.heap[1]? with _|o
  · rw[hk] at h';simp at h'
  · exact(Array.getElem?_eq_some_iff.1 hk).1
 exact var?_below hb Hq (by omega) h
def rT:List UInt8:=[97,110,100,32,97,114,114,97,121,32,98,101,103,105,110,32,98,111,111,108,32,98,114,101,97,107,32,99,108,117,115,116,101,114,32,100,111,32,100,111,119,110,32,101,108,115,101,32,101,108,115,101,105,102,32,101,110,100,32,101,120,99,101,112,116,32,102,97,108,115,101,32,102,111,114,32,104,97,115,32,105,102,32,105,110,32,105,110,116,32,105,115,32,105,116,101,114,32,109,111,100,32,110,105,108,32,110,111,116,32,110,117,108,108,32,111,110,101,111,102,32,111,114,32,111,116,104,101,114,115,32,112,114,111,99,32,112,117,116,32,114,101,99,111,114,100,32,114,101,112,32,114,101,116,117,114,110,32,114,101,116,117,114,110,115,32,115,105,103,110,97,108,32,115,105,103,110,97,108,115,32,116,97,103,32,116,97,103,99,97,115,101,32,116,104,101,110,32,116,114,117,101,32,117,112,32,118,97,114,32,119,104,101,110,32,119,104,101,114,101,32,119,104,105,108,101,32,121,105,101,108,100,32,121,105,101,108,100,115]
theorem wK:Lib.fields rT=eD:=by decide+kernel
theorem zz:∀(j:Nat) (b:UInt8),rT[j]? =some b→b.toNat<128:=by
 have h:(rT.all λb=>decide (b.toNat<128))=true:=by decide+kernel
 intro j b hj
 simpa using List.all_eq_true.1 h b (List.mem_of_getElem? hj)
set_option maxRecDepth 100000 in
theorem yK (w:World) (ht:fN w):Calls Tryz.prog 273 #[.string ⟨#[97,110,100,32,97,114,114,97,121,32,98,101,103,105,110,32,98,111,111,108,32,98,114,101,97,107,32,99,108,117,115,116,101,114,32,100,111,32,100,111,119,110,32,101,108,115,101,32,101,108,115,101,105,102,32,101,110,100,32,101,120,99,101,112,116,32,102,97,108,115,101,32,102,111,114,32,104,97,115,32,105,102,32,105,110,32,105,110,116,32,105,115,32,105,116,101,114,32,109,111,100,32,110,105,108,32,110,111,116,32,110,117,108,108,32,111,110,101,111,102,32,111,114,32,111,116,104,101,114,115,32,112,114,111,99,32,112,117,116,32,114,101,99,111,114,100,32,114,101,112,32,114,101,116,117,114,110,32,114,101,116,117,114,110,115,32,115,105,103,110,97,108,32,115,105,103,110,97,108,115,32,116,97,103,32,116,97,103,99,97,115,101,32,116,104,101,110,32,116,114,117,101,32,117,112,32,118,97,114,32,119,104,101,110,32,119,104,101,114,101,32,119,104,105,108,101,32,121,105,101,108,100,32,121,105,101,108,100,115]⟩] w λe w'=>e=.returned (.slice (some ⟨w.heap.size,0,none⟩) 46 46)∧w'=w.alloc (.cells (aD eD).toArray 9):=by
 have hf:=Tryz.strings_Fields ⟨rT.toArray⟩ w (by decide+kernel) zz ht
 have he:eD.length=46:=by decide
 rw[show(⟨rT.toArray⟩:ByteArray).data.toList=rT from rfl,wK,he] at hf
 exact hf
set_option maxRecDepth 100000 in
theorem DI (w:World) (ht:fN w):Calls Tryz.prog 249 #[] w λe w'=>e=.returned (.slice (some ⟨w.heap.size,0,none⟩) 46 46)∧w'=w.alloc (.cells (aD eD).toArray 9):=by
 have hf:=yK w ht
 go_enter Tryz.func249,Tryz.ntmps249
 go_wp2_with fail
 refine hf.mono ?_
 rintro e w1 ⟨rfl,rfl⟩
 go_wp2_with fail
 go_ret
 exact⟨rfl,rfl⟩
theorem zy:∀x∈eD,x.length≤12:=by
 have h:(eD.all λx=>decide (x.length≤12))=true:=by decide+kernel
 intro x hx
 simpa using List.all_eq_true.1 h x hx
theorem qg {α:Type} (l:List α) (k:Nat) (x:α) (h:l[k]? =some x):l.take (k+1)=l.take k++[x]:=by
 obtain⟨hk,rfl⟩:=List.getElem?_eq_some_iff.1 h
 exact List.take_succ_eq_append_getElem hk
set_option maxRecDepth 100000 in
theorem zi (w:World) (ht:fN w):Calls Tryz.prog 208 #[] w λe w'=>e=.returned (.map (some w.heap.size))∧bB w' w.heap.size eD∧Below w.heap.size w w':=by
 have hmm:=@run_makeMap Tryz.prog
 have hl:eD.length=46:=by decide
 have Hl:=Lib.hid hl
 clear hl
 go_enter Tryz.func208,Tryz.ntmps208
 go_wp2_with fail
 refine(DI _ (ht.below (B:=w.heap.size) ((Below.refl _ _).alloc (nl _) _) (nl _))).mono ?_
 rintro e w1 ⟨rfl,rfl⟩
 go_wp2_with fail
 have h0:bB ((w.alloc (.map #[] 0)).alloc (.cells (aD eD).toArray 9)) w.heap.size []:=(bB.made w).kept (World.grownBy_alloc _ _ none) (by simp)
 have h1:((w.alloc (.map #[] 0)).alloc (.cells (aD eD).toArray 9)).heap[w.heap.size+1]? =some (.cells (aD eD).toArray 9):=by
  have:=heap_alloc_new (w.alloc (.map #[] 0)) (.cells (aD eD).toArray 9)
  rwa [World.size_alloc] at this
 have h2:Below w.heap.size w ((w.alloc (.map #[] 0)).alloc (.cells (aD eD).toArray 9)):=((Below.refl _ _).alloc (nl _) _).alloc (by simp) _
 have hs:w.heap.size+1<((w.alloc (.map #[] 0)).alloc (.cells (aD eD).toArray 9)).heap.size:=by simp
 generalize (w.alloc (.map #[] 0)).alloc (.cells (aD eD).toArray 9)=W at *
 go_loopw [3,7] (λ_ i wr=>∃k:Nat,k≤46∧i=.int .i64 k∧bB wr w.heap.size (eD.take k)∧wr.heap[w.heap.size+1]? =some (.cells (aD eD).toArray 9)∧Below w.heap.size w wr) (λ_ i _=>46 - (intOf i).toNat)
 case atStart=>exact⟨0,by omega,rfl,h0,h1,h2⟩
 case round=>
  obtain⟨k,hk,rfl,fO,hcells,hnx⟩:=hrel
  by_cases hlt:k<46
  · obtain⟨x,hx⟩:∃x,eD[k]? =some x:=⟨eD[k]'(by rw[Hl.out];exact hlt),List.getElem?_eq_getElem _⟩
    have hc:wr.cell? ⟨w.heap.size+1,k,none⟩=some (str x):=by rw[ak hcells];simp[aD,hx]
    have HT:=Lib.hid (qg eD k x hx);have hxl:=zy x (List.mem_of_getElem? hx);clear hx;go_wp2_with (at_mapUpdate;refine ki _ rfl _ _ _ rfl w.heap.size (eD.take k) rfl fO (by rw[List.length_take];unfold maxLen;omega) x rfl rfl (by unfold maxLen;omega) ?_;intro w1 xy Iq;clear hc)
    go_roundw
    case rel=>exact⟨k+1,by omega,by go_num,by rw[HT.out];exact xy,(Iq.block _ (Array.getElem?_eq_some_iff.1 hcells).1 (by simp)).trans hcells,hnx.grown Iq hnx.size (by intro j hj;cases hj;exact nl _)⟩
    case measure=>simp[intOf];omega
  · have HT:Hid (eD.take k=eD):=List.take_of_length_le (by rw[Hl.out];omega)
    go_wp2
    go_ret;rw[HT.out] at fO;exact⟨rfl,fO,hnx⟩
theorem BN (s:List UInt8) (w:World) (ht:fN w) (hl:s.length≤maxLen):Calls Tryz.prog 148 #[str s] w λe w'=>e=.returned (.bool (isWord s))∧Below w.heap.size w w':=by
 go_enter Tryz.func148,Tryz.ntmps148
 go_wp2_with fail
 refine(zi _ ht).mono ?_
 rintro e w1 ⟨rfl,fO,hb⟩
 have hlk:=fO.look hl
 go_wp2
 go_ret
 exact⟨rfl,hb⟩
def gK (x:Nat):Bool:=decide (126<x)|| !gh (UInt8.ofNat x)
theorem mY {x:Nat} (h:126<x):gK x=true:=by simp[gK,h]
theorem kN {x:Nat} (h:x≤126):gK x= !gh (UInt8.ofNat x):=by simp[gK];omega
theorem zN {x:Nat} (h:x≤126):gh (UInt8.ofNat x)=(decide (97≤x)&&decide (x≤122)||decide (48≤x)&&decide (x≤57)):=by
 have:(UInt8.ofNat x).toNat=x:=by simp;omega
 unfold gh
 rw[this]
theorem Kl (x:Nat) (W:World):Calls Tryz.prog 146 #[.int .i32 x] W λe w'=>e=.returned (.bool (gK x))∧W=w':=by
 rcases(show(126<x)∨(x≤126∧((97≤x∧x≤122)∨(48≤x∧x≤57)∨(x<48)∨(57<x∧x<97)∨(122<x))) from by omega) with h|⟨h,h1⟩
 · have H:=Lib.hid (mY h)
   go_enter Tryz.func146,Tryz.ntmps146
   go_wp2
   go_ret;exact⟨cC H.out.symm,rfl⟩
 · have H:=Lib.hid (kN h)
   have H2:=Lib.hid (zN h);rcases h1 with⟨h1,h2⟩|⟨h1,h2⟩|h1|⟨h1,h2⟩|h1
   all_goals
    go_enter Tryz.func146,Tryz.ntmps146
    go_wp2
    go_ret;refine⟨cC ?_,rfl⟩;rw[H.out,H2.out,Bool.eq_iff_iff];simp;omega
theorem zL {c:UInt8} (h:gh c=true):c.toNat≤122:=by
 simp only[gh,Bool.or_eq_true,Bool.and_eq_true,decide_eq_true_eq] at h;omega
theorem z7:∀(l:List UInt8) (k:Nat) (h:k<l.length),k<aj l→gh l[k]=true
 | [],k,h,_=>by simp at h
 | c::l,0,_,hc=>by
  rw[bI] at hc;split at hc
  · simpa
  · omega
 | c::l,k+1,h,hc=>by
  rw[bI] at hc;split at hc
  · simpa using z7 l k (by simpa using h) (by omega)
  · omega
theorem z8:∀(l:List UInt8) (h:aj l<l.length),gh l[aj l]=false
 | [],h=>by simp at h
 | c::l,h=>by
  by_cases hc:gh c=true
  · have e:aj (c::l)=aj l+1:=by rw[bI,if_pos hc]
    have h':=z8 l (by rw[e] at h;simpa using h);simp only[e,List.getElem_cons_succ];exact h'
  · have e:aj (c::l)=0:=by rw[bI,if_neg hc]
    simp only[e,List.getElem_cons_zero]
    simpa using hc
theorem AA (s:List UInt8):∀(f pos:Nat),pos≤aj s→s.length≤pos+f→Lib.idxFuncFrom gK true ⟨s.toArray⟩ f pos=if aj s=s.length then -1 else(aj s:Int)
 | 0,pos,h1,h2=>by
  have:=cL s;rw[if_pos (by omega)];rfl
 | f + 1, pos, h1, h2 => by
  have hle:=cL s;unfold Lib.idxFuncFrom;have hsz:(⟨s.toArray⟩:ByteArray).size=s.length:=by simp[ByteArray.size]
  by_cases hp:pos<s.length
  · rw [if_pos (by rw [hsz]; exact hp)]
    have hp':pos<(⟨s.toArray⟩:ByteArray).size:=by rw[hsz];exact hp
    by_cases hc:pos<aj s
    · have ha:=z7 s pos hp hc
      have hb:=zL ha;rw[decode_ascii _ pos hp' (by show(s[pos]).toNat<128;omega)];have e:gK (s[pos]).toNat=false:=by
       rw[kN (by omega)];simp[ha]
      have e2:gK ((⟨s.toArray⟩:ByteArray)[pos]'hp').toNat=false:=e;simp only[e2,Bool.false_eq_true,if_false];exact AA s f (pos+1) (by omega) (by omega)
    · have hm:pos=aj s:=by omega
      subst hm;have ha:=z8 s hp;have e:gK (Utf8.decode ⟨s.toArray⟩ (aj s)).1=true:=by
       by_cases hb:(s[aj s]).toNat<128
       · rw[decode_ascii _ _ hp' hb]
         show gK (s[aj s]).toNat=true
         by_cases h126:126<(s[aj s]).toNat
         · exact mY h126
         · rw[kN (by omega)];simp[ha]
       · exact mY (by have:=(decode_high _ _ hp' (by show 128≤(s[aj s]).toNat;omega)).1;omega)
      rw[if_pos e,if_neg (by omega)]
  · rw[if_neg (by rw[hsz];exact hp),if_pos (by omega)]
theorem idx_eq (s:List UInt8):Lib.idxFunc gK true ⟨s.toArray⟩=if aj s=s.length then -1 else(aj s:Int):=
 AA s _ 0 (by omega) (by simp[ByteArray.size])
theorem G1 (w:World):PredAt Tryz.prog 146 #[] encR gK w:=λW x _=>by
 refine(Kl x W).mono ?_
 rintro e w' ⟨he,rfl⟩
 exact⟨he,0,rfl⟩
theorem xB (s:List UInt8) (w:World):Calls Tryz.prog 145 #[str s,.func (.func 146) #[] #[]] w λe w'=>e=.returned (.int .i64 (if aj s=s.length then -1 else(aj s:Int)))∧Below w.heap.size w w':=by
 rw[←idx_eq]
 exact Tryz.strings_IndexFunc 146 #[] (enters_of Tryz.func146 (by kernel_rfl) rfl) gK ⟨s.toArray⟩ w (G1 w)
theorem Fk (s:List UInt8) (w:World) (h:aj s=s.length):Calls Tryz.prog 145 #[str s,.func (.func 146) #[] #[]] w λe w'=>e=.returned (.int .i64 (-1))∧Below w.heap.size w w':=by
 have:=xB s w
 rwa [if_pos h] at this
theorem II (s:List UInt8) (w:World) (h:aj s≠s.length):Calls Tryz.prog 145 #[str s,.func (.func 146) #[] #[]] w λe w'=>e=.returned (.int .i64 (aj s:Int))∧Below w.heap.size w w':=by
 have:=xB s w
 rwa [if_neg h] at this
theorem dM (s:List UInt8) (w:World) (ht:fN w) (hl:s.length≤maxLen):Calls Tryz.prog 88 #[str s] w λe w'=>e=.returned (.bool (isName s))∧Below w.heap.size w w':=by
 have hl':=hl
 unfold maxLen at hl'
 rcases uD s with⟨rfl,hn⟩|⟨h0,⟨h1,hn⟩|⟨h1,⟨h2,hn⟩|⟨h2,h3,⟨h4,hn⟩|⟨h4,⟨h5,hn⟩|⟨h5,hn⟩⟩⟩⟩⟩
 · have HN:=Lib.hid hn
   clear hn;go_enter Tryz.func88,Tryz.ntmps88;go_wp2_with fail;go_ret;exact⟨cC HN.out.symm,Below.refl _ _⟩
 · have HN:=Lib.hid hn
   clear hn;go_enter Tryz.func88,Tryz.ntmps88;go_wp2_with fail;go_ret;exact⟨cC HN.out.symm,Below.refl _ _⟩
 · have HN:=Lib.hid hn
   clear hn;rcases h2 with h2|h2
   all_goals
    go_enter Tryz.func88,Tryz.ntmps88
    go_wp2
    go_ret;exact⟨cC HN.out.symm,Below.refl _ _⟩
 · have HN:=Lib.hid hn
   have H4:=Lib.hid h4;have jF:¬(aj s:Int)<0:=by omega
   clear hn h4;go_enter Tryz.func88,Tryz.ntmps88;go_wp2_with (first|(go_at_call 145;refine(II _ _ H4.out).mono ?_;rintro e w1 ⟨rfl,hb⟩)|(go_at_call 144;go_in));go_ret;exact⟨cC HN.out.symm,hb⟩
 all_goals
  have HN:=Lib.hid hn;have H4:=Lib.hid h4;clear hn h4;go_enter Tryz.func88,Tryz.ntmps88;go_wp2_with (first|(go_at_call 145;refine(Fk _ _ H4.out).mono ?_;rintro e w1 ⟨rfl,hb⟩)|(go_at_call 144;go_in)|(go_at_call 148;refine(BN _ _ (ht.below hb (nl _)) hl).mono ?_;rintro e w2 ⟨rfl,aA⟩));go_ret;exact⟨cC HN.out.symm,hb.trans (aA.mono hb.size)⟩
end Go.Proofs.YtakgjcfkdemipaaGreatDoor
namespace Go.Proofs.YtakgjcfkdemipaaGreatDoor
open Go.RowKit
@[go_sem] theorem Kn (a b : List UInt8) : (⟨a.toArray⟩ : ByteArray) ++ ⟨b.toArray⟩ = ⟨(a ++ b).toArray⟩ := by
 apply ByteArray.ext
 simp
def Kept (b:Nat) (w w':World):Prop:=w.grownBy w' (some b)
theorem Kept.refl (b:Nat) (w:World):Kept b w w:=⟨rfl,rfl,rfl,nl _,λ_ _ _=>rfl⟩
theorem Kept.trans {b:Nat} {w1 w2 w3:World} (h:Kept b w1 w2) (k:Kept b w2 w3):Kept b w1 w3:=
 ⟨k.os.trans h.os,k.tape.trans h.tape,k.output.trans h.output,Nat.le_trans h.size k.size,λi hi hne=>(k.block i (Nat.lt_of_lt_of_le hi h.size) hne).trans (h.block i hi hne)⟩
theorem Kept.fQ {b B:Nat} {w w':World} (h:Below B w w') (hB:w.heap.size≤B):Kept b w w':=
 ⟨h.os,h.tape,h.output,h.size,λi hi _=>h.block i (by omega)⟩
theorem Kept.setCell (w:World) (b o:Nat) (u:Value):Kept b w (w.setCell ⟨b,o,none⟩ u):=
 ⟨rfl,rfl,rfl,by simp[World.setCell],λi _ hne=>Below.heap_setCell _ _ _ _ (λe=>hne (by rw[e]))⟩
theorem Kept.alloc (b:Nat) (w:World) (o:Obj):Kept b w (w.alloc o):=World.grownBy_alloc w o _
theorem Kept.drew {b:Nat} {w w':World} (h:Kept b w w'):Kept b w w'.drew:=⟨h.os,h.tape,h.output,h.size,h.block⟩
theorem Kept.cell {b:Nat} {w w':World} (h:Kept b w w') {a:Addr} {v:Value} (hc:w.cell? a=some v) (hne:a.block≠b):w'.cell? a=some v:=
 World.grownBy.cell h hc (λe=>hne (Option.some.inj e))
theorem Kept.heap {b:Nat} {w w':World} (h:Kept b w w') {k:Nat} {o:Obj} (hc:w.heap[k]? =some o) (hne:k≠b):w'.heap[k]? =some o:=
 (h.block k (Array.getElem?_eq_some_iff.1 hc).1 (λe=>hne (Option.some.inj e))).trans hc
theorem fN.kept {b:Nat} {w w':World} (h:fN w) (k:Kept b w w') (hne:b≠1):fN w':=by
 have h':=h
 unfold fN Lib.TabIs World.var? at h' ⊢
 rw[Hq] at h' ⊢
 simp only[Option.bind_some] at h' ⊢
 rcases hk:w.heap[1]? with _|o
 · rw[hk] at h';simp at h'
 · rw[k.heap hk (Ne.symm hne)]
   rw[hk] at h';exact h'
theorem vH (p r:List UInt8):Lib.hasPrefix (p++r) p=true∧Lib.trimPrefix (p++r) p=r:=by
 have:Lib.hasPrefix (p++r) p=true:=by unfold Lib.hasPrefix;simp
 exact⟨this,by unfold Lib.trimPrefix;rw[if_pos this];simp⟩
theorem Kq (p r:List UInt8) (w:World):Calls Tryz.prog 274 #[str (p++r),str p] w λe w'=>e=.returned (.tuple #[str r,.bool true])∧w'=w:=by
 have h:=Tryz.strings_CutPrefix ⟨(p++r).toArray⟩ ⟨p.toArray⟩ w
 obtain⟨h1,h2⟩:=vH p r
 simp only at h
 rw[h1,h2] at h
 exact h
theorem MT (s p:List UInt8) (w:World) (hn:Lib.hasPrefix s p=false):Calls Tryz.prog 274 #[str s,str p] w λe w'=>e=.returned (.tuple #[str s,.bool false])∧w'=w:=by
 have h:=Tryz.strings_CutPrefix ⟨s.toArray⟩ ⟨p.toArray⟩ w
 have h2:Lib.trimPrefix s p=s:=by unfold Lib.trimPrefix;rw[if_neg (by rw[hn];simp)]
 simp only at h
 rw[hn,h2] at h
 exact h
theorem JS (p r:List UInt8) (b:Nat) (w:World) (hc:w.cell? ⟨b,0,none⟩=some (str (p++r))) (hf:w.frozen? ⟨b,0,none⟩=false):
 Calls Tryz.prog 253 #[.pointer (some ⟨b,0,none⟩),str p] w λe w'=>e=.returned (.bool true)∧w'=w.setCell ⟨b,0,none⟩ (str r):=by
 have Uq:=Kq p r
 go_enter Tryz.func253,Tryz.ntmps253
 go_wp2_with (go_at_call 274;refine(Uq _).mono ?_;rintro e w1 ⟨rfl,rfl⟩)
 go_ret
 exact⟨rfl,rfl⟩
theorem er (s p:List UInt8) (b:Nat) (w:World) (hc:w.cell? ⟨b,0,none⟩=some (str s)) (hn:Lib.hasPrefix s p=false):
 Calls Tryz.prog 253 #[.pointer (some ⟨b,0,none⟩),str p] w λe w'=>e=.returned (.bool false)∧w=w':=by
 have Uq:=MT s p
 go_enter Tryz.func253,Tryz.ntmps253
 go_wp2_with (go_at_call 274;refine(Uq _ hn).mono ?_;rintro e w1 ⟨rfl,rfl⟩)
 go_ret
 exact⟨rfl,rfl⟩
def fA:List PanicEntry:=[{v:=.iface 250 (.agg #[]),recovered:=false }]
theorem fH (w:World):Calls Tryz.prog 251 #[.bool true] w λe w'=>e=.returned (.tuple #[])∧w=w':=by
 go_enter Tryz.func251,Tryz.ntmps251
 go_wp2
 go_end0
 exact⟨rfl,rfl⟩
theorem gN (w:World):Calls Tryz.prog 251 #[.bool false] w λe w'=>e=.panicked fA∧w=w':=by
 go_enter Tryz.func251,Tryz.ntmps251
 go_wp2
 exact⟨rfl,rfl,rfl⟩
def wk (w:List UInt8):Nat:=
 if w=[105,110,116] then 1 else if w=[98,111,111,108] then 2 else if w=[110,117,108,108] then 3 else if w=[97,114,114,97,121,91] then 4 else if w=[114,101,99,111,114,100,91] then 5 else if w=[111,110,101,111,102,91] then 6 else 0
theorem kR (s:List UInt8) (w:World):Calls Tryz.prog 255 #[str s] w λe w'=>e=.returned (.int .u8 (wk s))∧w=w':=by
 by_cases h1:s=[105,110,116]
 · subst h1
   go_enter Tryz.func255,Tryz.ntmps255
   go_wp2
   go_ret;exact⟨rfl,rfl⟩
 by_cases h2:s=[98,111,111,108]
 · subst h2
   go_enter Tryz.func255,Tryz.ntmps255
   go_wp2
   go_ret;exact⟨rfl,rfl⟩
 by_cases h3:s=[110,117,108,108]
 · subst h3
   go_enter Tryz.func255,Tryz.ntmps255
   go_wp2
   go_ret;exact⟨rfl,rfl⟩
 by_cases h4:s=[97,114,114,97,121,91]
 · subst h4
   go_enter Tryz.func255,Tryz.ntmps255
   go_wp2
   go_ret;exact⟨rfl,rfl⟩
 by_cases h5:s=[114,101,99,111,114,100,91]
 · subst h5
   go_enter Tryz.func255,Tryz.ntmps255
   go_wp2
   go_ret;exact⟨rfl,rfl⟩
 by_cases h6:s=[111,110,101,111,102,91]
 · subst h6
   go_enter Tryz.func255,Tryz.ntmps255
   go_wp2
   go_ret;exact⟨rfl,rfl⟩
 have H:Hid (wk s=0):=by show _=_;unfold wk;rw[if_neg h1,if_neg h2,if_neg h3,if_neg h4,if_neg h5,if_neg h6]
 have g1:(s==[105,110,116])=false:=by simpa using h1
 have g2:(s==[98,111,111,108])=false:=by simpa using h2
 have g3:(s==[110,117,108,108])=false:=by simpa using h3
 have g4:(s==[97,114,114,97,121,91])=false:=by simpa using h4
 have g5:(s==[114,101,99,111,114,100,91])=false:=by simpa using h5
 have g6:(s==[111,110,101,111,102,91])=false:=by simpa using h6
 clear h1 h2 h3 h4 h5 h6
 go_enter Tryz.func255,Tryz.ntmps255
 go_wp2
 go_ret
 exact⟨by rw[H.out];rfl,rfl⟩
end Go.Proofs.YtakgjcfkdemipaaGreatDoor
