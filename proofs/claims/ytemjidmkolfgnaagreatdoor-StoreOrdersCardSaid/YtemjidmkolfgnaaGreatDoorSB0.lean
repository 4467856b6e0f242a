/-
  Lemmas for the statement: the order of texts (plain). Conditions: bounds of lengths; the variable strings.asciiSpace.
-/
import Derived.BigQuiet
import Derived.Deep.RegionHeld3
import Derived.Laws.EntriesVeiled
import Derived.Lib.Hide
import Derived.StillTailTactics
import Derived.Test.YtemjidmkolfgnaaGreatDoorRows
import Derived.WalkLawsBesides
import Derived.WalkSpells
import Derived.Test.YtemjidmkolfgnaaGreatDoorSBn
set_option maxHeartbeats 800000
namespace Go.Proofs.YtemjidmkolfgnaaGreatDoor
section
open Go.RowKit
@[go_sem] theorem J7 (l:List UInt8) (k:Nat) (h:k<(⟨l.toArray⟩:ByteArray).size):(⟨l.toArray⟩:ByteArray)[k]'h=l[k]'h:=rfl
@[go_sem] theorem kS (l : List UInt8) (a b : Nat) : (⟨l.toArray⟩ : ByteArray).extract a b = ⟨((l.take b).drop a).toArray⟩ := by
 apply ByteArray.ext
 simp[ByteArray.data_extract,List.extract_eq_take_drop,List.drop_take]
abbrev str (l:List UInt8):Value:=.string ⟨l.toArray⟩
end
section
def dK (c:UInt8):Bool:=(decide (97≤c.toNat)&&decide (c.toNat≤122))||(decide (48≤c.toNat)&&decide (c.toNat≤57))
def ah (l:List UInt8):Nat:=(l.takeWhile dK).length
theorem eE (l:List UInt8):ah l≤l.length:=by
 unfold ah
 exact(List.takeWhile_sublist dK).length_le
theorem bf (c:UInt8) (l:List UInt8):ah (c::l)=if dK c then ah l+1 else 0:=by
 unfold ah
 rw[List.takeWhile_cons]
 split<;>simp
theorem r6:∀(k:Nat) (l:List UInt8),k≤ah l→(h:k<l.length)→dK l[k]=false→ah l=k
 | 0,[],_,h,_=>by simp at h
 | 0,c::l,_,_,ha=>by rw[bf];simp at ha;simp[ha]
 | k+1,[],_,h,_=>by simp at h
 | k+1,c::l,hk,h,ha=>by
  rw[bf] at hk ⊢;split at hk
  · rename_i hc
    rw[if_pos hc,r6 k l (by omega) (by simpa using h) (by simpa using ha)]
  · omega
theorem r5:∀(k:Nat) (l:List UInt8),k≤ah l→(h:k<l.length)→dK l[k]=true→k+1≤ah l
 | 0,[],_,h,_=>by simp at h
 | 0,c::l,_,_,ha=>by rw[bf];simp at ha;simp[ha]
 | k+1,[],_,h,_=>by simp at h
 | k+1,c::l,hk,h,ha=>by
  rw[bf] at hk ⊢;split at hk
  · rename_i hc
    rw[if_pos hc];have:=r5 k l (by omega) (by simpa using h) (by simpa using ha);omega
  · omega
theorem Dk (k:Nat) (l:List UInt8) (h1:k≤ah l) (h2:¬k<l.length):ah l=k:=by
 have:=eE l;omega
theorem vk (c:UInt8):(dK c=true∧(((97:Int)≤(c.toNat:Int)∧(c.toNat:Int)≤122)∨((48:Int)≤(c.toNat:Int)∧(c.toNat:Int)≤57)))∨
 (dK c=false∧((c.toNat:Int)<48∨((57:Int)<(c.toNat:Int)∧(c.toNat:Int)<97)∨(122:Int)<(c.toNat:Int))):=by
 simp only[dK,Bool.or_eq_true,Bool.and_eq_true,decide_eq_true_eq,Bool.or_eq_false_iff,Bool.and_eq_false_iff,decide_eq_false_iff_not]
 omega
def cE:List (List UInt8):=[[97,110,100],[97,114,114,97,121],[98,101,103,105,110],[98,111,111,108],[98,114,101,97,107],[99,108,117,115,116,101,114],[100,111],[100,111,119,110],[101,108,115,101],[101,108,115,101,105,102],[101,110,100],[101,120,99,101,112,116],[102,97,108,115,101],[102,111,114],[104,97,115],[105,102],[105,110],[105,110,116],[105,115],[105,116,101,114],[109,111,100],[110,105,108],[110,111,116],[110,117,108,108],[111,110,101,111,102],[111,114],[111,116,104,101,114,115],[112,114,111,99],[112,117,116],[114,101,99,111,114,100],[114,101,112],[114,101,116,117,114,110],[114,101,116,117,114,110,115],[115,105,103,110,97,108],[115,105,103,110,97,108,115],[116,97,103],[116,97,103,99,97,115,101],[116,104,101,110],[116,114,117,101],[117,112],[118,97,114],[119,104,101,110],[119,104,101,114,101],[119,104,105,108,101],[121,105,101,108,100],[121,105,101,108,100,115]]
def isWord (l:List UInt8):Bool:=cE.contains l
def low (c:UInt8):Bool:=decide (97≤c.toNat)&&decide (c.toNat≤122)
def isName (l:List UInt8):Bool:=
 match l with
 | []=>false
 | c::r=>decide ((c::r).length≤12)&&low c&&decide (ah (c::r)=(c::r).length)&& !isWord (c::r)
def hasB (ss:List (List UInt8)) (s:List UInt8):Bool:=ss.contains s
end
section
open Go.RowKit
def aA (ss:List (List UInt8)):List Value:=ss.map str
theorem nT (ss:List (List UInt8)) (j:Nat) (h:j<ss.length):(aA ss)[j]? =some (str ss[j]):=by simp[aA,h]
theorem fN {a b:Bool} (h:a=b):Ending.returned (.bool a)=.returned (.bool b):=by rw[h]
theorem Fe (l:List UInt8) (b:Nat) (w:World) (hl:l.length≤maxLen) (hc:w.cell? ⟨b,0,none⟩=some (str l)) (hf:w.frozen? ⟨b,0,none⟩=false):
 Calls Tryz.prog 236 #[.pointer (some ⟨b,0,none⟩)] w λe w'=>e=.returned (str (l.take (ah l)))∧w'=w.setCell ⟨b,0,none⟩ (str (l.drop (ah l))):=by
 unfold maxLen at hl
 go_enter Tryz.func236,Tryz.ntmps236
 go_wp2
 go_loop [3] (λi=>∃k:Nat,k≤l.length∧k≤ah l∧i=.int .i64 k) (λi=>l.length - (intOf i).toNat)
 case atStart=>exact⟨0,by omega,by omega,rfl⟩
 case round =>
  obtain⟨k,hk,hn,rfl⟩:=hrel
  by_cases hlt:k<l.length
  · have hs:=r6 k l hn hlt
    have ht:=r5 k l hn hlt;rcases vk l[k] with⟨ha,hc⟩|⟨ha,hc⟩
    · have Hn:=ht ha
      clear ht hs ha;rcases hc with⟨h1,h2⟩|⟨h1,h2⟩
      all_goals
       go_wp2_with fail
       go_round
       case rel=>exact⟨k+1,by omega,by omega,by go_num⟩
       case measure=>simp[intOf];omega
    · have Hn:Hid _:=hs ha
      clear ht hs ha;rcases hc with h1|⟨h1,h2⟩|h1
      all_goals
       go_wp2_with fail;go_ret;rw[Hn.out];exact⟨rfl,rfl⟩
  · have Hn:Hid _:=Dk k l hn hlt
    go_wp2_with fail;go_ret;rw[Hn.out];exact⟨rfl,rfl⟩
end
section
inductive Fo where
 | nil
 | cons (pn:List UInt8) (k:Nat) (n:List UInt8) (sub rest:Fo)
structure Tr where
 k:Nat
 n:List UInt8
 sub:Fo
namespace Fo
def len:Fo→Nat
 | nil=>0
 | cons _ _ _ _ rest=>rest.len+1
def level:Fo→Nat
 | nil=>0
 | cons _ _ _ sub rest=>max (sub.level+1) rest.level
end Fo
def Tr.level (t:Tr):Nat:=t.sub.level+1
def Fo.one (t:Tr):Fo:=.cons [] t.k t.n t.sub .nil
def J5:List UInt8:=[105,110,116]
def Fb:List UInt8:=[98,111,111,108]
def Fc:List UInt8:=[110,117,108,108]
def gi:List UInt8:=[97,114,114,97,121]
def ij:List UInt8:=[114,101,99,111,114,100]
def j8:List UInt8:=[111,110,101,111,102]
def bU (w:List UInt8):Nat:=if w=J5 then 1 else if w=Fb then 2 else if w=Fc then 3 else 0
def aS (w:List UInt8):Nat:=if w=gi then 4 else if w=ij then 5 else if w=j8 then 6 else 0
def pA : Nat → Option (List UInt8) → List UInt8 → Option (Fo × List UInt8)
 | 0,_,_=>none
 | f + 1, none, s =>
  match s with
  | 63::116::r=>some (.cons [] 8 [] .nil .nil,r)
  | _=>
   let w:=s.take (ah s)
   let s1:=s.drop (ah s)
   if bU w≠0 then some (.cons [] (bU w) [] .nil .nil,s1)
   else if aS w=5∨aS w=6 then
    match s1 with
    | 91::s2=>match pA f (some []) s2 with
     | some (fo,93::r)=>if fo.len≤6 then some (.cons [] (aS w) w fo .nil,r) else none
     | _=>none
    | _=>none
   else if aS w=4∨isName w=true then
    match s1 with
    | 91::s2=>match pA f none s2 with
     | some (fo,93::r)=>some (.cons [] (if aS w=4 then 4 else 7) w fo .nil,r)
     | _=>none
    | _=>if aS w=4 then none else some (.cons [] 7 w .nil .nil,s1)
   else none
 | f + 1, some b, s =>
  let w:=s.take (ah s)
  if isName w = true ∧ Op.bytesLess b w = true then
   match s.drop (ah s) with
   | 58::s2=>match pA f none s2 with
    | some (.cons _ k n sub _,r)=>match r with
     | 44::r2=>match pA f (some w) r2 with
      | some (fo,r3)=>some (.cons w k n sub fo,r3)
      | none=>none
     | _=>some (.cons w k n sub .nil,r)
    | _=>none
   | _=>none
  else none
theorem gG (f:Nat) (r:List UInt8):pA (f+1) none (63::116::r)=some (.cons [] 8 [] .nil .nil,r):=by simp[pA]
def dR (s:List UInt8):Prop:=∀r,s≠63::116::r
def pW (f:Nat) (w s1:List UInt8):Option (Fo×List UInt8):=
 if bU w≠0 then some (.cons [] (bU w) [] .nil .nil,s1)
 else if aS w=5∨aS w=6 then
  match s1 with
  | 91::s2=>match pA f (some []) s2 with
   | some (fo,93::r)=>if fo.len≤6 then some (.cons [] (aS w) w fo .nil,r) else none
   | _=>none
  | _=>none
 else if aS w=4∨isName w=true then
  match s1 with
  | 91::s2=>match pA f none s2 with
   | some (fo,93::r)=>some (.cons [] (if aS w=4 then 4 else 7) w fo .nil,r)
   | _=>none
  | _=>if aS w=4 then none else some (.cons [] 7 w .nil .nil,s1)
 else none
theorem jd (f:Nat) (s:List UInt8) (h:dR s):pA (f+1) none s=pW f (s.take (ah s)) (s.drop (ah s)):=by
 rw[pA]
 · rfl
 · exact λr e=>h r e
def pV (f : Nat) (w s1 : List UInt8) : Option (Fo × List UInt8) :=
 match s1 with
 | 58::s2=>match pA f none s2 with
  | some (.cons _ k n sub _,r)=>match r with
   | 44::r2=>match pA f (some w) r2 with
    | some (fo,r3)=>some (.cons w k n sub fo,r3)
    | none=>none
   | _=>some (.cons w k n sub .nil,r)
  | _=>none
 | _=>none
theorem gX (f:Nat) (b s:List UInt8):pA (f+1) (some b) s=if isName (s.take (ah s))=true∧Op.bytesLess b (s.take (ah s))=true then pV f (s.take (ah s)) (s.drop (ah s)) else none:=rfl
theorem It : ∀ (f : Nat) (tag : Option (List UInt8)) (s : List UInt8) (fo : Fo) (r : List UInt8), pA f tag s = some (fo, r) → r.length < s.length := by
 intro f
 induction f with
 | zero=>intro tag s fo r h;simp[pA] at h
 | succ f ih =>
  intro tag s fo r h;have hc:=eE s;have hd:(s.drop (ah s)).length=s.length - ah s:=by simp
  have hw:∀w,s.take (ah s)=w→w.length=ah s:=by intro w e;rw[←e];simp;omega
  cases tag with
  | none =>
   by_cases hp:dR s
   · rw [jd f s hp] at h
     generalize s.drop (ah s)=s1 at h hd;generalize s.take (ah s)=w at h hw;have hw:=hw w rfl;unfold pW at h;split at h
     · rename_i h0
       have:0<w.length:=by
        cases w with
        | nil=>exact absurd rfl h0
        | cons=>simp
       simp only[Option.some.injEq,Prod.mk.injEq] at h;obtain⟨_,rfl⟩:=h;omega
     · split at h
       · split at h
         · rename_i s2
           split at h
           · rename_i Nw r2 e2
             split at h
             · have:=ih _ _ _ _ e2
               simp only[Option.some.injEq,Prod.mk.injEq] at h;obtain⟨_,rfl⟩:=h;simp at hd this;omega
             · simp at h
           · simp at h
         · simp at h
       · split at h
         · rename_i hk
           split at h
           · rename_i s2
             split at h
             · rename_i Nw r2 e2
               have:=ih _ _ _ _ e2;simp only[Option.some.injEq,Prod.mk.injEq] at h;obtain⟨_,rfl⟩:=h;simp at hd this;omega
             · simp at h
           · split at h
             · simp at h
             · rename_i h4
               have hn:isName w=true:=hk.resolve_left h4;have:0<w.length:=by
                cases w with
                | nil=>simp[isName] at hn
                | cons=>simp
               simp only[Option.some.injEq,Prod.mk.injEq] at h;obtain⟨_,rfl⟩:=h;omega
         · simp at h
   · unfold dR at hp
     simp only[ne_eq,Classical.not_forall,Decidable.not_not] at hp;obtain⟨r',rfl⟩:=hp;rw[gG] at h;simp only[Option.some.injEq,Prod.mk.injEq] at h;obtain⟨_,rfl⟩:=h;simp;omega
  | some b =>
   rw[gX] at h;split at h
   · generalize s.drop (ah s)=s1 at h hd
     unfold pV at h;split at h
     · rename_i s2
       split at h
       · rename_i k n sub _ r1 e1
         have:=ih _ _ _ _ e1;split at h
         · split at h
           · rename_i e2
             have:=ih _ _ _ _ e2;simp only[Option.some.injEq,Prod.mk.injEq] at h;obtain⟨_,rfl⟩:=h;simp at hd this;simp at *;omega
           · simp at h
         · simp only[Option.some.injEq,Prod.mk.injEq] at h
           obtain⟨_,rfl⟩:=h;simp at hd;omega
       · simp at h
     · simp at h
   · simp at h
theorem Aw : ∀ (f g : Nat) (tag : Option (List UInt8)) (s : List UInt8), s.length < f → s.length < g → pA f tag s = pA g tag s := by
 intro f
 induction f with
 | zero=>intro g tag s h;omega
 | succ f ih =>
  intro g tag s hf hg;cases g with
  | zero=>omega
  | succ g=>
   have hc:=eE s;have hd:(s.drop (ah s)).length=s.length - ah s:=by simp
   cases tag with
   | none =>
    by_cases hp:dR s
    · rw [jd f s hp, jd g s hp]
      generalize s.drop (ah s)=s1 at hd;generalize s.take (ah s)=w;unfold pW;split
      · rfl
      · split
        · split
          · rename_i s2
            simp at hd;rw[ih g (some []) s2 (by omega) (by omega)]
          · rfl
        · split
          · split
            · rename_i s2
              simp at hd;rw[ih g none s2 (by omega) (by omega)]
            · rfl
          · rfl
    · unfold dR at hp
      simp only[ne_eq,Classical.not_forall,Decidable.not_not] at hp;obtain⟨r',rfl⟩:=hp;rw[gG,gG]
   | some b =>
    rw[gX,gX];split
    · generalize s.drop (ah s)=s1 at hd
      unfold pV;split
      · rename_i s2
        simp at hd;rw[ih g none s2 (by omega) (by omega)];split
        · rename_i k n sub _ r1 e1
          have:=It _ _ _ _ _ e1;split
          · rename_i r2
            simp at this;rw[ih g (some _) r2 (by omega) (by omega)]
          · rfl
        · rfl
      · rfl
    · rfl
theorem JV (f : Nat) (s : List UInt8) (fo : Fo) (r : List UInt8) (h : pA f none s = some (fo, r)) : ∃ t : Tr, fo = .one t := by
 cases f with
 | zero=>simp[pA] at h
 | succ f =>
  by_cases hp:dR s
  · rw [jd f s hp] at h
    generalize s.drop (ah s)=s1 at h;generalize s.take (ah s)=w at h;unfold pW at h;split at h
    · simp only[Option.some.injEq,Prod.mk.injEq] at h
      exact⟨⟨_,_,_⟩,h.1.symm⟩
    · split at h
      · split at h
        · split at h
          · split at h
            · simp only[Option.some.injEq,Prod.mk.injEq] at h
              exact⟨⟨_,_,_⟩,h.1.symm⟩
            · simp at h
          · simp at h
        · simp at h
      · split at h
        · split at h
          · split at h
            · simp only[Option.some.injEq,Prod.mk.injEq] at h
              exact⟨⟨_,_,_⟩,h.1.symm⟩
            · simp at h
          · split at h
            · simp at h
            · simp only[Option.some.injEq,Prod.mk.injEq] at h
              exact⟨⟨_,_,_⟩,h.1.symm⟩
        · simp at h
  · unfold dR at hp
    simp only[ne_eq,Classical.not_forall,Decidable.not_not] at hp;obtain⟨r',rfl⟩:=hp;rw[gG] at h;simp only[Option.some.injEq,Prod.mk.injEq] at h;exact⟨⟨_,_,_⟩,h.1.symm⟩
def Ac:Option (Fo×List UInt8)→Option (Tr×List UInt8)
 | some (.cons _ k n sub _,r)=>some (⟨k,n,sub⟩,r)
 | _=>none
def aI (s:List UInt8):Option (Tr×List UInt8):=Ac (pA (s.length+1) none s)
def b8 (b s:List UInt8):Option (Fo×List UInt8):=pA (s.length+1) (some b) s
theorem sP {f:Nat} {b s:List UInt8} (h:s.length<f):pA f (some b) s=b8 b s:=Aw _ _ _ _ h (by omega)
theorem iN {f:Nat} {s:List UInt8} (h:s.length<f):pA f none s=(aI s).map λx=>(Fo.one x.1,x.2):=by
 rw[Aw f (s.length+1) none s h (by omega)]
 unfold aI
 cases hx:pA (s.length+1) none s with
 | none=>rfl
 | some x=>
  obtain⟨fo,r⟩:=x;obtain⟨t,rfl⟩:=JV _ _ _ _ hx
  rfl
theorem sS {s r:List UInt8} {t:Tr} (h:aI s=some (t,r)):r.length<s.length:=by
 refine It (s.length+1) none s (.one t) r ?_
 rw[iN (by omega),h];rfl
theorem mN (r:List UInt8):aI (63::116::r)=some (⟨8,[],.nil⟩,r):=by
 unfold aI;rw[gG];rfl
theorem dS (s:List UInt8) (h:dR s):aI s=Ac (pW s.length (s.take (ah s)) (s.drop (ah s))):=by
 unfold aI;rw[jd _ _ h]
section
variable {s:List UInt8} (hp:dR s)
include hp
theorem oD (h0:bU (s.take (ah s))≠0):aI s=some (⟨bU (s.take (ah s)),[],.nil⟩,s.drop (ah s)):=by
 rw[dS s hp];unfold pW;rw[if_pos h0];rfl
theorem lp (h0:bU (s.take (ah s))=0) (hk:aS (s.take (ah s))=5∨aS (s.take (ah s))=6) (hb:∀r,s.drop (ah s)≠91::r):aI s=none:=by
 rw[dS s hp];unfold pW;rw[if_neg (by simpa using h0),if_pos hk]
 split
 · rename_i e;exact absurd e (hb _)
 · rfl
theorem qC (h0:bU (s.take (ah s))=0) (hk:aS (s.take (ah s))=5∨aS (s.take (ah s))=6) {s2:List UInt8} (hb:s.drop (ah s)=91::s2):
 aI s=match b8 [] s2 with
  | some (fo,93::r)=>if fo.len≤6 then some (⟨aS (s.take (ah s)),s.take (ah s),fo⟩,r) else none
  | _=>none:=by
 have hl:s2.length<s.length:=by
  have:(s.drop (ah s)).length=s.length - ah s:=by simp
  rw[hb] at this;simp at this;omega
 rw[dS s hp];unfold pW;rw[if_neg (by simpa using h0),if_pos hk,hb]
 simp only
 rw[sP hl]
 rcases b8 [] s2 with _|⟨fo,r⟩
 · rfl
 · split
   · split<;>simp_all[Ac]
   · rfl
theorem je (h0:bU (s.take (ah s))=0) (hk:aS (s.take (ah s))=4∨(aS (s.take (ah s))=0∧isName (s.take (ah s))=true)) {s2:List UInt8} (hb:s.drop (ah s)=91::s2):
 aI s=match aI s2 with
  | some (t,93::r)=>some (⟨if aS (s.take (ah s))=4 then 4 else 7,s.take (ah s),.one t⟩,r)
  | _=>none:=by
 have hl:s2.length<s.length:=by
  have:(s.drop (ah s)).length=s.length - ah s:=by simp
  rw[hb] at this;simp at this;omega
 rw[dS s hp];unfold pW;rw[if_neg (by simpa using h0),if_neg (by omega),if_pos (by rcases hk with hk|hk;exact .inl hk;exact .inr hk.2),hb]
 simp only
 rw[iN hl]
 rcases aI s2 with _|⟨fo,r⟩
 · rfl
 · simp only[Option.map_some]
   split
   · simp_all[Ac]
   · split
     · simp_all
     · rfl
theorem rL (h0:bU (s.take (ah s))=0) (hk:aS (s.take (ah s))=4) (hb:∀r,s.drop (ah s)≠91::r):aI s=none:=by
 rw[dS s hp];unfold pW;rw[if_neg (by simpa using h0),if_neg (by omega),if_pos (.inl hk)]
 split
 · rename_i e;exact absurd e (hb _)
 · rw[if_pos hk];rfl
theorem oC (h0:bU (s.take (ah s))=0) (hk:aS (s.take (ah s))=0) (hn:isName (s.take (ah s))=true) (hb:∀r,s.drop (ah s)≠91::r):
 aI s=some (⟨7,s.take (ah s),.nil⟩,s.drop (ah s)):=by
 rw[dS s hp];unfold pW;rw[if_neg (by simpa using h0),if_neg (by omega),if_pos (.inr hn)]
 split
 · rename_i e;exact absurd e (hb _)
 · rw[if_neg (by omega)];rfl
theorem zc (h0:bU (s.take (ah s))=0) (hk:aS (s.take (ah s))=0) (hn:isName (s.take (ah s))=false):aI s=none:=by
 rw[dS s hp];unfold pW;rw[if_neg (by simpa using h0),if_neg (by omega),if_neg (by simp[hn];omega)];rfl
end
theorem za {b s:List UInt8} (h:¬(isName (s.take (ah s))=true∧Op.bytesLess b (s.take (ah s))=true)):b8 b s=none:=by
 unfold b8;rw[gX,if_neg h]
theorem uJ {b s:List UInt8} (h:∀r,s.drop (ah s)≠58::r):b8 b s=none:=by
 unfold b8;rw[gX]
 split
 · unfold pV
   split
   · rename_i e;exact absurd e (h _)
   · rfl
 · rfl
theorem nO {b s s2:List UInt8} (h1:isName (s.take (ah s))=true) (h2:Op.bytesLess b (s.take (ah s))=true) (hb:s.drop (ah s)=58::s2):
 b8 b s=match aI s2 with
  | some (t,r)=>match r with
   | 44::r2=>match b8 (s.take (ah s)) r2 with
    | some (fo,r3)=>some (.cons (s.take (ah s)) t.k t.n t.sub fo,r3)
    | none=>none
   | _=>some (.cons (s.take (ah s)) t.k t.n t.sub .nil,r)
  | none=>none:=by
 have hl:s2.length<s.length:=by
  have:(s.drop (ah s)).length=s.length - ah s:=by simp
  rw[hb] at this;simp at this;omega
 unfold b8
 rw[gX,if_pos ⟨h1,h2⟩,hb]
 unfold pV
 simp only
 rw[iN hl]
 rcases hx:aI s2 with _|⟨t,r⟩
 · rfl
 · simp only[Option.map_some]
   have hr:=sS hx;rw[show Fo.one t=.cons [] t.k t.n t.sub .nil from rfl];dsimp only;split
   · rename_i r2
     rw[sP (by simp at hr;omega)]
     rfl
   · rfl
theorem Dt : ∀ (f : Nat) (tag : Option (List UInt8)) (s : List UInt8) (fo : Fo) (r : List UInt8), pA f tag s = some (fo, r) → fo.level + r.length ≤ s.length := by
 intro f
 induction f with
 | zero=>intro tag s fo r h;simp[pA] at h
 | succ f ih =>
  intro tag s fo r h;have hc:=eE s;have hd:(s.drop (ah s)).length=s.length - ah s:=by simp
  have hw:∀w,s.take (ah s)=w→w.length=ah s:=by intro w e;rw[←e];simp;omega
  cases tag with
  | none =>
   by_cases hp:dR s
   · rw [jd f s hp] at h
     generalize s.drop (ah s)=s1 at h hd;generalize s.take (ah s)=w at h hw;have hw:=hw w rfl;unfold pW at h;split at h
     · rename_i h0
       have:0<w.length:=by
        cases w with
        | nil=>exact absurd rfl h0
        | cons=>simp
       simp only[Option.some.injEq,Prod.mk.injEq] at h;obtain⟨rfl,rfl⟩:=h;simp[Fo.level];omega
     · split at h
       · split at h
         · split at h
           · rename_i e2
             split at h
             · have:=ih _ _ _ _ e2
               simp only[Option.some.injEq,Prod.mk.injEq] at h;obtain⟨rfl,rfl⟩:=h;simp[Fo.level] at hd this ⊢;omega
             · simp at h
           · simp at h
         · simp at h
       · split at h
         · rename_i hk
           split at h
           · split at h
             · rename_i e2
               have:=ih _ _ _ _ e2;simp only[Option.some.injEq,Prod.mk.injEq] at h;obtain⟨rfl,rfl⟩:=h;simp[Fo.level] at hd this ⊢;omega
             · simp at h
           · split at h
             · simp at h
             · rename_i h4
               have hn:isName w=true:=hk.resolve_left h4;have:0<w.length:=by
                cases w with
                | nil=>simp[isName] at hn
                | cons=>simp
               simp only[Option.some.injEq,Prod.mk.injEq] at h;obtain⟨rfl,rfl⟩:=h;simp[Fo.level];omega
         · simp at h
   · unfold dR at hp
     simp only[ne_eq,Classical.not_forall,Decidable.not_not] at hp;obtain⟨r',rfl⟩:=hp;rw[gG] at h;simp only[Option.some.injEq,Prod.mk.injEq] at h;obtain⟨rfl,rfl⟩:=h;simp[Fo.level];omega
  | some b =>
   rw[gX] at h;split at h
   · generalize s.drop (ah s)=s1 at h hd
     unfold pV at h;split at h
     · split at h
       · rename_i e1
         have h1:=ih _ _ _ _ e1;split at h
         · split at h
           · rename_i e2
             have h2:=ih _ _ _ _ e2;simp only[Option.some.injEq,Prod.mk.injEq] at h;obtain⟨rfl,rfl⟩:=h;simp[Fo.level] at hd h1 h2 ⊢;omega
           · simp at h
         · simp only[Option.some.injEq,Prod.mk.injEq] at h
           obtain⟨rfl,rfl⟩:=h;simp[Fo.level] at hd h1 ⊢;omega
       · simp at h
     · simp at h
   · simp at h
def dr (k:Nat) (n:List UInt8):List UInt8:=
 if k=1 then J5 else if k=2 then Fb else if k=3 then Fc else if k=4 then gi else if k=5 then ij else if k=6 then j8 else if k=8 then [63,116] else n
def di:List (List UInt8)→List UInt8
 | []=>[]
 | [a]=>a
 | a::b::l=>a++44::di (b::l)
def uK (pn:List UInt8):List UInt8:=if pn=[] then [] else pn++[58]
def Fo.txt:Fo→List (List UInt8)
 | .nil=>[]
 | .cons pn k n .nil rest=>(uK pn++dr k n)::rest.txt
 | .cons pn k n (.cons Iv k' n' sub' rest') rest=>(uK pn++(dr k n++91::(di (Fo.cons Iv k' n' sub' rest').txt++[93])))::rest.txt
def Tr.txt (t:Tr):List UInt8:=
 match t.sub with
 | .nil=>dr t.k t.n
 | .cons pn k n sub rest=>dr t.k t.n++91::(di (Fo.cons pn k n sub rest).txt++[93])
inductive Wf:Option (List UInt8)→Fo→Prop where
 | par:Wf none (.cons [] 8 [] .nil .nil)
 | word (k:Nat) (h:k=1∨k=2∨k=3):Wf none (.cons [] k [] .nil .nil)
 | arr (a:Fo) (h:Wf none a):Wf none (.cons [] 4 gi a .nil)
 | rcd (k:Nat) (w:List UInt8) (fo:Fo) (hk:k=5∧w=ij∨k=6∧w=j8) (h:Wf (some []) fo) (hl:fo.len≤6):Wf none (.cons [] k w fo .nil)
 | nam (n:List UInt8) (hn:isName n=true):Wf none (.cons [] 7 n .nil .nil)
 | app (n:List UInt8) (a:Fo) (hn:isName n=true) (h:Wf none a):Wf none (.cons [] 7 n a .nil)
 | last (b pn:List UInt8) (k:Nat) (n:List UInt8) (sub:Fo) (hn:isName pn=true) (hb:Op.bytesLess b pn=true) (h:Wf none (.cons [] k n sub .nil)):Wf (some b) (.cons pn k n sub .nil)
 | more (b pn:List UInt8) (k:Nat) (n:List UInt8) (sub rest:Fo) (hn:isName pn=true) (hb:Op.bytesLess b pn=true) (h:Wf none (.cons [] k n sub .nil)) (h2:Wf (some pn) rest):Wf (some b) (.cons pn k n sub rest)
theorem Wf.one {fo:Fo} (h:Wf none fo):∃t:Tr,fo=.one t:=by
 cases h<;>exact⟨⟨_,_,_⟩,rfl⟩
theorem Wf.ne {b:List UInt8} {fo:Fo} (h:Wf (some b) fo):fo≠ .nil:=by
 cases h<;>simp
def Fo.tx (fo:Fo):List UInt8:=di fo.txt
def Fo.br:Fo→List UInt8
 | .nil=>[]
 | .cons pn k n sub rest=>91::((Fo.cons pn k n sub rest).tx++[93])
theorem Fo.nY {fo:Fo} (h:fo≠ .nil):fo.br=91::(fo.tx++[93]):=by
 cases fo with
 | nil=>exact absurd rfl h
 | cons=>rfl
theorem Fo.dz (k:Nat) (n:List UInt8) (sub:Fo):(Fo.cons [] k n sub .nil).tx=dr k n++sub.br:=by
 cases sub<;>simp[Fo.tx,Fo.txt,di,uK,Fo.br]
theorem Fo.jl (pn:List UInt8) (k:Nat) (n:List UInt8) (sub:Fo):(Fo.cons pn k n sub .nil).tx=uK pn++(Fo.cons [] k n sub .nil).tx:=by
 rw[Fo.dz]
 cases sub<;>simp[Fo.tx,Fo.txt,di,Fo.br]
theorem Fo.jm (pn:List UInt8) (k:Nat) (n:List UInt8) (sub rest:Fo) (hr:rest≠ .nil):(Fo.cons pn k n sub rest).tx=uK pn++((Fo.cons [] k n sub .nil).tx++44::rest.tx):=by
 rw[Fo.dz]
 cases rest with
 | nil=>exact absurd rfl hr
 | cons Iv k' n' sub' rest'=>
  cases sub<;>cases sub'<;>simp[Fo.tx,Fo.txt,di,Fo.br]
theorem Tr.l8 (t:Tr):t.txt=(Fo.one t).tx:=by
 obtain⟨k,n,sub⟩:=t
 rw[Fo.one,Fo.dz]
 cases sub<;>simp[Tr.txt,Fo.br,Fo.tx]
theorem uE {n:List UInt8} (h:isName n=true):n≠[]:=by rintro rfl;simp[isName] at h
theorem dF {n:List UInt8} (h:isName n=true):uK n=n++[58]:=by unfold uK;rw[if_neg (uE h)]
theorem yP {w:List UInt8} (h:bU w≠0):(bU w=1∨bU w=2∨bU w=3)∧dr (bU w) []=w:=by
 unfold bU at h ⊢
 split
 · rename_i e;exact⟨.inl rfl,by simp[dr,e]⟩
 · split
   · rename_i e;exact⟨.inr (.inl rfl),by simp[dr,e]⟩
   · split
     · rename_i e;exact⟨.inr (.inr rfl),by simp[dr,e]⟩
     · simp_all
theorem Bw {w:List UInt8} (h:aS w=5∨aS w=6):(aS w=5∧w=ij∨aS w=6∧w=j8)∧∀n,dr (aS w) n=w:=by
 by_cases h1:w=gi
 · subst h1;exact absurd h (by decide)
 · by_cases h2:w=ij
   · subst h2;exact⟨.inl ⟨by decide,rfl⟩,λn=>by rw[show aS ij=5 from by decide];rfl⟩
   · by_cases h3:w=j8
     · subst h3;exact⟨.inr ⟨by decide,rfl⟩,λn=>by rw[show aS j8=6 from by decide];rfl⟩
     · unfold aS at h;rw[if_neg h1,if_neg h2,if_neg h3] at h;omega
theorem Bv {w:List UInt8} (h:aS w=4):w=gi:=by
 unfold aS at h
 split at h
 · assumption
 · split at h
   · omega
   · split at h<;>omega
theorem Nf:∀(f:Nat) (tag:Option (List UInt8)) (s:List UInt8) (fo:Fo) (r:List UInt8),pA f tag s=some (fo,r)→Wf tag fo∧s=fo.tx++r:=by
 intro f
 induction f with
 | zero=>intro tag s fo r h;simp[pA] at h
 | succ f ih =>
  intro tag s fo r h;have hd:s=s.take (ah s)++s.drop (ah s):=(List.take_append_drop _ _).symm;cases tag with
  | none =>
   by_cases hp:dR s
   · rw [jd f s hp] at h
     generalize s.drop (ah s)=s1 at h hd;generalize s.take (ah s)=w at h hd;unfold pW at h;split at h
     · rename_i h0
       obtain⟨h1,h2⟩:=yP h0;simp only[Option.some.injEq,Prod.mk.injEq] at h;obtain⟨rfl,rfl⟩:=h;refine⟨.word _ h1,?_⟩;rw[Fo.dz,h2,hd];simp[Fo.br]
     · split at h
       · rename_i hk
         obtain⟨h1,h2⟩:=Bw hk;split at h
         · rename_i s2
           split at h
           · rename_i Nw r2 e2
             split at h
             · rename_i hl
               obtain⟨i1,i2⟩:=ih _ _ _ _ e2;simp only[Option.some.injEq,Prod.mk.injEq] at h;obtain⟨rfl,rfl⟩:=h;refine⟨.rcd _ _ _ h1 i1 hl,?_⟩;rw[Fo.dz,h2,Fo.nY i1.ne,hd,i2];simp
             · simp at h
           · simp at h
         · simp at h
       · rename_i Wr
         split at h
         · rename_i hk
           split at h
           · rename_i s2
             split at h
             · rename_i Nw r2 e2
               obtain⟨i1,i2⟩:=ih _ _ _ _ e2;have hne:Nw≠ .nil:=by obtain⟨t,rfl⟩:=i1.one;simp[Fo.one]
               simp only[Option.some.injEq,Prod.mk.injEq] at h;obtain⟨rfl,rfl⟩:=h
               by_cases h4:aS w=4
               · have:=Bv h4
                 subst this;rw[if_pos h4];refine⟨.arr _ i1,?_⟩;rw[Fo.dz,Fo.nY hne,hd,i2];simp[dr]
               · rw[if_neg h4]
                 refine⟨.app _ _ (hk.resolve_left h4) i1,?_⟩;rw[Fo.dz,Fo.nY hne,hd,i2];simp[dr]
             · simp at h
           · split at h
             · simp at h
             · rename_i h4
               simp only[Option.some.injEq,Prod.mk.injEq] at h;obtain⟨rfl,rfl⟩:=h;refine⟨.nam _ (hk.resolve_left h4),?_⟩;rw[Fo.dz,hd];simp[Fo.br,dr]
         · simp at h
   · unfold dR at hp
     simp only[ne_eq,Classical.not_forall,Decidable.not_not] at hp;obtain⟨r',rfl⟩:=hp;rw[gG] at h;simp only[Option.some.injEq,Prod.mk.injEq] at h;obtain⟨rfl,rfl⟩:=h;exact⟨.par,by rw[Fo.dz];simp[dr,Fo.br]⟩
  | some b =>
   rw[gX] at h;split at h
   · rename_i hn
     obtain⟨JC,hn2⟩:=hn;generalize s.drop (ah s)=s1 at h hd;generalize s.take (ah s)=w at h hd JC hn2;unfold pV at h;split at h
     · rename_i s2
       split at h
       · rename_i px k n sub x r1 e1
         obtain⟨i1,i2⟩:=ih _ _ _ _ e1;have hx:px=[]∧x=.nil:=by
          obtain⟨t,ht⟩:=i1.one;simp only[Fo.one,Fo.cons.injEq] at ht;exact⟨ht.1,ht.2.2.2.2⟩
         obtain⟨rfl,rfl⟩:=hx;split at h
         · split at h
           · rename_i fo r3 e2
             obtain⟨j1,j2⟩:=ih _ _ _ _ e2;simp only[Option.some.injEq,Prod.mk.injEq] at h;obtain⟨rfl,rfl⟩:=h;refine⟨.more _ _ _ _ _ _ JC hn2 i1 j1,?_⟩;rw[Fo.jm _ _ _ _ _ j1.ne,dF JC,hd,i2,j2];simp
           · simp at h
         · simp only[Option.some.injEq,Prod.mk.injEq] at h
           obtain⟨rfl,rfl⟩:=h;refine⟨.last _ _ _ _ _ JC hn2 i1,?_⟩;rw[Fo.jl,dF JC,hd,i2];simp
       · simp at h
     · simp at h
   · simp at h
def Tr.ok (t:Tr):Prop:=Wf none (.one t)
theorem BP {s r:List UInt8} {t:Tr} (h:aI s=some (t,r)):t.ok∧s=t.txt++r:=by
 rw[Tr.l8]
 refine Nf (s.length+1) none s (.one t) r ?_
 rw[iN (by omega),h];rfl
def Fo.Av:Fo→Bool
 | .nil=>false
 | .cons _ k _ sub rest=>decide (k=8)||sub.Av||rest.Av
def Tr.Av (t:Tr):Bool:=decide (t.k=8)||t.sub.Av
end
section
open Go.RowKit
theorem af {w:World} {b:Nat} {cs:Array Value} {t:TypeId} {z:Nat×Nat} (h:w.heap[b]? =some (.cells cs t z)) (j:Nat):w.cell? ⟨b,j,none⟩=cs[j]? :=by
 unfold World.cell?
 rw[h]
 simp
theorem Below.keep {W w2:World} (hb:Below W.heap.size W w2) {a:Addr} {v:Value} (h:W.cell? a=some v):w2.cell? a=some v:=
 (hb.cell (World.block_lt_of_cell? _ _ h)).trans h
theorem aa {B B':Nat} {a b:World} (h:Below B' a b) (hB:B≤B'):Below B a b:=⟨h.os,h.tape,h.output,h.size,λk hk=>h.block k (by omega)⟩
theorem aW {w:World} {base:Nat} {e:TypeId} {size n:Nat} {v:Value} {xs:List Value} (h:w.ownsRow base e size v n xs) {b:Nat} (hb:v.ownBlock=some b):b<w.heap.size:=(h.lt b hb).2
theorem aG {w w':World} {base:Nat} {e:TypeId} {size n:Nat} {v:Value} {xs:List Value} (h:w.ownsRow base e size v n xs) (hb:∀b,v.ownBlock=some b→w'.heap[b]? =w.heap[b]?):w'.ownsRow base e size v n xs:=by
 refine⟨h.1,?_⟩
 rcases h.2 with h2|⟨g,cap,cur,rfl,h3,h4,h5⟩
 · exact .inl h2
 · exact .inr ⟨g,cap,cur,rfl,h3,by rw[hb g rfl];exact h4,h5⟩
theorem aT {B:Nat} {w w':World} {base:Nat} {e:TypeId} {size n:Nat} {v:Value} {xs:List Value} (h:w.ownsRow base e size v n xs) (hb:Below B w w') (hB:w.heap.size≤B):w'.ownsRow base e size v n xs:=
 aG h λ_ e=>hb.block _ (Nat.lt_of_lt_of_le (aW h e) hB)
theorem aK {w:World} {k:Nat} {o':Obj} (o:Obj) (h:w.heap[k]? =some o'):(w.alloc o).heap[k]? =some o':=
 (((Below.refl w.heap.size w).alloc zr o).block k (Array.getElem?_eq_some_iff.1 h).1).trans h
theorem gV {w:World} {n:Nat} (hn:w.heap.size=n) (cs:Array Value) (t:TypeId):(w.alloc (.cells cs t)).heap[n]? =some (.cells cs t (0,0)):=hn▸heap_alloc_new w _
theorem au {w:World} {b:Nat} {cs:Array Value} {t:TypeId} (h:w.heap[b]? =some (.cells cs t (0,0))) (j:Nat):w.frozen? ⟨b,j,none⟩=false:=by
 unfold World.frozen?
 rw[h]
 simp
theorem fV {w:World} {b:Nat} {a0 a1 a2 a3:Value} {t:TypeId} (h:w.heap[b]? =some (.cells #[a0,a1,a2,a3] t (0,0))):
 (w.cell? ⟨b,0,none⟩=some a0∧w.cell? ⟨b,1,none⟩=some a1∧w.cell? ⟨b,2,none⟩=some a2∧w.cell? ⟨b,3,none⟩=some a3)∧
 (w.frozen? ⟨b,0,none⟩=false∧w.frozen? ⟨b,1,none⟩=false∧w.frozen? ⟨b,2,none⟩=false∧w.frozen? ⟨b,3,none⟩=false):=
 ⟨⟨(af h 0).trans rfl,(af h 1).trans rfl,(af h 2).trans rfl,(af h 3).trans rfl⟩,⟨au h 0,au h 1,au h 2,au h 3⟩⟩
theorem cH {w:World} {b:Nat} {a0 a1 a2 a3 a4:Value} {t:TypeId} (h:w.heap[b]? =some (.cells #[a0,a1,a2,a3,a4] t (0,0))):
 (w.cell? ⟨b,0,none⟩=some a0∧w.cell? ⟨b,1,none⟩=some a1∧w.cell? ⟨b,2,none⟩=some a2∧w.cell? ⟨b,3,none⟩=some a3∧w.cell? ⟨b,4,none⟩=some a4)∧
 (w.frozen? ⟨b,0,none⟩=false∧w.frozen? ⟨b,1,none⟩=false∧w.frozen? ⟨b,2,none⟩=false∧w.frozen? ⟨b,3,none⟩=false∧w.frozen? ⟨b,4,none⟩=false):=
 ⟨⟨(af h 0).trans rfl,(af h 1).trans rfl,(af h 2).trans rfl,(af h 3).trans rfl,(af h 4).trans rfl⟩,⟨au h 0,au h 1,au h 2,au h 3,au h 4⟩⟩
theorem fB {w w':World} {b K:Nat} {o:Obj} (h:w.heap[b]? =some o) (hb:Below K w w') (hK:b<K):w'.heap[b]? =some o:=(hb.block b hK).trans h
theorem aj {w:World} {b:Nat} {o:Obj} (h:w.heap[b]? =some o):b<w.heap.size:=(Array.getElem?_eq_some_iff.1 h).1
theorem aJ {w:World} {base:Nat} {e:TypeId} {size n:Nat} {v:Value} {xs:List Value} (h:w.ownsRow base e size v n xs):∃p c,v=.slice p n c:=by
 rcases h.2 with⟨rfl,rfl⟩|⟨g,cap,cur,rfl,_⟩
 · exact⟨none,0,rfl⟩
 · exact⟨some ⟨g,0,none⟩,cap,rfl⟩
def kL (w:World) (D:Nat→Prop):Fo→List Value→Prop
 | .nil,cs=>cs=[]
 | .cons pn k n sub rest,cs=>∃v cs' sc,cs=str pn::.int .u8 k::str n::v::cs'∧w.ownsRow 0 321 4 v sub.len sc∧(∀b,v.ownBlock=some b→D b)∧kL w D sub sc∧kL w D rest cs'
def ff (w:World) (D:Nat→Prop) (fo:Fo) (v:Value):Prop:=∃sc,w.ownsRow 0 321 4 v fo.len sc∧(∀b,v.ownBlock=some b→D b)∧kL w D fo sc
theorem kL.kept {w w':World} {D:Nat→Prop} (hb:∀b,D b→b<w.heap.size→w'.heap[b]? =w.heap[b]?):∀(fo:Fo) (cs:List Value),kL w D fo cs→kL w' D fo cs
 | .nil,_,h=>h
 | .cons _ _ _ sub rest,_,⟨v,cs',sc,e,h1,h2,h3,h4⟩=>
  ⟨v,cs',sc,e,aG h1 (λb e=>hb b (h2 b e) (aW h1 e)),h2,kL.kept hb sub sc h3,kL.kept hb rest cs' h4⟩
theorem kL.mono {w:World} {D D':Nat→Prop} (hD:∀b,D b→b<w.heap.size→D' b):∀(fo:Fo) (cs:List Value),kL w D fo cs→kL w D' fo cs
 | .nil,_,h=>h
 | .cons _ _ _ sub rest,_,⟨v,cs',sc,e,h1,h2,h3,h4⟩=>⟨v,cs',sc,e,h1,λb e=>hD b (h2 b e) (aW h1 e),kL.mono hD sub sc h3,kL.mono hD rest cs' h4⟩
theorem ff.kept {w w':World} {D:Nat→Prop} (hb:∀b,D b→b<w.heap.size→w'.heap[b]? =w.heap[b]?) {fo:Fo} {v:Value} (h:ff w D fo v):ff w' D fo v:=by
 obtain⟨sc,h1,h2,h3⟩:=h
 exact⟨sc,aG h1 (λb e=>hb b (h2 b e) (aW h1 e)),h2,h3.kept hb⟩
theorem ff.mono {w:World} {D D':Nat→Prop} (hD:∀b,D b→b<w.heap.size→D' b) {fo:Fo} {v:Value} (h:ff w D fo v):ff w D' fo v:=by
 obtain⟨sc,h1,h2,h3⟩:=h
 exact⟨sc,h1,λb e=>hD b (h2 b e) (aW h1 e),h3.mono hD⟩
theorem ff.nil (w:World) (D:Nat→Prop):ff w D .nil (.slice none 0 0):=⟨[],World.ownsRow_nil _ _ _ _,by intro b h;simp[Value.ownBlock] at h,rfl⟩
theorem ff.below {B:Nat} {w w':World} {D:Nat→Prop} {fo:Fo} {v:Value} (h:ff w D fo v) (hb:Below B w w') (hB:w.heap.size≤B):ff w' D fo v:=
 h.kept λb _ hlt=>hb.block b (by omega)
def Fo.app:Fo→Fo→Fo
 | .nil,g=>g
 | .cons pn k n sub rest,g=>.cons pn k n sub (rest.app g)
theorem Fo.rX:∀f g h:Fo,(f.app g).app h=f.app (g.app h)
 | .nil,_,_=>rfl
 | .cons pn k n sub rest,g,h=>by rw[Fo.app,Fo.app,Fo.app,Fo.rX rest g h]
theorem Fo.ux:∀f g:Fo,(f.app g).len=f.len+g.len
 | .nil,g=>by simp[Fo.app,Fo.len]
 | .cons pn k n sub rest,g=>by rw[Fo.app,Fo.len,Fo.ux rest g,Fo.len];omega
theorem kL.app {w:World} {D:Nat→Prop} {g:Fo} {cg:List Value} (hg:kL w D g cg):∀(fo:Fo) (cs:List Value),kL w D fo cs→kL w D (fo.app g) (cs++cg)
 | .nil,_,h=>by rw[show _=[] from h];exact hg
 | .cons _ _ _ _ rest,_,⟨v,cs',sc,e,h1,h2,h3,h4⟩=>⟨v,cs'++cg,sc,by rw[e];rfl,h1,h2,h3,kL.app hg rest cs' h4⟩
theorem kL.single {w:World} {D:Nat→Prop} {pn n:List UInt8} {k:Nat} {sub:Fo} {v:Value} (h:ff w D sub v):kL w D (.cons pn k n sub .nil) [str pn,.int .u8 k,str n,v]:=by
 obtain⟨sc,h1,h2,h3⟩:=h
 exact⟨v,[],sc,rfl,h1,h2,h3,rfl⟩
def Fo.last:Fo→List UInt8
 | .nil=>[]
 | .cons pn _ _ _ .nil=>pn
 | .cons _ _ _ _ (.cons pn k n sub rest)=>Fo.last (.cons pn k n sub rest)
theorem Fo.sK (pn:List UInt8) (k:Nat) (n:List UInt8) (sub:Fo):∀f:Fo,(f.app (.cons pn k n sub .nil)).last=pn
 | .nil=>rfl
 | .cons _ _ _ _ .nil=>rfl
 | .cons _ _ _ _ (.cons Iv k' n' sub' rest)=>by
  rw[Fo.app];have:=Fo.sK pn k n sub (.cons Iv k' n' sub' rest);rw[Fo.app] at this ⊢;rw[Fo.last];exact this
theorem kL.last {w:World} {D:Nat→Prop}:∀(fo:Fo) (cs:List Value),kL w D fo cs→fo.len≠0→cs[(fo.len - 1) * 4]? =some (str fo.last)
 | .nil,_,_,h=>by simp[Fo.len] at h
 | .cons pn _ _ _ .nil,_,⟨v,cs',sc,e,_,_,_,_⟩,_=>by rw[e];simp[Fo.len,Fo.last]
 | .cons _ _ _ _ (.cons pn k n sub rest),_,⟨v,cs',sc,e,_,_,_,h4⟩,_=>by
  have:=kL.last (.cons pn k n sub rest) cs' h4 (by simp[Fo.len]);rw[Fo.last,←this,e];simp only[Fo.len];rw[show(rest.len+1+1 - 1) * 4=(rest.len+1 - 1) * 4+1+1+1+1 from by omega];simp
def Fo.at:Fo→Nat→Option (List UInt8×Tr)
 | .nil,_=>none
 | .cons pn k n sub _,0=>some (pn,⟨k,n,sub⟩)
 | .cons _ _ _ _ rest,i+1=>rest.at i
def Fo.gW:Fo→Nat→Nat
 | _,0=>0
 | .nil,_+1=>0
 | .cons _ _ _ sub rest,i+1=>max (sub.level+1) (rest.gW i)
theorem kL.at {w:World} {D:Nat→Prop}:∀(fo:Fo) (cs:List Value) (i:Nat),kL w D fo cs→i<fo.len→∃pn t v,fo.at i=some (pn,t)∧cs[i * 4]? =some (str pn)∧cs[i * 4+1]? =some (.int .u8 t.k)∧cs[i * 4+2]? =some (str t.n)∧cs[i * 4+3]? =some v∧ff w D t.sub v
 | .nil,_,_,_,h=>by simp[Fo.len] at h
 | .cons pn k n sub rest,_,0,⟨v,cs',sc,e,h1,h2,h3,_⟩,_=>⟨pn,⟨k,n,sub⟩,v,rfl,by rw[e];rfl,by rw[e];rfl,by rw[e];rfl,by rw[e];rfl,sc,h1,h2,h3⟩
 | .cons pn k n sub rest,_,i+1,⟨v,cs',sc,e,h1,h2,h3,h4⟩,hi=>by
  obtain⟨Iv,t,v',a,b0,b1,b2,b3,c⟩:=kL.at rest cs' i h4 (by simp only[Fo.len] at hi;omega);have hs:∀j,(str pn::.int .u8 k::str n::v::cs')[(i+1) * 4+j]? =cs'[i * 4+j]? :=by
   intro j;rw[show(i+1) * 4+j=(i * 4+j)+1+1+1+1 from by omega];simp
  refine⟨Iv,t,v',a,?_,?_,?_,?_,c⟩
  · rw[e];exact(hs 0).trans b0
  · rw[e];exact(hs 1).trans b1
  · rw[e];exact(hs 2).trans b2
  · rw[e];exact(hs 3).trans b3
theorem Fo.qu:∀(fo:Fo) (i:Nat) (pn:List UInt8) (t:Tr),fo.at i=some (pn,t)→fo.gW (i+1)=max (fo.gW i) (t.sub.level+1)
 | .nil,_,_,_,h=>by simp[Fo.at] at h
 | .cons _ _ _ sub rest,0,_,_,h=>by
  simp only[Fo.at,Option.some.injEq,Prod.mk.injEq] at h;obtain⟨_,rfl⟩:=h;simp[Fo.gW]
 | .cons _ _ _ sub rest,i+1,pn,t,h=>by
  have:=Fo.qu rest i pn t h;rw[Fo.gW,this,Fo.gW];omega
theorem Fo.sL:∀fo:Fo,fo.gW fo.len=fo.level
 | .nil=>rfl
 | .cons _ _ _ sub rest=>by rw[Fo.len,Fo.gW,Fo.sL rest,Fo.level]
theorem Fo.pK:∀(fo:Fo) (i:Nat) (pn:List UInt8) (t:Tr),fo.at i=some (pn,t)→t.sub.level+1≤fo.level
 | .nil,_,_,_,h=>by simp[Fo.at] at h
 | .cons _ _ _ sub rest,0,_,_,h=>by
  simp only[Fo.at,Option.some.injEq,Prod.mk.injEq] at h;obtain⟨_,rfl⟩:=h;rw[Fo.level];exact Nat.le_max_left _ _
 | .cons _ _ _ sub rest,i+1,pn,t,h=>by
  have:=Fo.pK rest i pn t h;rw[Fo.level];omega
theorem Fo.wO:∀(fo:Fo) (i:Nat),fo.gW i≤fo.level
 | .nil,0=>nl _
 | .nil,_+1=>nl _
 | .cons _ _ _ _ _,0=>by simp[Fo.gW]
 | .cons _ _ _ sub rest,i+1=>by
  have:=Fo.wO rest i;rw[Fo.gW,Fo.level];omega
end
section
open Go.RowKit Go.Maps
theorem lW {H:Type} {P:Program} {e:TypeId} (he:P.underlying e=some .bool) {v:Value} {z:DataW H×List MemPlace} (h:plainElem P e v=some z):∃a,v=.bool a∧z=(.lit (.bool a),[]):=by
 unfold plainElem at h
 rw[he] at h
 cases v<;>simp at h
 exact⟨_,rfl,h.symm⟩
theorem pJ (u z:DataW Unit) (k:Lit):∀(acc:List Lit) (m:DataW Unit),IsMap m→(∀x∈acc,WideAt.IsKeyLit x)→(acc.foldl (λm x=>m.put x u) m).atKey k z=if acc.any (λx=>x.sameKey k) then u else m.atKey k z
 | [],m,_,_=>by simp
 | x::acc,m,hm,h=>by
  have hx:=h x (by simp);rw[List.foldl_cons,pJ u z k acc _ (hm.put x u) (λy hy=>h y (by simp[hy])),List.any_cons]
  by_cases hk:x.sameKey k=true
  · have e:=WideAt.sameKey_eq hk
    subst e;rw[atKey_put_same hm hx];simp[hk]
  · have hne:k≠x:=λe=>hk (by rw[e];exact WideAt.sameKey_self hx)
    rw[atKey_put_other hne];simp[hk]
def keysOf (acc:List (List UInt8)):List Lit:=acc.map Lit.string
theorem yO (acc:List (List UInt8)):∀x∈keysOf acc,WideAt.IsKeyLit x:=by
 intro x hx
 simp[keysOf] at hx
 obtain⟨a,_,rfl⟩:=hx
 trivial
theorem yN (acc:List (List UInt8)) (k:List UInt8):(keysOf acc).any (λx=>x.sameKey (.string k))=acc.contains k:=by
 induction acc with
 | nil=>rfl
 | cons a acc ih=>
  have hs:(Lit.string a).sameKey (.string k)=(k==a):=by
   by_cases h:a=k
   · subst h;simp[Lit.sameKey]
   · rw[sameKey_ne (by simpa using h)];simp[Ne.symm h]
  rw[keysOf,List.map_cons,List.any_cons,←keysOf,ih,List.contains_cons,hs]
def bY (w:World) (b:Nat) (acc:List (List UInt8)):Prop:=
 w.ownsMap Tryz.prog 9 (plainElem (H:=Unit) Tryz.prog 4) b acc.length (setOf (.lit (.bool true)) (keysOf acc))
theorem bY.made (w:World):bY (w.alloc (.map #[] 0)) w.heap.size []:=World.ownsMap_made w _ _ _
theorem bY.kept {w w':World} {b:Nat} {acc:List (List UInt8)} {row:Option Nat} (h:bY w b acc) (hg:w.grownBy w' row) (hne:some b≠row):bY w' b acc:=World.ownsMap.kept h hg hne
theorem bY.lt {w:World} {b:Nat} {acc:List (List UInt8)} (h:bY w b acc):b<w.heap.size:=World.ownsMap.lt h
theorem bY.of_block {w w':World} {b:Nat} {acc:List (List UInt8)} (h:bY w b acc) (hb:w'.heap[b]? =w.heap[b]?):bY w' b acc:=by
 obtain⟨es,clock,h1,rest⟩:=h
 exact⟨es,clock,hb.trans h1,rest⟩
theorem Fi (w:World):(zeroValue 4).run Tryz.prog w=.ok (.bool false) w:=by kernel_rfl
theorem bY.look {w:World} {b:Nat} {acc:List (List UInt8)} (h:bY w b acc) {k:List UInt8} (hk:k.length≤maxLen):
 (Instr.lookup 42 (.map (some b)) (str k) false).run Tryz.prog w=.ok (.bool (hasB acc k)) w:=by
 obtain⟨v,ps,hrun,hv⟩:=World.ownsMap.lookup h (string_keyed Tryz.underlying9) Tryz.underlying42 (Fi w) (plainElem_bool Tryz.underlying4 false) (WideMaps.keyOf_string_mk (s:=⟨k.toArray⟩) Tryz.underlying9 (by simpa[ByteArray.size] using hk))
 obtain⟨a,rfl,hz⟩:=lW Tryz.underlying4 hv
 simp only[Prod.mk.injEq] at hz
 have h1:=hz.1
 simp only[setOf] at h1
 rw[pJ _ _ _ _ _ isMap_empty (yO acc),yN] at h1
 rw[hrun]
 unfold hasB
 cases hc:acc.contains k<;>(rw[hc] at h1;simp[DataW.atKey] at h1;rw[h1])
theorem kg (w:World) {ops:Array Oper} {rest:List Oper} {o:Oper} {a:Act} {Q:Exit→Act→World→Prop}
 (hg:o.guard=none) (m x v:Operand) (hop:o.op=Op.mapUpdate 42 m x v) (b:Nat) (acc:List (List UInt8))
 (hm:a.eval m=.map (some b)) (hown:bY w b acc) (hn:acc.length<maxLen) (k:List UInt8) (hx:a.eval x=str k) (hv:a.eval v=.bool true) (hk:k.length≤maxLen)
 (hK:∀w',bY w' b (acc++[k])→w.grownBy w' (some b)→wpList Tryz.prog ops Q rest (a.put o.dst undef) w'):
 wpList Tryz.prog ops Q (o::rest) a w:=by
 refine wpList_mapUpdate_own w hg m x v _ hop _ _ (string_keyed Tryz.underlying9) Tryz.underlying42 _ b acc.length _ hm hown hn _ _ _ hx hv (WideMaps.keyOf_string_mk (s:=⟨k.toArray⟩) Tryz.underlying9 (by simpa[ByteArray.size] using hk)) (.lit (.bool true)) [] (plainElem_bool Tryz.underlying4 true) ?_
 intro w' h1 h2
 refine hK w' ?_ h2
 unfold bY
 rw[show keysOf (acc++[k])=keysOf acc++[Lit.string k] from by simp[keysOf],setOf_snoc,List.length_append]
 exact h1
end
section
open Go.RowKit
section
variable {P:Program} (w:World)
theorem eG (base:Nat) (t ty e:TypeId) (i:TypeInfo) (z:Value) (size bytes:Nat) (ht:P.underlying t=some (.slice e)) (hi:P.info? e=some i) (hz:i.zero=some z)
 (hsize:i.size=size) (hby:i.bytes=bytes) (hzs:z.cells.size=size) (hsz:0<size)
 (v:Value) (n:Nat) (xs:List Value) (hown:w.ownsRow base e size v n xs)
 (a:Addr) (m c:Nat) (news:List Value) (hl:news.length=m * size) (hnews:∀j u,news[j]? =some u→w.cell? (a.add j)=some u) (h1:∀u∈news,u.oneCell'=true)
 (hm:0<m) (h63:n+m≤maxLen) (hbytes:(n+m) * bytes≤140737488355328) (hbase:base≤w.heap.size):
 ∃v' w',(Builtin.append_ #[t,t] ty #[v,.slice (some a) m c]).run P w=.ok v' w'∧w'.ownsRow base e size v' (n+m) (xs++news)∧w.grownBy w' v.ownBlock∧
  (v'.ownBlock=v.ownBlock∨v'.ownBlock=some w.heap.size):=by
 obtain⟨v',w',hr,h2,h3,_⟩:=run_append_own (P:=P) w base t ty e i z size bytes ht hi hz hsize hby hzs hsz v n xs hown a m c news hl hnews h1 h63 hbytes hbase
 refine⟨v',w',hr,h2,h3,?_⟩
 subst hsize
 subst hby
 have hsmall:n+m≤9223372036854775807:=by simp only[maxLen] at h63;omega
 rcases hown.2 with⟨rfl,rfl⟩|⟨g,cap,cur,rfl,Wj,hg,hnc,hcm,hcs,Ss⟩
 · have hr2:=run_append_nil (P:=P) w t ty e i z ht hi hz a m c news hl hnews (by omega) (by omega) (by have hb:=hbytes;simp only[Nat.zero_add] at hb;omega)
   rw[hr] at hr2;injection hr2 with hv _;rw[hv];exact .inr rfl
 · by_cases hroom:n+m≤cap
   · have hfit:n * i.size+news.length≤cur.size:=by rw[hl,hcs,←Nat.add_mul];exact Nat.mul_le_mul_right _ hroom
     have hr2:=run_append_room (P:=P) w t ty e i ht hi g n cap cur hg a m c news hl hnews h1 hroom hfit;rw[hr] at hr2;injection hr2 with hv _;rw[hv];exact .inl rfl
   · have holds:∀j u,xs[j]? =some u→w.cell? ((⟨g,0,none⟩:Addr).add j)=some u:=hown.cells (g:=g) rfl
     have hr2:=run_append_grow (P:=P) w t ty e i z ht hi hz ⟨g,0,none⟩ n cap xs hown.1 holds a m c news hl hnews (by omega) (by omega) (growslice_fits (by omega) hbytes);rw[hr] at hr2;injection hr2 with hv _;rw[hv];exact .inr rfl
theorem gK {ops:Array Oper} {rest:List Oper} {o:Oper} {a:Act} {Q:Exit→Act→World→Prop} (hgd:o.guard=none) (s x:Operand) (t:TypeId)
 (ho:o.op=.call {callee:=.builtin .append,args:= #[s,x],argTypes:= #[t,t] })
 (base:Nat) (e:TypeId) (i:TypeInfo) (z:Value) (size bytes:Nat) (ht:P.underlying t=some (.slice e)) (hi:P.info? e=some i) (hz:i.zero=some z)
 (hsize:i.size=size) (hby:i.bytes=bytes) (hzs:z.cells.size=size) (hsz:0<size)
 (v:Value) (n:Nat) (xs:List Value) (hs:a.eval s=v) (hown:w.ownsRow base e size v n xs)
 (ad:Addr) (m c:Nat) (news:List Value) (hx:a.eval x=.slice (some ad) m c) (hl:news.length=m * size) (hnews:∀j u,news[j]? =some u→w.cell? (ad.add j)=some u) (h1:∀u∈news,u.oneCell'=true)
 (hm:0<m) (h63:n+m≤maxLen) (hbytes:(n+m) * bytes≤140737488355328) (hbase:base≤w.heap.size)
 (h:∀v' w',w'.ownsRow base e size v' (n+m) (xs++news)→w.grownBy w' v.ownBlock→(v'.ownBlock=v.ownBlock∨v'.ownBlock=some w.heap.size)→wpList P ops Q rest (a.put o.dst v') w'):wpList P ops Q (o::rest) a w:=by
 refine wpList_plain hgd λK hK=>?_
 obtain⟨v',w',hr,h2,h3,h4⟩:=eG (P:=P) w base t o.type e i z size bytes ht hi hz hsize hby hzs hsz v n xs hown ad m c news hl hnews h1 hm h63 hbytes hbase
 unfold Oper.wp execOp
 simp only[ho,resolve,invoke,builtin,Sem.run_bind,Sem.run_pure,Result.andThen_ok,List.map_toArray,List.map_cons,List.map_nil,hs,hx,hr]
 exact hK _ _ (h v' w' h2 h3 h4)
end
end
structure fT where
 iter:Bool
 args:List (List UInt8)
 res:List UInt8
 sigs:List (List UInt8)
structure dw where
 name:List UInt8
 sig:fT
structure aZ where
 name:List UInt8
 kind:Nat
 par:Bool
 aB:List dw
 ops:List dw
def fT.zero:fT:=⟨false,[],[],[]⟩
def dH (s:fT):List (List UInt8):=s.args++if s.res=[] then [] else [s.res]
end Go.Proofs.YtemjidmkolfgnaaGreatDoor
