/-
  Lemmas for the statement: the base of this seat's texts: words of the walk for strings that are given as lists of bytes. Plain functions on lists of bytes: letters and digits, the end of a name, reserved words, names. The order of texts (plain). Conditions: bounds of lengths; the variable strings.asciiSpace.
-/
import Derived.BigQuiet
import Derived.Deep.RegionHeld3
import Derived.Laws.EntriesVeiled
import Derived.Lib.Hide
import Derived.StillTailTactics
import Derived.Test.YtakgjcfkdemipaaGreatDoorRows
import Derived.WalkLawsBesides
import Derived.WalkSpells
import Derived.Test.YtakgjcfkdemipaaGreatDoorZGn
set_option maxHeartbeats 800000
namespace Go.Proofs.YtakgjcfkdemipaaGreatDoor
open Go.RowKit
@[go_sem] theorem Ov (l:List UInt8) (k:Nat) (h:k<(⟨l.toArray⟩:ByteArray).size):(⟨l.toArray⟩:ByteArray)[k]'h=l[k]'h:=rfl
@[go_sem] theorem J5 (l : List UInt8) (a b : Nat) : (⟨l.toArray⟩ : ByteArray).extract a b = ⟨((l.take b).drop a).toArray⟩ := by
 apply ByteArray.ext
 simp[ByteArray.data_extract,List.extract_eq_take_drop,List.drop_take]
abbrev str (l:List UInt8):Value:=.string ⟨l.toArray⟩
theorem sZ {k:IntKind} {a b:Int} (h:a=b):Ending.returned (.int k a)=.returned (.int k b):=by rw[h]
end Go.Proofs.YtakgjcfkdemipaaGreatDoor
namespace Go.Proofs.YtakgjcfkdemipaaGreatDoor
def gh (c:UInt8):Bool:=(decide (97≤c.toNat)&&decide (c.toNat≤122))||(decide (48≤c.toNat)&&decide (c.toNat≤57))
def aj (l:List UInt8):Nat:=(l.takeWhile gh).length
theorem cL (l:List UInt8):aj l≤l.length:=by
 unfold aj
 exact(List.takeWhile_sublist gh).length_le
theorem bI (c:UInt8) (l:List UInt8):aj (c::l)=if gh c then aj l+1 else 0:=by
 unfold aj
 rw[List.takeWhile_cons]
 split<;>simp
theorem nT:∀(k:Nat) (l:List UInt8),k≤aj l→(h:k<l.length)→gh l[k]=false→aj l=k
 | 0,[],_,h,_=>by simp at h
 | 0,c::l,_,_,ha=>by rw[bI];simp at ha;simp[ha]
 | k+1,[],_,h,_=>by simp at h
 | k+1,c::l,hk,h,ha=>by
  rw[bI] at hk ⊢;split at hk
  · rename_i hc
    rw[if_pos hc,nT k l (by omega) (by simpa using h) (by simpa using ha)]
  · omega
theorem nS:∀(k:Nat) (l:List UInt8),k≤aj l→(h:k<l.length)→gh l[k]=true→k+1≤aj l
 | 0,[],_,h,_=>by simp at h
 | 0,c::l,_,_,ha=>by rw[bI];simp at ha;simp[ha]
 | k+1,[],_,h,_=>by simp at h
 | k+1,c::l,hk,h,ha=>by
  rw[bI] at hk ⊢;split at hk
  · rename_i hc
    rw[if_pos hc];have:=nS k l (by omega) (by simpa using h) (by simpa using ha);omega
  · omega
theorem tO (k:Nat) (l:List UInt8) (h1:k≤aj l) (h2:¬k<l.length):aj l=k:=by
 have:=cL l;omega
theorem mX (c:UInt8):(gh c=true∧(((97:Int)≤(c.toNat:Int)∧(c.toNat:Int)≤122)∨((48:Int)≤(c.toNat:Int)∧(c.toNat:Int)≤57)))∨
 (gh c=false∧((c.toNat:Int)<48∨((57:Int)<(c.toNat:Int)∧(c.toNat:Int)<97)∨(122:Int)<(c.toNat:Int))):=by
 simp only[gh,Bool.or_eq_true,Bool.and_eq_true,decide_eq_true_eq,Bool.or_eq_false_iff,Bool.and_eq_false_iff,decide_eq_false_iff_not]
 omega
def eD:List (List UInt8):=[[97,110,100],[97,114,114,97,121],[98,101,103,105,110],[98,111,111,108],[98,114,101,97,107],[99,108,117,115,116,101,114],[100,111],[100,111,119,110],[101,108,115,101],[101,108,115,101,105,102],[101,110,100],[101,120,99,101,112,116],[102,97,108,115,101],[102,111,114],[104,97,115],[105,102],[105,110],[105,110,116],[105,115],[105,116,101,114],[109,111,100],[110,105,108],[110,111,116],[110,117,108,108],[111,110,101,111,102],[111,114],[111,116,104,101,114,115],[112,114,111,99],[112,117,116],[114,101,99,111,114,100],[114,101,112],[114,101,116,117,114,110],[114,101,116,117,114,110,115],[115,105,103,110,97,108],[115,105,103,110,97,108,115],[116,97,103],[116,97,103,99,97,115,101],[116,104,101,110],[116,114,117,101],[117,112],[118,97,114],[119,104,101,110],[119,104,101,114,101],[119,104,105,108,101],[121,105,101,108,100],[121,105,101,108,100,115]]
def isWord (l:List UInt8):Bool:=eD.contains l
def low (c:UInt8):Bool:=decide (97≤c.toNat)&&decide (c.toNat≤122)
def isName (l:List UInt8):Bool:=
 match l with
 | []=>false
 | c::r=>decide ((c::r).length≤12)&&low c&&decide (aj (c::r)=(c::r).length)&& !isWord (c::r)
def hasB (ss:List (List UInt8)) (s:List UInt8):Bool:=ss.contains s
end Go.Proofs.YtakgjcfkdemipaaGreatDoor
namespace Go.Proofs.YtakgjcfkdemipaaGreatDoor
theorem lB (x y:UInt8) (a b:List UInt8):Op.bytesLess (x::a) (y::b)=true↔x.toNat<y.toNat∨(x=y∧Op.bytesLess a b=true):=by
 rw[Op.bytesLess]
 simp only[Bool.or_eq_true,Bool.and_eq_true,decide_eq_true_eq,beq_iff_eq,UInt8.lt_iff_toNat_lt]
theorem I4 (a:List UInt8):Op.bytesLess a []=false:=by cases a<;>rfl
theorem jc:∀(a b:List UInt8),Op.bytesLess a b=false→(Op.bytesLess b a||b==a)=true
 | [],[],_=>rfl
 | [],y::b,h=>by simp[Op.bytesLess] at h
 | x::a,[],_=>by simp[Op.bytesLess]
 | x::a,y::b,h=>by
  have h1:¬(x.toNat<y.toNat∨(x=y∧Op.bytesLess a b=true)):=λhh=>by rw[(lB x y a b).2 hh] at h;simp at h
  simp only[not_or,not_and,Nat.not_lt] at h1;rw[Bool.or_eq_true,lB]
  by_cases e:x=y
  · subst e
    have h2:=h1.2 rfl;have h3:=jc a b (by simpa using h2);rw[Bool.or_eq_true] at h3;rcases h3 with h3|h3
    · exact .inl (.inr ⟨rfl,h3⟩)
    · exact .inr (by simpa using h3)
  · refine .inl (.inl ?_)
    have:x.toNat≠y.toNat:=λh=>e (UInt8.toNat_inj.1 h)
    omega
theorem jZ:∀(a b:List UInt8),Op.bytesLess a b=true→Op.bytesLess b a=false
 | [],[],h=>by simp[Op.bytesLess] at h
 | [],y::b,_=>rfl
 | x::a,[],h=>by simp[Op.bytesLess] at h
 | x::a,y::b,h=>by
  rw[lB] at h;rw[←Bool.not_eq_true,lB];intro h';rcases h with h|⟨rfl,h⟩
  · rcases h' with h'|⟨rfl,_⟩
    · omega
    · omega
  · rcases h' with h'|⟨_,h'⟩
    · omega
    · rw[jZ a b h] at h';simp at h'
theorem nD (a:List UInt8):Op.bytesLess a a=false:=by
 cases h:Op.bytesLess a a
 · rfl
 · rw[←h,jZ a a h]
theorem uA (a b:List UInt8) (h:Op.bytesLess a b=true):(Op.bytesLess b a||b==a)=false:=by
 rw[jZ a b h,Bool.false_or,beq_eq_false_iff_ne]
 rintro rfl
 rw[nD] at h;simp at h
theorem iy:∀(a b c:List UInt8),Op.bytesLess a b=true→Op.bytesLess b c=true→Op.bytesLess a c=true
 | _,_,[],_,h=>by rw[I4] at h;simp at h
 | [],_,z::c,_,_=>rfl
 | x::a,[],z::c,h,_=>by simp[Op.bytesLess] at h
 | x::a,y::b,z::c,h,h'=>by
  rw[lB] at *;rcases h with h|⟨rfl,h⟩
  · rcases h' with h'|⟨rfl,_⟩
    · exact .inl (by omega)
    · exact .inl h
  · rcases h' with h'|⟨rfl,h'⟩
    · exact .inl h'
    · exact .inr ⟨rfl,iy a b c h h'⟩
end Go.Proofs.YtakgjcfkdemipaaGreatDoor
namespace Go.Proofs.YtakgjcfkdemipaaGreatDoor
open Go.RowKit
def Sl (w:World) (v:Value) (n:Nat) (xs:List Value):Prop:=
 (v=.slice none 0 0∧n=0∧xs=[])∨
 ∃b o cap,v=.slice (some ⟨b,o,none⟩) n cap∧n≤maxLen∧(n=0→xs=[])∧∀j u,xs[j]? =some u→w.cell? ⟨b,o+j,none⟩=some u
theorem Sl.nil (w:World):Sl w (.slice none 0 0) 0 []:=.inl ⟨rfl,rfl,rfl⟩
theorem Sl.below {B:Nat} {w w':World} {v:Value} {n:Nat} {xs:List Value} (h:Sl w v n xs) (hb:Below B w w') (hB:w.heap.size≤B):Sl w' v n xs:=by
 rcases h with h|⟨b,o,cap,rfl,h1,h2,h3⟩
 · exact .inl h
 · refine .inr ⟨b,o,cap,rfl,h1,h2,λj u hj=>?_⟩
   have:=h3 j u hj;rw[hb.cell (by have:=World.block_lt_of_cell? _ _ this;simp at this ⊢;omega)];exact this
theorem Sl.bG {w:World} {base:Nat} {e:TypeId} {size n:Nat} {v:Value} {xs:List Value} (h:w.ownsRow base e size v n xs):Sl w v n xs:=by
 have hl:=h.1
 rcases h.2 with⟨rfl,rfl⟩|⟨g,cap,cur,rfl,hg,hh,h1,h2,h3,h4⟩
 · refine .inl ⟨rfl,rfl,?_⟩
   rw[Nat.zero_mul] at hl;exact List.length_eq_zero_iff.1 hl
 · refine .inr ⟨g,0,cap,rfl,Nat.le_trans h1 h2,λh0=>?_,λj u hj=>?_⟩
   · subst h0;rw[Nat.zero_mul] at hl;exact List.length_eq_zero_iff.1 hl
   · have:=h.cells (g:=g) rfl j u hj
     rwa [show(⟨g,0,none⟩:Addr).add j=⟨g,0+j,none⟩ from by unfold Addr.add;simp;omega] at this
theorem Ob (w:World) (xs:List Value) (t:TypeId) (z:Nat×Nat) (cap:Nat) (h:xs.length≤maxLen):Sl (w.alloc (.cells xs.toArray t z)) (.slice (some ⟨w.heap.size,0,none⟩) xs.length cap) xs.length xs:=by
 refine .inr ⟨w.heap.size,0,cap,rfl,h,λh0=>List.length_eq_zero_iff.1 h0,λj u hj=>?_⟩
 have:(w.alloc (.cells xs.toArray t z)).heap[w.heap.size]? =some (.cells xs.toArray t z):=heap_alloc_new w _
 show World.cell? _ _=_
 unfold World.cell?
 rw[this]
 simpa using hj
def aD (ss:List (List UInt8)):List Value:=ss.map str
theorem jO (ss:List (List UInt8)) (j:Nat) (h:j<ss.length):(aD ss)[j]? =some (str ss[j]):=by simp[aD,h]
def Strs (w:World) (v:Value) (ss:List (List UInt8)):Prop:=Sl w v ss.length (aD ss)
theorem JO (w:World) (ss:List (List UInt8)) (t:TypeId) (z:Nat×Nat) (cap:Nat) (h:ss.length≤maxLen):Strs (w.alloc (.cells (aD ss).toArray t z)) (.slice (some ⟨w.heap.size,0,none⟩) ss.length cap) ss:=by
 have:=Ob w (aD ss) t z cap (by simpa[aD] using h)
 simpa[aD,Strs] using this
theorem Strs.below {B:Nat} {w w':World} {v:Value} {ss:List (List UInt8)} (h:Strs w v ss) (hb:Below B w w') (hB:w.heap.size≤B):Strs w' v ss:=Sl.below h hb hB
theorem Strs.shape {w:World} {v:Value} {ss:List (List UInt8)} (h:Strs w v ss):
 (v=.slice none 0 0∧ss=[])∨∃b o cap,v=.slice (some ⟨b,o,none⟩) ss.length cap∧ss.length≤maxLen∧∀j (hj:j<ss.length),w.cell? ⟨b,o+j,none⟩=some (str ss[j]):=by
 rcases h with⟨rfl,h,_⟩|⟨b,o,cap,rfl,h1,h2,h3⟩
 · exact .inl ⟨rfl,List.length_eq_zero_iff.1 h⟩
 · exact .inr ⟨b,o,cap,rfl,h1,λj hj=>h3 j _ (jO ss j hj)⟩
theorem nu (ss:List (List UInt8)) (s:List UInt8) (k:Nat) (hk:k<ss.length) (h:hasB (ss.take k) s=false) (h2:(ss[k]==s)=false):hasB (ss.take (k+1)) s=false:=by
 unfold hasB at *
 rw[List.take_succ_eq_append_getElem hk]
 simp only[List.contains_eq_any_beq,List.any_append,List.any_cons,List.any_nil,Bool.or_false] at h ⊢
 rw[h]
 simp at h2 ⊢
 exact λe=>h2 e.symm
theorem An (ss:List (List UInt8)) (s:List UInt8) (k:Nat) (hk:k<ss.length) (h2:(ss[k]==s)=true):hasB ss s=true:=by
 unfold hasB
 have:ss[k]=s:=by simpa using h2
 rw[List.contains_iff_mem];rw[←this];exact List.getElem_mem hk
theorem Am (ss:List (List UInt8)) (s:List UInt8) (k:Nat) (hk:¬k<ss.length) (h:hasB (ss.take k) s=false):hasB ss s=false:=by
 rwa [List.take_of_length_le (by omega)] at h
theorem xg (ss:List (List UInt8)) (s:List UInt8):hasB (ss.take 0) s=false:=rfl
theorem cC {a b:Bool} (h:a=b):Ending.returned (.bool a)=.returned (.bool b):=by rw[h]
end Go.Proofs.YtakgjcfkdemipaaGreatDoor
namespace Go.Proofs.YtakgjcfkdemipaaGreatDoor
open Go.RowKit
theorem bz (l:List UInt8) (w:World) (hl:l.length≤maxLen):
 Calls Tryz.prog 162 #[str l] w λe w'=>e=.returned (.int .i64 (aj l))∧w=w':=by
 unfold maxLen at hl
 go_enter Tryz.func162,Tryz.ntmps162
 go_wp2
 go_loop [3] (λi=>∃k:Nat,k≤l.length∧k≤aj l∧i=.int .i64 k) (λi=>l.length - (intOf i).toNat)
 case atStart=>exact⟨0,by omega,by omega,rfl⟩
 case round =>
  obtain⟨k,hk,hn,rfl⟩:=hrel
  by_cases hlt:k<l.length
  · have hs:=nT k l hn hlt
    have ht:=nS k l hn hlt;rcases mX l[k] with⟨ha,hc⟩|⟨ha,hc⟩
    · have Hn:=ht ha
      clear ht hs ha;rcases hc with⟨h1,h2⟩|⟨h1,h2⟩
      all_goals
       go_wp2_with fail
       go_round
       case rel=>exact⟨k+1,by omega,by omega,by go_num⟩
       case measure=>simp[intOf];omega
    · have Hn:Hid _:=hs ha
      clear ht hs ha;rcases hc with h1|⟨h1,h2⟩|h1
      all_goals
       go_wp2_with fail;go_ret;exact⟨sZ (by rw[Hn.out]),rfl⟩
  · have Hn:Hid _:=tO k l hn hlt
    go_wp2_with fail;go_ret;exact⟨sZ (by rw[Hn.out]),rfl⟩
theorem Ez (l:List UInt8) (w:World) (hl:l.length≤maxLen):
 Calls Tryz.prog 142 #[str l] w λe w'=>e=.returned (.int .i64 (aj l))∧w=w':=by
 unfold maxLen at hl
 go_enter Tryz.func142,Tryz.ntmps142
 go_wp2
 go_loop [3] (λi=>∃k:Nat,k≤l.length∧k≤aj l∧i=.int .i64 k) (λi=>l.length - (intOf i).toNat)
 case atStart=>exact⟨0,by omega,by omega,rfl⟩
 case round =>
  obtain⟨k,hk,hn,rfl⟩:=hrel
  by_cases hlt:k<l.length
  · have hs:=nT k l hn hlt
    have ht:=nS k l hn hlt;rcases mX l[k] with⟨ha,hc⟩|⟨ha,hc⟩
    · have Hn:=ht ha
      clear ht hs ha;rcases hc with⟨h1,h2⟩|⟨h1,h2⟩
      all_goals
       go_wp2
       go_round
       case rel=>exact⟨k+1,by omega,by omega,by go_num⟩
       case measure=>simp[intOf];omega
    · have Hn:Hid _:=hs ha
      clear ht hs ha;rcases hc with h1|⟨h1,h2⟩|h1
      all_goals
       go_wp2
       go_ret;exact⟨sZ (by rw[Hn.out]),rfl⟩
  · have Hn:Hid _:=tO k l hn hlt
    go_wp2
    go_ret;exact⟨sZ (by rw[Hn.out]),rfl⟩
theorem J2 (l:List UInt8) (b:Nat) (w:World) (hl:l.length≤maxLen) (hc:w.cell? ⟨b,0,none⟩=some (str l)) (hf:w.frozen? ⟨b,0,none⟩=false):
 Calls Tryz.prog 254 #[.pointer (some ⟨b,0,none⟩)] w λe w'=>e=.returned (str (l.take (aj l)))∧w'=w.setCell ⟨b,0,none⟩ (str (l.drop (aj l))):=by
 unfold maxLen at hl
 go_enter Tryz.func254,Tryz.ntmps254
 go_wp2
 go_loop [3] (λi=>∃k:Nat,k≤l.length∧k≤aj l∧i=.int .i64 k) (λi=>l.length - (intOf i).toNat)
 case atStart=>exact⟨0,by omega,by omega,rfl⟩
 case round =>
  obtain⟨k,hk,hn,rfl⟩:=hrel
  by_cases hlt:k<l.length
  · have hs:=nT k l hn hlt
    have ht:=nS k l hn hlt;rcases mX l[k] with⟨ha,hc⟩|⟨ha,hc⟩
    · have Hn:=ht ha
      clear ht hs ha;rcases hc with⟨h1,h2⟩|⟨h1,h2⟩
      all_goals
       go_wp2_with fail
       go_round
       case rel=>exact⟨k+1,by omega,by omega,by go_num⟩
       case measure=>simp[intOf];omega
    · have Hn:Hid _:=hs ha
      clear ht hs ha;rcases hc with h1|⟨h1,h2⟩|h1
      all_goals
       go_wp2_with fail;go_ret;rw[Hn.out];exact⟨rfl,rfl⟩
  · have Hn:Hid _:=tO k l hn hlt
    go_wp2_with fail;go_ret;rw[Hn.out];exact⟨rfl,rfl⟩
end Go.Proofs.YtakgjcfkdemipaaGreatDoor
namespace Go.Proofs.YtakgjcfkdemipaaGreatDoor
inductive Fo where
 | nil
 | cons (pn:List UInt8) (k:Nat) (n:List UInt8) (sub rest:Fo)
structure Tr where
 k:Nat
 n:List UInt8
 sub:Fo
namespace Fo
def len:Fo→Nat
 | nil=>0
 | cons _ _ _ _ rest=>rest.len+1
def level:Fo→Nat
 | nil=>0
 | cons _ _ _ sub rest=>max (sub.level+1) rest.level
end Fo
def Tr.level (t:Tr):Nat:=t.sub.level+1
def Fo.one (t:Tr):Fo:=.cons [] t.k t.n t.sub .nil
def cU:List UInt8:=[105,110,116]
def aX:List UInt8:=[98,111,111,108]
def lH:List UInt8:=[110,117,108,108]
def fT:List UInt8:=[97,114,114,97,121]
def fP:List UInt8:=[114,101,99,111,114,100]
def gV:List UInt8:=[111,110,101,111,102]
def di (w:List UInt8):Nat:=if w=cU then 1 else if w=aX then 2 else if w=lH then 3 else 0
def bD (w:List UInt8):Nat:=if w=fT then 4 else if w=fP then 5 else if w=gV then 6 else 0
def pA : Nat → Option (List UInt8) → List UInt8 → Option (Fo × List UInt8)
 | 0,_,_=>none
 | f + 1, none, s =>
  match s with
  | 63::116::r=>some (.cons [] 8 [] .nil .nil,r)
  | _=>
   let w:=s.take (aj s)
   let s1:=s.drop (aj s)
   if di w≠0 then some (.cons [] (di w) [] .nil .nil,s1)
   else if bD w=5∨bD w=6 then
    match s1 with
    | 91::s2=>match pA f (some []) s2 with
     | some (fo,93::r)=>if fo.len≤6 then some (.cons [] (bD w) w fo .nil,r) else none
     | _=>none
    | _=>none
   else if bD w=4∨isName w=true then
    match s1 with
    | 91::s2=>match pA f none s2 with
     | some (fo,93::r)=>some (.cons [] (if bD w=4 then 4 else 7) w fo .nil,r)
     | _=>none
    | _=>if bD w=4 then none else some (.cons [] 7 w .nil .nil,s1)
   else none
 | f + 1, some b, s =>
  let w:=s.take (aj s)
  if isName w = true ∧ Op.bytesLess b w = true then
   match s.drop (aj s) with
   | 58::s2=>match pA f none s2 with
    | some (.cons _ k n sub _,r)=>match r with
     | 44::r2=>match pA f (some w) r2 with
      | some (fo,r3)=>some (.cons w k n sub fo,r3)
      | none=>none
     | _=>some (.cons w k n sub .nil,r)
    | _=>none
   | _=>none
  else none
theorem jx (f:Nat) (r:List UInt8):pA (f+1) none (63::116::r)=some (.cons [] 8 [] .nil .nil,r):=by simp[pA]
def eA (s:List UInt8):Prop:=∀r,s≠63::116::r
def pW (f:Nat) (w s1:List UInt8):Option (Fo×List UInt8):=
 if di w≠0 then some (.cons [] (di w) [] .nil .nil,s1)
 else if bD w=5∨bD w=6 then
  match s1 with
  | 91::s2=>match pA f (some []) s2 with
   | some (fo,93::r)=>if fo.len≤6 then some (.cons [] (bD w) w fo .nil,r) else none
   | _=>none
  | _=>none
 else if bD w=4∨isName w=true then
  match s1 with
  | 91::s2=>match pA f none s2 with
   | some (fo,93::r)=>some (.cons [] (if bD w=4 then 4 else 7) w fo .nil,r)
   | _=>none
  | _=>if bD w=4 then none else some (.cons [] 7 w .nil .nil,s1)
 else none
theorem kI (f:Nat) (s:List UInt8) (h:eA s):pA (f+1) none s=pW f (s.take (aj s)) (s.drop (aj s)):=by
 rw[pA]
 · rfl
 · exact λr e=>h r e
def pV (f : Nat) (w s1 : List UInt8) : Option (Fo × List UInt8) :=
 match s1 with
 | 58::s2=>match pA f none s2 with
  | some (.cons _ k n sub _,r)=>match r with
   | 44::r2=>match pA f (some w) r2 with
    | some (fo,r3)=>some (.cons w k n sub fo,r3)
    | none=>none
   | _=>some (.cons w k n sub .nil,r)
  | _=>none
 | _=>none
theorem jo (f:Nat) (b s:List UInt8):pA (f+1) (some b) s=if isName (s.take (aj s))=true∧Op.bytesLess b (s.take (aj s))=true then pV f (s.take (aj s)) (s.drop (aj s)) else none:=rfl
theorem Jd : ∀ (f : Nat) (tag : Option (List UInt8)) (s : List UInt8) (fo : Fo) (r : List UInt8), pA f tag s = some (fo, r) → r.length < s.length := by
 intro f
 induction f with
 | zero=>intro tag s fo r h;simp[pA] at h
 | succ f ih =>
  intro tag s fo r h;have hc:=cL s;have hd:(s.drop (aj s)).length=s.length - aj s:=by simp
  have hw:∀w,s.take (aj s)=w→w.length=aj s:=by intro w e;rw[←e];simp;omega
  cases tag with
  | none =>
   by_cases hp:eA s
   · rw [kI f s hp] at h
     generalize s.drop (aj s)=s1 at h hd;generalize s.take (aj s)=w at h hw;have hw:=hw w rfl;unfold pW at h;split at h
     · rename_i h0
       have:0<w.length:=by
        cases w with
        | nil=>exact absurd rfl h0
        | cons=>simp
       simp only[Option.some.injEq,Prod.mk.injEq] at h;obtain⟨_,rfl⟩:=h;omega
     · split at h
       · split at h
         · rename_i s2
           split at h
           · rename_i OD r2 e2
             split at h
             · have:=ih _ _ _ _ e2
               simp only[Option.some.injEq,Prod.mk.injEq] at h;obtain⟨_,rfl⟩:=h;simp at hd this;omega
             · simp at h
           · simp at h
         · simp at h
       · split at h
         · rename_i hk
           split at h
           · rename_i s2
             split at h
             · rename_i OD r2 e2
               have:=ih _ _ _ _ e2;simp only[Option.some.injEq,Prod.mk.injEq] at h;obtain⟨_,rfl⟩:=h;simp at hd this;omega
             · simp at h
           · split at h
             · simp at h
             · rename_i h4
               have hn:isName w=true:=hk.resolve_left h4;have:0<w.length:=by
                cases w with
                | nil=>simp[isName] at hn
                | cons=>simp
               simp only[Option.some.injEq,Prod.mk.injEq] at h;obtain⟨_,rfl⟩:=h;omega
         · simp at h
   · unfold eA at hp
     simp only[ne_eq,Classical.not_forall,Decidable.not_not] at hp;obtain⟨r',rfl⟩:=hp;rw[jx] at h;simp only[Option.some.injEq,Prod.mk.injEq] at h;obtain⟨_,rfl⟩:=h;simp;omega
  | some b =>
   rw[jo] at h;split at h
   · generalize s.drop (aj s)=s1 at h hd
     unfold pV at h;split at h
     · rename_i s2
       split at h
       · rename_i k n sub _ r1 e1
         have:=ih _ _ _ _ e1;split at h
         · split at h
           · rename_i e2
             have:=ih _ _ _ _ e2;simp only[Option.some.injEq,Prod.mk.injEq] at h;obtain⟨_,rfl⟩:=h;simp at hd this;simp at *;omega
           · simp at h
         · simp only[Option.some.injEq,Prod.mk.injEq] at h
           obtain⟨_,rfl⟩:=h;simp at hd;omega
       · simp at h
     · simp at h
   · simp at h
theorem Eu : ∀ (f g : Nat) (tag : Option (List UInt8)) (s : List UInt8), s.length < f → s.length < g → pA f tag s = pA g tag s := by
 intro f
 induction f with
 | zero=>intro g tag s h;omega
 | succ f ih =>
  intro g tag s hf hg;cases g with
  | zero=>omega
  | succ g=>
   have hc:=cL s;have hd:(s.drop (aj s)).length=s.length - aj s:=by simp
   cases tag with
   | none =>
    by_cases hp:eA s
    · rw [kI f s hp, kI g s hp]
      generalize s.drop (aj s)=s1 at hd;generalize s.take (aj s)=w;unfold pW;split
      · rfl
      · split
        · split
          · rename_i s2
            simp at hd;rw[ih g (some []) s2 (by omega) (by omega)]
          · rfl
        · split
          · split
            · rename_i s2
              simp at hd;rw[ih g none s2 (by omega) (by omega)]
            · rfl
          · rfl
    · unfold eA at hp
      simp only[ne_eq,Classical.not_forall,Decidable.not_not] at hp;obtain⟨r',rfl⟩:=hp;rw[jx,jx]
   | some b =>
    rw[jo,jo];split
    · generalize s.drop (aj s)=s1 at hd
      unfold pV;split
      · rename_i s2
        simp at hd;rw[ih g none s2 (by omega) (by omega)];split
        · rename_i k n sub _ r1 e1
          have:=Jd _ _ _ _ _ e1;split
          · rename_i r2
            simp at this;rw[ih g (some _) r2 (by omega) (by omega)]
          · rfl
        · rfl
      · rfl
    · rfl
theorem NX (f : Nat) (s : List UInt8) (fo : Fo) (r : List UInt8) (h : pA f none s = some (fo, r)) : ∃ t : Tr, fo = .one t := by
 cases f with
 | zero=>simp[pA] at h
 | succ f =>
  by_cases hp:eA s
  · rw [kI f s hp] at h
    generalize s.drop (aj s)=s1 at h;generalize s.take (aj s)=w at h;unfold pW at h;split at h
    · simp only[Option.some.injEq,Prod.mk.injEq] at h
      exact⟨⟨_,_,_⟩,h.1.symm⟩
    · split at h
      · split at h
        · split at h
          · split at h
            · simp only[Option.some.injEq,Prod.mk.injEq] at h
              exact⟨⟨_,_,_⟩,h.1.symm⟩
            · simp at h
          · simp at h
        · simp at h
      · split at h
        · split at h
          · split at h
            · simp only[Option.some.injEq,Prod.mk.injEq] at h
              exact⟨⟨_,_,_⟩,h.1.symm⟩
            · simp at h
          · split at h
            · simp at h
            · simp only[Option.some.injEq,Prod.mk.injEq] at h
              exact⟨⟨_,_,_⟩,h.1.symm⟩
        · simp at h
  · unfold eA at hp
    simp only[ne_eq,Classical.not_forall,Decidable.not_not] at hp;obtain⟨r',rfl⟩:=hp;rw[jx] at h;simp only[Option.some.injEq,Prod.mk.injEq] at h;exact⟨⟨_,_,_⟩,h.1.symm⟩
def Eb:Option (Fo×List UInt8)→Option (Tr×List UInt8)
 | some (.cons _ k n sub _,r)=>some (⟨k,n,sub⟩,r)
 | _=>none
def aY (s:List UInt8):Option (Tr×List UInt8):=Eb (pA (s.length+1) none s)
def dc (b s:List UInt8):Option (Fo×List UInt8):=pA (s.length+1) (some b) s
theorem xU {f:Nat} {b s:List UInt8} (h:s.length<f):pA f (some b) s=dc b s:=Eu _ _ _ _ h (by omega)
theorem jf {f:Nat} {s:List UInt8} (h:s.length<f):pA f none s=(aY s).map λx=>(Fo.one x.1,x.2):=by
 rw[Eu f (s.length+1) none s h (by omega)]
 unfold aY
 cases hx:pA (s.length+1) none s with
 | none=>rfl
 | some x=>
  obtain⟨fo,r⟩:=x;obtain⟨t,rfl⟩:=NX _ _ _ _ hx
  rfl
theorem iF {s r:List UInt8} {t:Tr} (h:aY s=some (t,r)):r.length<s.length:=by
 refine Jd (s.length+1) none s (.one t) r ?_
 rw[jf (by omega),h];rfl
theorem FM {b s r:List UInt8} {fo:Fo} (h:dc b s=some (fo,r)):r.length<s.length:=Jd _ _ _ _ _ h
theorem l8 (r:List UInt8):aY (63::116::r)=some (⟨8,[],.nil⟩,r):=by
 unfold aY;rw[jx];rfl
theorem gI (s:List UInt8) (h:eA s):aY s=Eb (pW s.length (s.take (aj s)) (s.drop (aj s))):=by
 unfold aY;rw[kI _ _ h]
section
variable {s:List UInt8} (hp:eA s)
include hp
theorem nH (h0:di (s.take (aj s))≠0):aY s=some (⟨di (s.take (aj s)),[],.nil⟩,s.drop (aj s)):=by
 rw[gI s hp];unfold pW;rw[if_pos h0];rfl
theorem jq (h0:di (s.take (aj s))=0) (hk:bD (s.take (aj s))=5∨bD (s.take (aj s))=6) (hb:∀r,s.drop (aj s)≠91::r):aY s=none:=by
 rw[gI s hp];unfold pW;rw[if_neg (by simpa using h0),if_pos hk]
 split
 · rename_i e;exact absurd e (hb _)
 · rfl
theorem pX (h0:di (s.take (aj s))=0) (hk:bD (s.take (aj s))=5∨bD (s.take (aj s))=6) {s2:List UInt8} (hb:s.drop (aj s)=91::s2):
 aY s=match dc [] s2 with
  | some (fo,93::r)=>if fo.len≤6 then some (⟨bD (s.take (aj s)),s.take (aj s),fo⟩,r) else none
  | _=>none:=by
 have hl:s2.length<s.length:=by
  have:(s.drop (aj s)).length=s.length - aj s:=by simp
  rw[hb] at this;simp at this;omega
 rw[gI s hp];unfold pW;rw[if_neg (by simpa using h0),if_pos hk,hb]
 simp only
 rw[xU hl]
 rcases dc [] s2 with _|⟨fo,r⟩
 · rfl
 · split
   · split<;>simp_all[Eb]
   · rfl
theorem kg (h0:di (s.take (aj s))=0) (hk:bD (s.take (aj s))=4∨(bD (s.take (aj s))=0∧isName (s.take (aj s))=true)) {s2:List UInt8} (hb:s.drop (aj s)=91::s2):
 aY s=match aY s2 with
  | some (t,93::r)=>some (⟨if bD (s.take (aj s))=4 then 4 else 7,s.take (aj s),.one t⟩,r)
  | _=>none:=by
 have hl:s2.length<s.length:=by
  have:(s.drop (aj s)).length=s.length - aj s:=by simp
  rw[hb] at this;simp at this;omega
 rw[gI s hp];unfold pW;rw[if_neg (by simpa using h0),if_neg (by omega),if_pos (by rcases hk with hk|hk;exact .inl hk;exact .inr hk.2),hb]
 simp only
 rw[jf hl]
 rcases aY s2 with _|⟨fo,r⟩
 · rfl
 · simp only[Option.map_some]
   split
   · simp_all[Eb]
   · split
     · simp_all
     · rfl
theorem kQ (h0:di (s.take (aj s))=0) (hk:bD (s.take (aj s))=4) (hb:∀r,s.drop (aj s)≠91::r):aY s=none:=by
 rw[gI s hp];unfold pW;rw[if_neg (by simpa using h0),if_neg (by omega),if_pos (.inl hk)]
 split
 · rename_i e;exact absurd e (hb _)
 · rw[if_pos hk];rfl
theorem kJ (h0:di (s.take (aj s))=0) (hk:bD (s.take (aj s))=0) (hn:isName (s.take (aj s))=true) (hb:∀r,s.drop (aj s)≠91::r):
 aY s=some (⟨7,s.take (aj s),.nil⟩,s.drop (aj s)):=by
 rw[gI s hp];unfold pW;rw[if_neg (by simpa using h0),if_neg (by omega),if_pos (.inr hn)]
 split
 · rename_i e;exact absurd e (hb _)
 · rw[if_neg (by omega)];rfl
theorem uQ (h0:di (s.take (aj s))=0) (hk:bD (s.take (aj s))=0) (hn:isName (s.take (aj s))=false):aY s=none:=by
 rw[gI s hp];unfold pW;rw[if_neg (by simpa using h0),if_neg (by omega),if_neg (by simp[hn];omega)];rfl
end
theorem pU {b s:List UInt8} (h:¬(isName (s.take (aj s))=true∧Op.bytesLess b (s.take (aj s))=true)):dc b s=none:=by
 unfold dc;rw[jo,if_neg h]
theorem l6 {b s:List UInt8} (h:∀r,s.drop (aj s)≠58::r):dc b s=none:=by
 unfold dc;rw[jo]
 split
 · unfold pV
   split
   · rename_i e;exact absurd e (h _)
   · rfl
 · rfl
theorem ou {b s s2:List UInt8} (h1:isName (s.take (aj s))=true) (h2:Op.bytesLess b (s.take (aj s))=true) (hb:s.drop (aj s)=58::s2):
 dc b s=match aY s2 with
  | some (t,r)=>match r with
   | 44::r2=>match dc (s.take (aj s)) r2 with
    | some (fo,r3)=>some (.cons (s.take (aj s)) t.k t.n t.sub fo,r3)
    | none=>none
   | _=>some (.cons (s.take (aj s)) t.k t.n t.sub .nil,r)
  | none=>none:=by
 have hl:s2.length<s.length:=by
  have:(s.drop (aj s)).length=s.length - aj s:=by simp
  rw[hb] at this;simp at this;omega
 unfold dc
 rw[jo,if_pos ⟨h1,h2⟩,hb]
 unfold pV
 simp only
 rw[jf hl]
 rcases hx:aY s2 with _|⟨t,r⟩
 · rfl
 · simp only[Option.map_some]
   have hr:=iF hx;rw[show Fo.one t=.cons [] t.k t.n t.sub .nil from rfl];dsimp only;split
   · rename_i r2
     rw[xU (by simp at hr;omega)]
     rfl
   · rfl
theorem NY : ∀ (f : Nat) (tag : Option (List UInt8)) (s : List UInt8) (fo : Fo) (r : List UInt8), pA f tag s = some (fo, r) → r <:+ s := by
 intro f
 induction f with
 | zero=>intro tag s fo r h;simp[pA] at h
 | succ f ih =>
  intro tag s fo r h;have hd:s.drop (aj s)<:+s:=List.drop_suffix _ _;cases tag with
  | none =>
   by_cases hp:eA s
   · rw [kI f s hp] at h
     generalize s.drop (aj s)=s1 at h hd;generalize s.take (aj s)=w at h;unfold pW at h;split at h
     · simp only[Option.some.injEq,Prod.mk.injEq] at h
       obtain⟨_,rfl⟩:=h;exact hd
     · split at h
       · split at h
         · rename_i s2
           split at h
           · rename_i OD r2 e2
             split at h
             · have:=ih _ _ _ _ e2
               simp only[Option.some.injEq,Prod.mk.injEq] at h;obtain⟨_,rfl⟩:=h;exact(List.suffix_cons _ _).trans (this.trans ((List.suffix_cons _ _).trans hd))
             · simp at h
           · simp at h
         · simp at h
       · split at h
         · split at h
           · rename_i s2
             split at h
             · rename_i OD r2 e2
               have:=ih _ _ _ _ e2;simp only[Option.some.injEq,Prod.mk.injEq] at h;obtain⟨_,rfl⟩:=h;exact(List.suffix_cons _ _).trans (this.trans ((List.suffix_cons _ _).trans hd))
             · simp at h
           · split at h
             · simp at h
             · simp only[Option.some.injEq,Prod.mk.injEq] at h
               obtain⟨_,rfl⟩:=h;exact hd
         · simp at h
   · unfold eA at hp
     simp only[ne_eq,Classical.not_forall,Decidable.not_not] at hp;obtain⟨r',rfl⟩:=hp;rw[jx] at h;simp only[Option.some.injEq,Prod.mk.injEq] at h;obtain⟨_,rfl⟩:=h;exact(List.suffix_cons _ _).trans (List.suffix_cons _ _)
  | some b =>
   rw[jo] at h;split at h
   · generalize s.drop (aj s)=s1 at h hd
     unfold pV at h;split at h
     · rename_i s2
       split at h
       · rename_i k n sub _ r1 e1
         have h1:=ih _ _ _ _ e1;split at h
         · split at h
           · rename_i e2
             have h2:=ih _ _ _ _ e2;simp only[Option.some.injEq,Prod.mk.injEq] at h;obtain⟨_,rfl⟩:=h;exact h2.trans ((List.suffix_cons _ _).trans (h1.trans ((List.suffix_cons _ _).trans hd)))
           · simp at h
         · simp only[Option.some.injEq,Prod.mk.injEq] at h
           obtain⟨_,rfl⟩:=h;exact h1.trans ((List.suffix_cons _ _).trans hd)
       · simp at h
     · simp at h
   · simp at h
theorem Dl {s r:List UInt8} {t:Tr} (h:aY s=some (t,r)):r<:+s:=by
 refine NY (s.length+1) none s (.one t) r ?_
 rw[jf (by omega),h];rfl
theorem JR {r s:List UInt8} (h:r<:+s):s.drop (s.length - r.length)=r:=by
 obtain⟨p,rfl⟩:=h
 simp
theorem sA {s r:List UInt8} {t:Tr} (h:aY s=some (t,r)):s.drop (s.length - r.length)=r:=JR (Dl h)
theorem Dk {b s r:List UInt8} {fo:Fo} (h:dc b s=some (fo,r)):1≤fo.len:=by
 unfold dc at h
 rw[jo] at h
 split at h
 · unfold pV at h
   split at h
   · split at h
     · split at h
       · split at h
         · simp only[Option.some.injEq,Prod.mk.injEq] at h
           rw[←h.1];simp[Fo.len]
         · simp at h
       · simp only[Option.some.injEq,Prod.mk.injEq] at h
         rw[←h.1];simp[Fo.len]
     · simp at h
   · simp at h
 · simp at h
theorem tU : ∀ (f : Nat) (tag : Option (List UInt8)) (s : List UInt8) (fo : Fo) (r : List UInt8), pA f tag s = some (fo, r) → fo.level + r.length ≤ s.length := by
 intro f
 induction f with
 | zero=>intro tag s fo r h;simp[pA] at h
 | succ f ih =>
  intro tag s fo r h;have hc:=cL s;have hd:(s.drop (aj s)).length=s.length - aj s:=by simp
  have hw:∀w,s.take (aj s)=w→w.length=aj s:=by intro w e;rw[←e];simp;omega
  cases tag with
  | none =>
   by_cases hp:eA s
   · rw [kI f s hp] at h
     generalize s.drop (aj s)=s1 at h hd;generalize s.take (aj s)=w at h hw;have hw:=hw w rfl;unfold pW at h;split at h
     · rename_i h0
       have:0<w.length:=by
        cases w with
        | nil=>exact absurd rfl h0
        | cons=>simp
       simp only[Option.some.injEq,Prod.mk.injEq] at h;obtain⟨rfl,rfl⟩:=h;simp[Fo.level];omega
     · split at h
       · split at h
         · split at h
           · rename_i e2
             split at h
             · have:=ih _ _ _ _ e2
               simp only[Option.some.injEq,Prod.mk.injEq] at h;obtain⟨rfl,rfl⟩:=h;simp[Fo.level] at hd this ⊢;omega
             · simp at h
           · simp at h
         · simp at h
       · split at h
         · rename_i hk
           split at h
           · split at h
             · rename_i e2
               have:=ih _ _ _ _ e2;simp only[Option.some.injEq,Prod.mk.injEq] at h;obtain⟨rfl,rfl⟩:=h;simp[Fo.level] at hd this ⊢;omega
             · simp at h
           · split at h
             · simp at h
             · rename_i h4
               have hn:isName w=true:=hk.resolve_left h4;have:0<w.length:=by
                cases w with
                | nil=>simp[isName] at hn
                | cons=>simp
               simp only[Option.some.injEq,Prod.mk.injEq] at h;obtain⟨rfl,rfl⟩:=h;simp[Fo.level];omega
         · simp at h
   · unfold eA at hp
     simp only[ne_eq,Classical.not_forall,Decidable.not_not] at hp;obtain⟨r',rfl⟩:=hp;rw[jx] at h;simp only[Option.some.injEq,Prod.mk.injEq] at h;obtain⟨rfl,rfl⟩:=h;simp[Fo.level];omega
  | some b =>
   rw[jo] at h;split at h
   · generalize s.drop (aj s)=s1 at h hd
     unfold pV at h;split at h
     · split at h
       · rename_i e1
         have h1:=ih _ _ _ _ e1;split at h
         · split at h
           · rename_i e2
             have h2:=ih _ _ _ _ e2;simp only[Option.some.injEq,Prod.mk.injEq] at h;obtain⟨rfl,rfl⟩:=h;simp[Fo.level] at hd h1 h2 ⊢;omega
           · simp at h
         · simp only[Option.some.injEq,Prod.mk.injEq] at h
           obtain⟨rfl,rfl⟩:=h;simp[Fo.level] at hd h1 ⊢;omega
       · simp at h
     · simp at h
   · simp at h
end Go.Proofs.YtakgjcfkdemipaaGreatDoor
namespace Go.Proofs.YtakgjcfkdemipaaGreatDoor
structure cD where
 iter:Bool
 args:List (List UInt8)
 res:List UInt8
 sigs:List (List UInt8)
structure aG where
 name:List UInt8
 sig:cD
structure aB where
 name:List UInt8
 kind:Nat
 par:Bool
 ag:List aG
 ops:List aG
def cD.zero:cD:=⟨false,[],[],[]⟩
def ic (a b:cD):Bool:=decide (a.iter=b.iter)&&decide (a.res=b.res)&&decide (a.args=b.args)&&decide (a.sigs=b.sigs)
theorem oy (a b:cD):ic a b=true↔a=b:=by
 rcases a with⟨i,l,r,s⟩
 rcases b with⟨i',l',r',s'⟩
 simp only[ic,Bool.and_eq_true,decide_eq_true_eq,cD.mk.injEq]
 constructor
 · rintro⟨⟨⟨h1,h2⟩,h3⟩,h4⟩;exact⟨h1,h3,h2,h4⟩
 · rintro⟨h1,h3,h2,h4⟩;exact⟨⟨⟨h1,h2⟩,h3⟩,h4⟩
def aI (s:cD):List (List UInt8):=s.args++if s.res=[] then [] else [s.res]
end Go.Proofs.YtakgjcfkdemipaaGreatDoor
namespace Go.Proofs.YtakgjcfkdemipaaGreatDoor
open Go.RowKit
theorem ak {w:World} {b:Nat} {cs:Array Value} {t:TypeId} {z:Nat×Nat} (h:w.heap[b]? =some (.cells cs t z)) (j:Nat):w.cell? ⟨b,j,none⟩=cs[j]? :=by
 unfold World.cell?
 rw[h]
 simp
theorem Below.keep {W w2:World} (hb:Below W.heap.size W w2) {a:Addr} {v:Value} (h:W.cell? a=some v):w2.cell? a=some v:=
 (hb.cell (World.block_lt_of_cell? _ _ h)).trans h
theorem af {B B':Nat} {a b:World} (h:Below B' a b) (hB:B≤B'):Below B a b:=⟨h.os,h.tape,h.output,h.size,λk hk=>h.block k (by omega)⟩
theorem aV {w:World} {base:Nat} {e:TypeId} {size n:Nat} {v:Value} {xs:List Value} (h:w.ownsRow base e size v n xs) {b:Nat} (hb:v.ownBlock=some b):b<w.heap.size:=(h.lt b hb).2
theorem dL {w w':World} {base:Nat} {e:TypeId} {size n:Nat} {v:Value} {xs:List Value} (h:w.ownsRow base e size v n xs) (hb:∀b,v.ownBlock=some b→w'.heap[b]? =w.heap[b]?):w'.ownsRow base e size v n xs:=by
 refine⟨h.1,?_⟩
 rcases h.2 with h2|⟨g,cap,cur,rfl,h3,h4,h5⟩
 · exact .inl h2
 · exact .inr ⟨g,cap,cur,rfl,h3,by rw[hb g rfl];exact h4,h5⟩
theorem az {B:Nat} {w w':World} {base:Nat} {e:TypeId} {size n:Nat} {v:Value} {xs:List Value} (h:w.ownsRow base e size v n xs) (hb:Below B w w') (hB:w.heap.size≤B):w'.ownsRow base e size v n xs:=
 dL h λ_ e=>hb.block _ (Nat.lt_of_lt_of_le (aV h e) hB)
theorem aH {w:World} {k:Nat} {o':Obj} (o:Obj) (h:w.heap[k]? =some o'):(w.alloc o).heap[k]? =some o':=
 (((Below.refl w.heap.size w).alloc (nl _) o).block k (Array.getElem?_eq_some_iff.1 h).1).trans h
theorem dD {w:World} {n:Nat} (hn:w.heap.size=n) (cs:Array Value) (t:TypeId):(w.alloc (.cells cs t)).heap[n]? =some (.cells cs t (0,0)):=hn▸heap_alloc_new w _
theorem aC {w:World} {b:Nat} {cs:Array Value} {t:TypeId} (h:w.heap[b]? =some (.cells cs t (0,0))) (j:Nat):w.frozen? ⟨b,j,none⟩=false:=by
 unfold World.frozen?
 rw[h]
 simp
theorem aU {w:World} {b:Nat} {a0 a1 a2 a3:Value} {t:TypeId} (h:w.heap[b]? =some (.cells #[a0,a1,a2,a3] t (0,0))):
 (w.cell? ⟨b,0,none⟩=some a0∧w.cell? ⟨b,1,none⟩=some a1∧w.cell? ⟨b,2,none⟩=some a2∧w.cell? ⟨b,3,none⟩=some a3)∧
 (w.frozen? ⟨b,0,none⟩=false∧w.frozen? ⟨b,1,none⟩=false∧w.frozen? ⟨b,2,none⟩=false∧w.frozen? ⟨b,3,none⟩=false):=
 ⟨⟨(ak h 0).trans rfl,(ak h 1).trans rfl,(ak h 2).trans rfl,(ak h 3).trans rfl⟩,⟨aC h 0,aC h 1,aC h 2,aC h 3⟩⟩
theorem bL {w:World} {b:Nat} {a0 a1 a2 a3 a4:Value} {t:TypeId} (h:w.heap[b]? =some (.cells #[a0,a1,a2,a3,a4] t (0,0))):
 (w.cell? ⟨b,0,none⟩=some a0∧w.cell? ⟨b,1,none⟩=some a1∧w.cell? ⟨b,2,none⟩=some a2∧w.cell? ⟨b,3,none⟩=some a3∧w.cell? ⟨b,4,none⟩=some a4)∧
 (w.frozen? ⟨b,0,none⟩=false∧w.frozen? ⟨b,1,none⟩=false∧w.frozen? ⟨b,2,none⟩=false∧w.frozen? ⟨b,3,none⟩=false∧w.frozen? ⟨b,4,none⟩=false):=
 ⟨⟨(ak h 0).trans rfl,(ak h 1).trans rfl,(ak h 2).trans rfl,(ak h 3).trans rfl,(ak h 4).trans rfl⟩,⟨aC h 0,aC h 1,aC h 2,aC h 3,aC h 4⟩⟩
theorem dY {w w':World} {b K:Nat} {o:Obj} (h:w.heap[b]? =some o) (hb:Below K w w') (hK:b<K):w'.heap[b]? =some o:=(hb.block b hK).trans h
theorem bH {w:World} {b:Nat} {o:Obj} (h:w.heap[b]? =some o):b<w.heap.size:=(Array.getElem?_eq_some_iff.1 h).1
theorem aS {w:World} {base:Nat} {e:TypeId} {size n:Nat} {v:Value} {xs:List Value} (h:w.ownsRow base e size v n xs):∃p c,v=.slice p n c:=by
 rcases h.2 with⟨rfl,rfl⟩|⟨g,cap,cur,rfl,_⟩
 · exact⟨none,0,rfl⟩
 · exact⟨some ⟨g,0,none⟩,cap,rfl⟩
end Go.Proofs.YtakgjcfkdemipaaGreatDoor
namespace Go.Proofs.YtakgjcfkdemipaaGreatDoor
open Go.RowKit
theorem bp {α:Type} {l:List α} {k:Nat} {x:α} (h:l[k]? =some x):l.drop k=x::l.drop (k+1):=by
 obtain⟨hj,e⟩:=List.getElem?_eq_some_iff.1 h
 rw[List.drop_eq_getElem_cons hj,e]
def SS (D:Nat→Prop) (w:World) (v:Value) (ss:List (List UInt8)):Prop:=
 ∃p c,v=.slice p ss.length c∧ss.length≤c∧ss.length≤maxLen∧(∀s∈ss,s.length≤maxLen)∧(ss=[]∨∃b o,p=some ⟨b,o,none⟩∧D b∧b<w.heap.size∧∀j (h:j<ss.length),w.cell? ⟨b,o+j,none⟩=some (str ss[j]))
theorem SS.shape {D:Nat→Prop} {w:World} {v:Value} {ss:List (List UInt8)} (h:SS D w v ss):∃p c,v=.slice p ss.length c∧ss.length≤c∧ss.length≤maxLen∧∀s∈ss,s.length≤maxLen:=by
 obtain⟨p,c,h1,h2,h3,h4,_⟩:=h
 exact⟨p,c,h1,h2,h3,h4⟩
theorem SS.le {D:Nat→Prop} {w:World} {v:Value} {ss:List (List UInt8)} (h:SS D w v ss):∀s∈ss,s.length≤maxLen:=by
 obtain⟨p,c,_,_,_,h4,_⟩:=h
 exact h4
theorem SS.at {D:Nat→Prop} {w:World} {p:Option Addr} {n c:Nat} {ss:List (List UInt8)} (h:SS D w (.slice p n c) ss) {k:Nat} {x:List UInt8} (hk:ss[k]? =some x):∃b o,p=some ⟨b,o,none⟩∧D b∧w.cell? ⟨b,o+k,none⟩=some (str x):=by
 obtain⟨hj,e⟩:=List.getElem?_eq_some_iff.1 hk
 obtain⟨p',c',h1,_,_,_,h4⟩:=h
 injection h1 with h1
 subst h1
 rcases h4 with rfl|⟨b,o,e1,h5,_,h6⟩
 · simp at hj
 · exact⟨b,o,e1,h5,by rw[h6 k hj,e]⟩
theorem SS.below {D:Nat→Prop} {K:Nat} {w w':World} {v:Value} {ss:List (List UInt8)} (h:SS D w v ss) (hb:Below K w w') (hK:w.heap.size≤K):SS D w' v ss:=by
 obtain⟨p,c,h1,h2,h3,hl,h4⟩:=h
 refine⟨p,c,h1,h2,h3,hl,?_⟩
 rcases h4 with h4|⟨b,o,e1,h5,h6,h7⟩
 · exact .inl h4
 · exact .inr ⟨b,o,e1,h5,Nat.lt_of_lt_of_le h6 hb.size,λj hj=>by rw[hb.cell (by show b<K;omega)];exact h7 j hj⟩
theorem SS.mono {D D':Nat→Prop} {w:World} {v:Value} {ss:List (List UInt8)} (h:SS D w v ss) (hD:∀b,D b→D' b):SS D' w v ss:=by
 obtain⟨p,c,h1,h2,h3,hl,h4⟩:=h
 refine⟨p,c,h1,h2,h3,hl,?_⟩
 rcases h4 with h4|⟨b,o,e1,h5,h6,h7⟩
 · exact .inl h4
 · exact .inr ⟨b,o,e1,hD _ h5,h6,h7⟩
theorem SS.set {D:Nat→Prop} {w:World} {v:Value} {ss:List (List UInt8)} (h:SS D w v ss) {a:Addr} (ha:∀b,D b→b≠a.block) (u:Value):SS D (w.setCell a u) v ss:=by
 obtain⟨p,c,h1,h2,h3,hl,h4⟩:=h
 refine⟨p,c,h1,h2,h3,hl,?_⟩
 rcases h4 with h4|⟨b,o,e1,h5,h6,h7⟩
 · exact .inl h4
 · refine .inr ⟨b,o,e1,h5,by simpa[World.setCell] using h6,λj hj=>?_⟩
   rw[World.cell?_of_block (w:=w) (heap_setCell_other w a _ u (ha b h5))];exact h7 j hj
theorem A4 {w w':World} {b:Nat} (h:w'.heap[b]? =w.heap[b]?) (hb:b<w.heap.size):b<w'.heap.size:=by
 rw[Array.getElem?_eq_getElem hb] at h
 exact(Array.getElem?_eq_some_iff.1 h).1
theorem SS.agree {D:Nat→Prop} {w w':World} {v:Value} {ss:List (List UInt8)} (h:SS D w v ss) (hk:∀b,D b→b<w.heap.size→w'.heap[b]? =w.heap[b]?):SS D w' v ss:=by
 obtain⟨p,c,h1,h2,h3,hl,h4⟩:=h
 refine⟨p,c,h1,h2,h3,hl,?_⟩
 rcases h4 with h4|⟨b,o,e1,h5,h6,h7⟩
 · exact .inl h4
 · refine .inr ⟨b,o,e1,h5,A4 (hk b h5 h6) h6,λj hj=>?_⟩
   rw[World.cell?_of_block (w:=w) (a:=⟨b,o+j,none⟩) (hk b h5 h6)];exact h7 j hj
theorem SS.fresh {D:Nat→Prop} {w:World} {v:Value} {ss:List (List UInt8)} (h:SS D w v ss):SS (λb=>D b∧b<w.heap.size) w v ss:=by
 obtain⟨p,c,h1,h2,h3,hl,h4⟩:=h
 refine⟨p,c,h1,h2,h3,hl,?_⟩
 rcases h4 with h4|⟨b,o,e1,h5,h6,h7⟩
 · exact .inl h4
 · exact .inr ⟨b,o,e1,⟨h5,h6⟩,h6,h7⟩
theorem SS.nil (D:Nat→Prop) (w:World) (p:Option Addr) (c:Nat):SS D w (.slice p 0 c) []:=⟨p,c,rfl,Nat.zero_le _,Nat.zero_le _,(λ_ h=>by cases h),.inl rfl⟩
theorem SS.new (D:Nat→Prop) (w:World) (hB:D w.heap.size) (ss:List (List UInt8)) (t:TypeId) (z:Nat×Nat) (h:ss.length≤maxLen) (hl:∀s∈ss,s.length≤maxLen):SS D (w.alloc (.cells (aD ss).toArray t z)) (.slice (some ⟨w.heap.size,0,none⟩) ss.length ss.length) ss:=by
 refine⟨_,_,rfl,nl _,h,hl,.inr ⟨w.heap.size,0,rfl,hB,by simp,λj hj=>?_⟩⟩
 have hh:=heap_alloc_new w (.cells (aD ss).toArray t z)
 rw[Nat.zero_add]
 refine(ak hh j).trans ?_
 simp[aD,hj]
theorem SS.newAt {D:Nat→Prop} {n:Nat} {w:World} (hn:w.heap.size=n) (hB:D n) (ss:List (List UInt8)) (t:TypeId) (z:Nat×Nat) (h:ss.length≤maxLen) (hl:∀s∈ss,s.length≤maxLen):SS D (w.alloc (.cells (aD ss).toArray t z)) (.slice (some ⟨n,0,none⟩) ss.length ss.length) ss:=by
 subst hn
 exact SS.new D w hB ss t z h hl
theorem SS.bG {w:World} {base:Nat} {e:TypeId} {v:Value} {ss:List (List UInt8)} (h:w.ownsRow base e 1 v ss.length (aD ss)) (hl:∀s∈ss,s.length≤maxLen) {D:Nat→Prop} (hD:∀b,v.ownBlock=some b→D b):SS D w v ss:=by
 have hlt:=λb e=>aV h (b:=b) e
 rcases h.2 with⟨rfl,h0⟩|⟨g,cap,cur,rfl,hg,hh,h1,h2,h3,h4⟩
 · have e0:ss=[]:=List.length_eq_zero_iff.1 (by omega)
   subst e0;exact SS.nil _ _ _ _
 · refine⟨_,_,rfl,by omega,by omega,hl,.inr ⟨g,0,rfl,hD g rfl,hlt g rfl,λj hj=>?_⟩⟩
   have:=h.cells (g:=g) rfl j _ (jO ss j hj)
   rwa [show(⟨g,0,none⟩:Addr).add j=⟨g,0+j,none⟩ from by unfold Addr.add;simp;omega] at this
def aT (D:Nat→Prop) (w:World) (v:Value) (x:cD):Prop:=
 ∃a s,v=.agg #[.bool x.iter,a,str x.res,s]∧x.res.length≤maxLen∧SS D w a x.args∧SS D w s x.sigs
theorem aT.below {D:Nat→Prop} {K:Nat} {w w':World} {v:Value} {x:cD} (h:aT D w v x) (hb:Below K w w') (hK:w.heap.size≤K):aT D w' v x:=by
 obtain⟨a,s,h1,h4,h2,h3⟩:=h
 exact⟨a,s,h1,h4,h2.below hb hK,h3.below hb hK⟩
theorem aT.mono {D D':Nat→Prop} {w:World} {v:Value} {x:cD} (h:aT D w v x) (hD:∀b,D b→D' b):aT D' w v x:=by
 obtain⟨a,s,h1,h4,h2,h3⟩:=h
 exact⟨a,s,h1,h4,h2.mono hD,h3.mono hD⟩
theorem aT.zero (D:Nat→Prop) (w:World):aT D w (.agg #[.bool false,.slice none 0 0,str [],.slice none 0 0]) .zero:=⟨_,_,rfl,Nat.zero_le _,SS.nil _ _ _ _,SS.nil _ _ _ _⟩
def mL (x:aG):Prop:=x.name.length≤maxLen∧x.sig.res.length≤maxLen
def aJ (D:Nat→Prop) (w:World) (v:Value) (l:List aG):Prop:=
 ∃p c,v=.slice p l.length c∧l.length≤c∧l.length≤maxLen∧(∀x∈l,mL x)∧(l=[]∨∃b o,p=some ⟨b,o,none⟩∧D b∧b<w.heap.size∧∀j (h:j<l.length),∃a s,SS D w a l[j].sig.args∧SS D w s l[j].sig.sigs∧
  w.cell? ⟨b,o+j * 5,none⟩=some (str l[j].name)∧w.cell? ⟨b,o+j * 5+1,none⟩=some (.bool l[j].sig.iter)∧w.cell? ⟨b,o+j * 5+2,none⟩=some a∧w.cell? ⟨b,o+j * 5+3,none⟩=some (str l[j].sig.res)∧w.cell? ⟨b,o+j * 5+4,none⟩=some s)
theorem aJ.shape {D:Nat→Prop} {w:World} {v:Value} {l:List aG} (h:aJ D w v l):∃p c,v=.slice p l.length c∧l.length≤c∧l.length≤maxLen∧∀x∈l,mL x:=by
 obtain⟨p,c,h1,h2,h3,h4,_⟩:=h
 exact⟨p,c,h1,h2,h3,h4⟩
theorem aJ.at {D:Nat→Prop} {w:World} {p:Option Addr} {n c:Nat} {l:List aG} (h:aJ D w (.slice p n c) l) {k:Nat} {x:aG} (hk:l[k]? =some x):∃b o a s,p=some ⟨b,o,none⟩∧D b∧mL x∧SS D w a x.sig.args∧SS D w s x.sig.sigs∧
 w.cell? ⟨b,o+k * 5,none⟩=some (str x.name)∧w.cell? ⟨b,o+k * 5+1,none⟩=some (.bool x.sig.iter)∧w.cell? ⟨b,o+k * 5+2,none⟩=some a∧w.cell? ⟨b,o+k * 5+3,none⟩=some (str x.sig.res)∧w.cell? ⟨b,o+k * 5+4,none⟩=some s:=by
 obtain⟨hj,e⟩:=List.getElem?_eq_some_iff.1 hk
 obtain⟨p',c',h1,_,_,hl,h4⟩:=h
 have hx:=hl x (List.mem_of_getElem? hk)
 injection h1 with h1
 subst h1
 rcases h4 with rfl|⟨b,o,e1,h5,_,h6⟩
 · simp at hj
 · obtain⟨a,s,h7,h8,h9⟩:=h6 k hj
   rw[e] at h7 h8 h9;exact⟨b,o,a,s,e1,h5,hx,h7,h8,h9⟩
theorem aJ.below {D:Nat→Prop} {K:Nat} {w w':World} {v:Value} {l:List aG} (h:aJ D w v l) (hb:Below K w w') (hK:w.heap.size≤K):aJ D w' v l:=by
 obtain⟨p,c,h1,h2,h3,hl,h4⟩:=h
 refine⟨p,c,h1,h2,h3,hl,?_⟩
 rcases h4 with h4|⟨b,o,e1,h5,h6,h7⟩
 · exact .inl h4
 · refine .inr ⟨b,o,e1,h5,Nat.lt_of_lt_of_le h6 hb.size,λj hj=>?_⟩
   obtain⟨a,s,k1,k2,k3⟩:=h7 j hj;have hc:∀i,w'.cell? ⟨b,i,none⟩=w.cell? ⟨b,i,none⟩:=λi=>hb.cell (by show b<K;omega)
   exact⟨a,s,k1.below hb hK,k2.below hb hK,by rw[hc,hc,hc,hc,hc];exact k3⟩
theorem aJ.mono {D D':Nat→Prop} {w:World} {v:Value} {l:List aG} (h:aJ D w v l) (hD:∀b,D b→D' b):aJ D' w v l:=by
 obtain⟨p,c,h1,h2,h3,hl,h4⟩:=h
 refine⟨p,c,h1,h2,h3,hl,?_⟩
 rcases h4 with h4|⟨b,o,e1,h5,h6,h7⟩
 · exact .inl h4
 · refine .inr ⟨b,o,e1,hD _ h5,h6,λj hj=>?_⟩
   obtain⟨a,s,k1,k2,k3⟩:=h7 j hj;exact⟨a,s,k1.mono hD,k2.mono hD,k3⟩
theorem aJ.agree {D:Nat→Prop} {w w':World} {v:Value} {l:List aG} (h:aJ D w v l) (hk:∀b,D b→b<w.heap.size→w'.heap[b]? =w.heap[b]?):aJ D w' v l:=by
 obtain⟨p,c,h1,h2,h3,hl,h4⟩:=h
 refine⟨p,c,h1,h2,h3,hl,?_⟩
 rcases h4 with h4|⟨b,o,e1,h5,h6,h7⟩
 · exact .inl h4
 · refine .inr ⟨b,o,e1,h5,A4 (hk b h5 h6) h6,λj hj=>?_⟩
   obtain⟨x,s,k1,k2,k3⟩:=h7 j hj;have hc:∀i,w'.cell? ⟨b,i,none⟩=w.cell? ⟨b,i,none⟩:=λi=>World.cell?_of_block (w:=w) (a:=⟨b,i,none⟩) (hk b h5 h6)
   exact⟨x,s,k1.agree hk,k2.agree hk,by rw[hc,hc,hc,hc,hc];exact k3⟩
theorem aJ.fresh {D:Nat→Prop} {w:World} {v:Value} {l:List aG} (h:aJ D w v l):aJ (λb=>D b∧b<w.heap.size) w v l:=by
 obtain⟨p,c,h1,h2,h3,hl,h4⟩:=h
 refine⟨p,c,h1,h2,h3,hl,?_⟩
 rcases h4 with h4|⟨b,o,e1,h5,h6,h7⟩
 · exact .inl h4
 · refine .inr ⟨b,o,e1,⟨h5,h6⟩,h6,λj hj=>?_⟩
   obtain⟨a,s,k1,k2,k3⟩:=h7 j hj;exact⟨a,s,k1.fresh,k2.fresh,k3⟩
theorem aJ.set {D:Nat→Prop} {w:World} {v:Value} {l:List aG} (h:aJ D w v l) {a:Addr} (ha:∀b,D b→b≠a.block) (u:Value):aJ D (w.setCell a u) v l:=by
 obtain⟨p,c,h1,h2,h3,hl,h4⟩:=h
 refine⟨p,c,h1,h2,h3,hl,?_⟩
 rcases h4 with h4|⟨b,o,e1,h5,h6,h7⟩
 · exact .inl h4
 · refine .inr ⟨b,o,e1,h5,by simpa[World.setCell] using h6,λj hj=>?_⟩
   obtain⟨x,s,k1,k2,k3⟩:=h7 j hj;have hc:∀i,(w.setCell a u).cell? ⟨b,i,none⟩=w.cell? ⟨b,i,none⟩:=λi=>World.cell?_of_block (w:=w) (heap_setCell_other w a _ u (ha b h5))
   exact⟨x,s,k1.set ha u,k2.set ha u,by rw[hc,hc,hc,hc,hc];exact k3⟩
theorem aJ.nil (D:Nat→Prop) (w:World) (p:Option Addr) (c:Nat):aJ D w (.slice p 0 c) []:=⟨p,c,rfl,Nat.zero_le _,Nat.zero_le _,(λ_ h=>by cases h),.inl rfl⟩
def bN (D:Nat→Prop) (w:World):List Value→List aG→Prop
 | cs,[]=>cs=[]
 | cs,x::l=>∃a s r,cs=str x.name::.bool x.sig.iter::a::str x.sig.res::s::r∧mL x∧SS D w a x.sig.args∧SS D w s x.sig.sigs∧bN D w r l
theorem bN.below {D:Nat→Prop} {K:Nat} {w w':World} (hb:Below K w w') (hK:w.heap.size≤K):∀{l:List aG} {cs:List Value},bN D w cs l→bN D w' cs l
 | [],_,h=>h
 | _::_,_,⟨a,s,r,h1,h0,h2,h3,h4⟩=>⟨a,s,r,h1,h0,h2.below hb hK,h3.below hb hK,bN.below hb hK h4⟩
theorem bN.le {D:Nat→Prop} {w:World}:∀{l:List aG} {cs:List Value},bN D w cs l→∀x∈l,mL x
 | [],_,_=>λx h=>by cases h
 | y::l,_,⟨_,_,_,_,h0,_,_,h4⟩=>λx h=>by
  rcases List.mem_cons.1 h with rfl|h
  · exact h0
  · exact bN.le h4 x h
theorem bN.My {D D':Nat→Prop} {w:World} (hD:∀b,D b→D' b):∀{l:List aG} {cs:List Value},bN D w cs l→bN D' w cs l
 | [],_,h=>h
 | _::_,_,⟨a,s,r,h1,h0,h2,h3,h4⟩=>⟨a,s,r,h1,h0,h2.mono hD,h3.mono hD,bN.My hD h4⟩
theorem bN.mono {D D':Nat→Prop} {w:World} {l:List aG} {cs:List Value} (h:bN D w cs l) (hD:∀b,D b→D' b):bN D' w cs l:=bN.My hD h
theorem bN.get {D:Nat→Prop} {w:World}:∀{l:List aG} {cs:List Value},bN D w cs l→∀j (h:j<l.length),∃a s,SS D w a l[j].sig.args∧SS D w s l[j].sig.sigs∧
 cs[j * 5]? =some (str l[j].name)∧cs[j * 5+1]? =some (.bool l[j].sig.iter)∧cs[j * 5+2]? =some a∧cs[j * 5+3]? =some (str l[j].sig.res)∧cs[j * 5+4]? =some s
 | [],_,_=>λj h=>by simp at h
 | x::l,_,⟨a,s,r,h1,_,h2,h3,h4⟩=>λj h=>by
  subst h1;cases j with
  | zero=>exact⟨a,s,h2,h3,rfl,rfl,rfl,rfl,rfl⟩
  | succ j=>
   have hj:j<l.length:=by simpa using h
   obtain⟨a',s',k1,k2,k3,k4,k5,k6,k7⟩:=bN.get h4 j hj;have e:(j+1) * 5=j * 5+1+1+1+1+1:=by omega
   refine⟨a',s',k1,k2,?_⟩;rw[e];exact⟨by simpa using k3,by simpa using k4,by simpa using k5,by simpa using k6,by simpa using k7⟩
theorem bN.append {D:Nat→Prop} {w:World} {k:List aG} {ds:List Value} (hk:bN D w ds k):∀{l:List aG} {cs:List Value},bN D w cs l→bN D w (cs++ds) (l++k)
 | [],_,h=>by rw[show _=_ from h];exact hk
 | _::_,_,⟨a',s',r,h1,k0,k2,k3,k4⟩=>by subst h1;exact⟨a',s',_,rfl,k0,k2,k3,bN.append hk k4⟩
theorem aJ.bG {w:World} {base:Nat} {e:TypeId} {v:Value} {l:List aG} {cs:List Value} (h:w.ownsRow base e 5 v l.length cs) {D:Nat→Prop} (hD:∀b,v.ownBlock=some b→D b) (hc:bN D w cs l):aJ D w v l:=by
 have hlt:=λb e=>aV h (b:=b) e
 rcases h.2 with⟨rfl,h0⟩|⟨g,cap,cur,rfl,hg,hh,h1,h2,h3,h4⟩
 · have e0:l=[]:=List.length_eq_zero_iff.1 (by omega)
   subst e0;exact aJ.nil _ _ _ _
 · refine⟨_,_,rfl,by omega,by omega,hc.le,.inr ⟨g,0,rfl,hD g rfl,hlt g rfl,λj hj=>?_⟩⟩
   obtain⟨a,s,k1,k2,k3,k4,k5,k6,k7⟩:=hc.get j hj;have hcell:∀i u,cs[i]? =some u→w.cell? ⟨g,0+i,none⟩=some u:=λi u hu=>by
    have:=h.cells (g:=g) rfl i u hu
    rwa [show(⟨g,0,none⟩:Addr).add i=⟨g,0+i,none⟩ from by unfold Addr.add;simp;omega] at this
   exact⟨a,s,k1,k2,hcell _ _ k3,hcell _ _ k4,hcell _ _ k5,hcell _ _ k6,hcell _ _ k7⟩
theorem aJ.new {D:Nat→Prop} (w:World) (hB:D w.heap.size) {l:List aG} {cs:List Value} (t:TypeId) (z:Nat×Nat) (hm:l.length≤maxLen) (hc:bN D w cs l):aJ D (w.alloc (.cells cs.toArray t z)) (.slice (some ⟨w.heap.size,0,none⟩) l.length l.length) l:=by
 have hb:=(Below.refl _ w).alloc (nl _) (.cells cs.toArray t z)
 refine⟨_,_,rfl,nl _,hm,hc.le,.inr ⟨w.heap.size,0,rfl,hB,by simp,λj hj=>?_⟩⟩
 obtain⟨a,s,k1,k2,k3,k4,k5,k6,k7⟩:=hc.get j hj
 have hh:=heap_alloc_new w (.cells cs.toArray t z)
 have hcell:∀i u,cs[i]? =some u→(w.alloc (.cells cs.toArray t z)).cell? ⟨w.heap.size,0+i,none⟩=some u:=λi u hu=>by
  rw[Nat.zero_add];refine(ak hh i).trans ?_
  simpa using hu
 exact⟨a,s,k1.below hb (nl _),k2.below hb (nl _),hcell _ _ k3,hcell _ _ k4,hcell _ _ k5,hcell _ _ k6,hcell _ _ k7⟩
def fE (D:Nat→Prop) (w:World) (v:Value) (f:aB):Prop:=
 ∃n o,v=.agg #[str f.name,.int .u8 f.kind,.bool f.par,n,o]∧f.name.length≤maxLen∧aJ D w n f.ag∧aJ D w o f.ops
theorem fE.below {D:Nat→Prop} {K:Nat} {w w':World} {v:Value} {f:aB} (h:fE D w v f) (hb:Below K w w') (hK:w.heap.size≤K):fE D w' v f:=by
 obtain⟨n,o,h1,h0,h2,h3⟩:=h
 exact⟨n,o,h1,h0,h2.below hb hK,h3.below hb hK⟩
theorem fE.mono {D D':Nat→Prop} {w:World} {v:Value} {f:aB} (h:fE D w v f) (hD:∀b,D b→D' b):fE D' w v f:=by
 obtain⟨n,o,h1,h0,h2,h3⟩:=h
 exact⟨n,o,h1,h0,h2.mono hD,h3.mono hD⟩
theorem fE.set {D:Nat→Prop} {w:World} {v:Value} {f:aB} (h:fE D w v f) {a:Addr} (ha:∀b,D b→b≠a.block) (u:Value):fE D (w.setCell a u) v f:=by
 obtain⟨n,o,h1,h0,h2,h3⟩:=h
 exact⟨n,o,h1,h0,h2.set ha u,h3.set ha u⟩
theorem fE.agree {D:Nat→Prop} {w w':World} {v:Value} {f:aB} (h:fE D w v f) (hk:∀b,D b→b<w.heap.size→w'.heap[b]? =w.heap[b]?):fE D w' v f:=by
 obtain⟨n,o,h1,h0,h2,h3⟩:=h
 exact⟨n,o,h1,h0,h2.agree hk,h3.agree hk⟩
theorem fE.fresh {D:Nat→Prop} {w:World} {v:Value} {f:aB} (h:fE D w v f):fE (λb=>D b∧b<w.heap.size) w v f:=by
 obtain⟨n,o,h1,h0,h2,h3⟩:=h
 exact⟨n,o,h1,h0,h2.fresh,h3.fresh⟩
def aZ (D:Nat→Prop) (w:World) (v:Value) (l:List aB):Prop:=
 ∃p c,v=.slice p l.length c∧l.length≤c∧l.length≤maxLen∧(∀f∈l,f.name.length≤maxLen)∧(l=[]∨∃b o,p=some ⟨b,o,none⟩∧D b∧b<w.heap.size∧∀j (h:j<l.length),∃n q,aJ D w n l[j].ag∧aJ D w q l[j].ops∧
  w.cell? ⟨b,o+j * 5,none⟩=some (str l[j].name)∧w.cell? ⟨b,o+j * 5+1,none⟩=some (.int .u8 l[j].kind)∧w.cell? ⟨b,o+j * 5+2,none⟩=some (.bool l[j].par)∧w.cell? ⟨b,o+j * 5+3,none⟩=some n∧w.cell? ⟨b,o+j * 5+4,none⟩=some q)
theorem aZ.shape {D:Nat→Prop} {w:World} {v:Value} {l:List aB} (h:aZ D w v l):∃p c,v=.slice p l.length c∧l.length≤c∧l.length≤maxLen∧∀f∈l,f.name.length≤maxLen:=by
 obtain⟨p,c,h1,h2,h3,h4,_⟩:=h
 exact⟨p,c,h1,h2,h3,h4⟩
theorem aZ.at {D:Nat→Prop} {w:World} {p:Option Addr} {n c:Nat} {l:List aB} (h:aZ D w (.slice p n c) l) {k:Nat} {x:aB} (hk:l[k]? =some x):∃b o nv ov,p=some ⟨b,o,none⟩∧D b∧x.name.length≤maxLen∧aJ D w nv x.ag∧aJ D w ov x.ops∧
 w.cell? ⟨b,o+k * 5,none⟩=some (str x.name)∧w.cell? ⟨b,o+k * 5+1,none⟩=some (.int .u8 x.kind)∧w.cell? ⟨b,o+k * 5+2,none⟩=some (.bool x.par)∧w.cell? ⟨b,o+k * 5+3,none⟩=some nv∧w.cell? ⟨b,o+k * 5+4,none⟩=some ov:=by
 obtain⟨hj,e⟩:=List.getElem?_eq_some_iff.1 hk
 obtain⟨p',c',h1,_,_,hl,h4⟩:=h
 have hx:=hl x (List.mem_of_getElem? hk)
 injection h1 with h1
 subst h1
 rcases h4 with rfl|⟨b,o,e1,h5,_,h6⟩
 · simp at hj
 · obtain⟨a,s,h7,h8,h9⟩:=h6 k hj
   rw[e] at h7 h8 h9;exact⟨b,o,a,s,e1,h5,hx,h7,h8,h9⟩
theorem aZ.below {D:Nat→Prop} {K:Nat} {w w':World} {v:Value} {l:List aB} (h:aZ D w v l) (hb:Below K w w') (hK:w.heap.size≤K):aZ D w' v l:=by
 obtain⟨p,c,h1,h2,h3,hl,h4⟩:=h
 refine⟨p,c,h1,h2,h3,hl,?_⟩
 rcases h4 with h4|⟨b,o,e1,h5,h6,h7⟩
 · exact .inl h4
 · refine .inr ⟨b,o,e1,h5,Nat.lt_of_lt_of_le h6 hb.size,λj hj=>?_⟩
   obtain⟨a,s,k1,k2,k3⟩:=h7 j hj;have hc:∀i,w'.cell? ⟨b,i,none⟩=w.cell? ⟨b,i,none⟩:=λi=>hb.cell (by show b<K;omega)
   exact⟨a,s,k1.below hb hK,k2.below hb hK,by rw[hc,hc,hc,hc,hc];exact k3⟩
theorem aZ.nil (D:Nat→Prop) (w:World) (p:Option Addr) (c:Nat):aZ D w (.slice p 0 c) []:=⟨p,c,rfl,Nat.zero_le _,Nat.zero_le _,(λ_ h=>by cases h),.inl rfl⟩
end Go.Proofs.YtakgjcfkdemipaaGreatDoor
namespace Go.Proofs.YtakgjcfkdemipaaGreatDoor
open Go.RowKit Go.Maps
theorem pY {H:Type} {P:Program} {e:TypeId} (he:P.underlying e=some .bool) {v:Value} {z:DataW H×List MemPlace} (h:plainElem P e v=some z):∃a,v=.bool a∧z=(.lit (.bool a),[]):=by
 unfold plainElem at h
 rw[he] at h
 cases v<;>simp at h
 exact⟨_,rfl,h.symm⟩
theorem tA (u z:DataW Unit) (k:Lit):∀(acc:List Lit) (m:DataW Unit),IsMap m→(∀x∈acc,WideAt.IsKeyLit x)→(acc.foldl (λm x=>m.put x u) m).atKey k z=if acc.any (λx=>x.sameKey k) then u else m.atKey k z
 | [],m,_,_=>by simp
 | x::acc,m,hm,h=>by
  have hx:=h x (by simp);rw[List.foldl_cons,tA u z k acc _ (hm.put x u) (λy hy=>h y (by simp[hy])),List.any_cons]
  by_cases hk:x.sameKey k=true
  · have e:=WideAt.sameKey_eq hk
    subst e;rw[atKey_put_same hm hx];simp[hk]
  · have hne:k≠x:=λe=>hk (by rw[e];exact WideAt.sameKey_self hx)
    rw[atKey_put_other hne];simp[hk]
def keysOf (acc:List (List UInt8)):List Lit:=acc.map Lit.string
theorem uu (acc:List (List UInt8)):∀x∈keysOf acc,WideAt.IsKeyLit x:=by
 intro x hx
 simp[keysOf] at hx
 obtain⟨a,_,rfl⟩:=hx
 trivial
theorem ur (acc:List (List UInt8)) (k:List UInt8):(keysOf acc).any (λx=>x.sameKey (.string k))=acc.contains k:=by
 induction acc with
 | nil=>rfl
 | cons a acc ih=>
  have hs:(Lit.string a).sameKey (.string k)=(k==a):=by
   by_cases h:a=k
   · subst h;simp[Lit.sameKey]
   · rw[sameKey_ne (by simpa using h)];simp[Ne.symm h]
  rw[keysOf,List.map_cons,List.any_cons,←keysOf,ih,List.contains_cons,hs]
def bB (w:World) (b:Nat) (acc:List (List UInt8)):Prop:=
 w.ownsMap Tryz.prog 9 (plainElem (H:=Unit) Tryz.prog 4) b acc.length (setOf (.lit (.bool true)) (keysOf acc))
theorem bB.made (w:World):bB (w.alloc (.map #[] 0)) w.heap.size []:=World.ownsMap_made w _ _ _
theorem bB.kept {w w':World} {b:Nat} {acc:List (List UInt8)} {row:Option Nat} (h:bB w b acc) (hg:w.grownBy w' row) (hne:some b≠row):bB w' b acc:=World.ownsMap.kept h hg hne
theorem bB.lt {w:World} {b:Nat} {acc:List (List UInt8)} (h:bB w b acc):b<w.heap.size:=World.ownsMap.lt h
theorem bB.of_block {w w':World} {b:Nat} {acc:List (List UInt8)} (h:bB w b acc) (hb:w'.heap[b]? =w.heap[b]?):bB w' b acc:=by
 obtain⟨es,clock,h1,rest⟩:=h
 exact⟨es,clock,hb.trans h1,rest⟩
theorem J3 (w:World):(zeroValue 4).run Tryz.prog w=.ok (.bool false) w:=by kernel_rfl
theorem bB.look {w:World} {b:Nat} {acc:List (List UInt8)} (h:bB w b acc) {k:List UInt8} (hk:k.length≤maxLen):
 (Instr.lookup 112 (.map (some b)) (str k) false).run Tryz.prog w=.ok (.bool (hasB acc k)) w:=by
 obtain⟨v,ps,hrun,hv⟩:=World.ownsMap.lookup h (string_keyed Tryz.underlying9) Tryz.underlying112 (J3 w) (plainElem_bool Tryz.underlying4 false) (WideMaps.keyOf_string_mk (s:=⟨k.toArray⟩) Tryz.underlying9 (by simpa[ByteArray.size] using hk))
 obtain⟨a,rfl,hz⟩:=pY Tryz.underlying4 hv
 simp only[Prod.mk.injEq] at hz
 have h1:=hz.1
 simp only[setOf] at h1
 rw[tA _ _ _ _ _ isMap_empty (uu acc),ur] at h1
 rw[hrun]
 unfold hasB
 cases hc:acc.contains k<;>(rw[hc] at h1;simp[DataW.atKey] at h1;rw[h1])
theorem ki (w:World) {ops:Array Oper} {rest:List Oper} {o:Oper} {a:Act} {Q:Exit→Act→World→Prop}
 (hg:o.guard=none) (m x v:Operand) (hop:o.op=Op.mapUpdate 112 m x v) (b:Nat) (acc:List (List UInt8))
 (hm:a.eval m=.map (some b)) (hown:bB w b acc) (hn:acc.length<maxLen) (k:List UInt8) (hx:a.eval x=str k) (hv:a.eval v=.bool true) (hk:k.length≤maxLen)
 (hK:∀w',bB w' b (acc++[k])→w.grownBy w' (some b)→wpList Tryz.prog ops Q rest (a.put o.dst undef) w'):
 wpList Tryz.prog ops Q (o::rest) a w:=by
 refine wpList_mapUpdate_own w hg m x v _ hop _ _ (string_keyed Tryz.underlying9) Tryz.underlying112 _ b acc.length _ hm hown hn _ _ _ hx hv (WideMaps.keyOf_string_mk (s:=⟨k.toArray⟩) Tryz.underlying9 (by simpa[ByteArray.size] using hk)) (.lit (.bool true)) [] (plainElem_bool Tryz.underlying4 true) ?_
 intro w' h1 h2
 refine hK w' ?_ h2
 unfold bB
 rw[show keysOf (acc++[k])=keysOf acc++[Lit.string k] from by simp[keysOf],setOf_snoc,List.length_append]
 exact h1
end Go.Proofs.YtakgjcfkdemipaaGreatDoor
