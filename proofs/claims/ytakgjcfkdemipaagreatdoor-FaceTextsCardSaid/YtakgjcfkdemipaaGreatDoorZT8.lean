/-
  Lemmas: contracts of the library that the reader of faces calls, over lists of bytes: strings.Cut, CutSuffix, TrimSuffix, Split at one byte; slices.Index at texts. Conditions: bounds of lengths; the variable strings.asciiSpace.
-/
import Derived.Test.YtakgjcfkdemipaaGreatDoorZBn
import Derived.Test.YtakgjcfkdemipaaGreatDoorZT6
import Derived.Test.YtakgjcfkdemipaaGreatDoorZT7
namespace Go.Proofs.YtakgjcfkdemipaaGreatDoor
open Go Go.RowKit
def vcl (w:World):Prop:=∃m,w.cell? ⟨0,0,none⟩=some (.int .i64 m)
theorem vcl.below {w w':World} (h:vcl w) (hb:Below w.heap.size w w'):vcl w':=by
 obtain⟨m,h⟩:=h
 exact⟨m,Below.keep hb h⟩
theorem vg7 {p:List UInt8} (s:List UInt8) (hp:p≠[]):Lib.cut s p=va0 p s:=by
 have hpl:=List.length_pos_iff.2 hp
 unfold Lib.cut
 rcases Lib.index_spec s p with⟨h1,h2⟩|⟨i,h1,h2,h3,h4⟩
 · rw[h1,if_neg (by omega),vdr (i:=s.length) zr (by omega) λj hj=>h2 j (by omega)]
 · rw[h1,if_pos (by omega),vdq hp h2 (λj hj=>h4 j hj) h3]
   simp
theorem vdh (s:List UInt8) (c:UInt8) (j:Nat):Lib.occAt s [c] j=decide (s[j]? =some c):=by
 unfold Lib.occAt
 rcases h:s[j]? with _|x
 · rw[List.drop_eq_nil_of_le (List.getElem?_eq_none_iff.1 h)]
   simp
 · rw[bp h]
   by_cases e:x=c
   · subst e;simp
   · rw[decide_eq_false (by simpa using e)]
     exact ves λh=>e h.symm
theorem vdc (c:UInt8):∀(n:Nat) (s:List UInt8),s.length≤n→(Lib.splitB ⟨[c].toArray⟩ 0 (Lib.countB ⟨s.toArray⟩ ⟨[c].toArray⟩) ⟨s.toArray⟩).map Value.string=aB (va1 c s):=by
 intro n
 induction n with
 | zero=>
  intro s hs;obtain rfl:s=[]:=List.length_eq_zero_iff.1 (by omega);have:Lib.indexB ⟨([]:List UInt8).toArray⟩ ⟨[c].toArray⟩= -1:=rfl;rw[Lib.splitB_miss _ _ _ _ this]
  rfl
 | succ n ih=>
  intro s hs;rcases Lib.index_spec s [c] with⟨h1,h2⟩|⟨i,h1,h2,h3,h4⟩
  · have hb:Lib.indexB ⟨s.toArray⟩ ⟨[c].toArray⟩= -1:=by show Lib.index s.toArray.toList [c].toArray.toList= -1;simpa using h1
    have hc:c∉s:=λhc=>by
     obtain⟨j,hj,e⟩:=List.getElem_of_mem hc;have:=h2 j (by omega);rw[vdh,decide_eq_false_iff_not] at this;exact this (by rw[List.getElem?_eq_getElem hj,e])
    rw[Lib.splitB_miss _ _ _ _ hb];have:=vah s [] hc;rw[List.append_nil] at this;rw[this];simp[va1,vas,aB]
  · have hb:Lib.indexB ⟨s.toArray⟩ ⟨[c].toArray⟩=i:=by show Lib.index s.toArray.toList [c].toArray.toList=i;simpa using h1
    rw[vdh,decide_eq_true_eq] at h3;have hi:=(List.getElem?_eq_some_iff.1 h3).1;have hno:c∉s.take i:=λhc=>by
     obtain⟨j,hj,e⟩:=List.getElem_of_mem hc;rw[List.getElem_take] at e;have hji:j<i:=by simp at hj;omega
     have:=h4 j hji;rw[vdh,decide_eq_false_iff_not] at this;exact this (by rw[List.getElem?_eq_getElem (by omega),e])
    have hsz:(⟨s.toArray⟩:ByteArray).size=s.length:=by show s.toArray.size=_;simp
    have hs1:(⟨[c].toArray⟩:ByteArray).size=1:=rfl;rw[Lib.countB_hit _ _ i (by rw[hs1];exact nl _) hb,Nat.add_comm 1,Lib.splitB_hit _ _ _ _ i hb,Fq,Fq,hsz,hs1,List.take_length,List.map_cons,ih _ (by rw[List.length_drop];omega)];have e:s=s.take i++c::s.drop (i+1):=by
     rw[←bp h3,List.take_append_drop]
    conv=>rhs;rw[e,vah _ _ hno,va1,if_pos rfl]
    simp[vas,aB]
theorem vb4 (c:UInt8):∀s:List UInt8,(va1 c s).length≤s.length+1
 | []=>by simp[va1]
 | x::s=>by
  have:=vb4 c s;rw[va1];split
  · simp;omega
  · cases h:va1 c s with
    | nil=>simp[vaj]
    | cons a l=>rw[h] at this;simp[vaj] at this ⊢;omega
theorem vcb (c:UInt8):∀s:List UInt8,∀a∈va1 c s,a.length≤s.length
 | [],a,h=>by simp[va1] at h;simp[h]
 | x :: s, a, h => by
  have ih:=vcb c s;rw[va1] at h;split at h
  · rcases List.mem_cons.1 h with rfl|h
    · simp
    · have:=ih a h;simp;omega
  · cases hq:va1 c s with
    | nil=>rw[hq] at h;simp[vaj] at h;simp[h]
    | cons b l=>
     rw[hq] at h ih;simp only[vaj,List.mem_cons] at h;rcases h with rfl|h
     · have:=ih b (by simp);simp;omega
     · have:=ih a (by simp[h]);simp;omega
theorem vbb (s p:List UInt8) (w:World) (hs:s.length≤100000) (hp:p≠[]) (hm:vcl w):
 Calls Tryz.prog 110 #[str s,str p] w λe w'=>e=.returned (.tuple #[str (va0 p s).1,str (va0 p s).2.1,.bool (va0 p s).2.2])∧Below w.heap.size w w':=by
 obtain⟨m,hm⟩:=hm
 refine(Tryz.strings_Cut ⟨s.toArray⟩ ⟨p.toArray⟩ m w (by show s.toArray.size<_;simp;omega) hm).mono ?_
 rintro e w' ⟨rfl,n,rfl⟩
 rw[show(⟨s.toArray⟩:ByteArray).data.toList=s from by simp,show(⟨p.toArray⟩:ByteArray).data.toList=p from by simp,vg7 s hp]
 exact⟨rfl,vfp (zb _) n⟩
theorem vba (s p:List UInt8) (w:World) (hs:s.length≤100000):
 Calls Tryz.prog 112 #[str s,str p] w λe w'=>e=.returned (.tuple #[str (Lib.trimSuffix s p),.bool (Lib.hasSuffix s p)])∧w=w':=by
 refine(Tryz.strings_CutSuffix ⟨s.toArray⟩ ⟨p.toArray⟩ w (by show s.toArray.size≤_;simp;omega)).mono ?_
 rintro e w' ⟨rfl,rfl⟩
 rw[show(⟨s.toArray⟩:ByteArray).data.toList=s from by simp,show(⟨p.toArray⟩:ByteArray).data.toList=p from by simp]
 exact⟨rfl,rfl⟩
theorem vb5 (s p:List UInt8) (w:World) (hs:s.length≤100000):
 Calls Tryz.prog 169 #[str s,str p] w λe w'=>e=.returned (str (Lib.trimSuffix s p))∧w=w':=by
 refine(Tryz.strings_TrimSuffix ⟨s.toArray⟩ ⟨p.toArray⟩ w (by show s.toArray.size≤_;simp;omega)).mono ?_
 rintro e w' ⟨rfl,rfl⟩
 rw[show(⟨s.toArray⟩:ByteArray).data.toList=s from by simp,show(⟨p.toArray⟩:ByteArray).data.toList=p from by simp]
 exact⟨rfl,rfl⟩
theorem ve0 (s:List UInt8) (c:UInt8) (w:World) (hs:s.length≤100000) (hm:vcl w):
 Calls Tryz.prog 168 #[str s,str [c]] w λe w'=>∃v,e=.returned v∧SS (λb=>w.heap.size≤b) w' v (va1 c s)∧Below w.heap.size w w':=by
 obtain⟨m,hm⟩:=hm
 refine(Tryz.strings_Split ⟨s.toArray⟩ ⟨[c].toArray⟩ m w (by show s.toArray.size<_;simp;omega) hm (by show 1≤[c].toArray.size;simp)).mono ?_
 rintro e w' ⟨rfl,rfl⟩
 have hl:=vb4 c s
 have hq:=vdc c s.length s zr
 have hlen:Lib.countB ⟨s.toArray⟩ ⟨[c].toArray⟩+1=(va1 c s).length:=by
  have h1:=congrArg List.length hq;rw[List.length_map,Lib.splitB_all _ (by show 1≤[c].toArray.size;simp) 0 _ _ rfl] at h1
  simpa[aB] using h1
 rw[hq,hlen]
 exact⟨_,rfl,SS.new _ w zr (va1 c s) 9 (0,0) (by unfold maxLen;omega) (λa ha=>by have:=vcb c s a ha;unfold maxLen;omega),(zb w).alloc zr _⟩
