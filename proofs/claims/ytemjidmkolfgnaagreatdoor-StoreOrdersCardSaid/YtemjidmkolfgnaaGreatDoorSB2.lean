/-
  Lemmas for the statement: its ways. Conditions: bounds of lengths; the variable strings.asciiSpace.
-/
import Derived.Test.YtemjidmkolfgnaaGreatDoorSBn
import Derived.Test.YtemjidmkolfgnaaGreatDoorSB0
import Derived.Test.YtemjidmkolfgnaaGreatDoorSB1
set_option maxHeartbeats 3200000
namespace Go.Proofs.YtemjidmkolfgnaaGreatDoor
open Go.RowKit
theorem yZ (s : List UInt8) : (s = [] ∧ isName s = false) ∨ (∃ h : 0 < s.length, (12 < s.length ∧ isName s = false) ∨ (s.length ≤ 12 ∧
 (((((s[0]).toNat:Int)<97∨(122:Int)<((s[0]).toNat:Int))∧isName s=false)∨((97:Int)≤((s[0]).toNat:Int)∧((s[0]).toNat:Int)≤122∧
  ((ah s≠s.length∧isName s=false)∨(ah s=s.length∧((isWord s=true∧isName s=false)∨(isWord s=false∧isName s=true)))))))):=by
 cases s with
 | nil=>exact .inl ⟨rfl,rfl⟩
 | cons c r =>
  refine .inr ⟨by simp,?_⟩;simp only[List.getElem_cons_zero]
  by_cases h1:(c::r).length≤12
  · refine .inr ⟨h1,?_⟩
    by_cases h2:low c=true
    · have OA:=h2
      simp only[low,Bool.and_eq_true,decide_eq_true_eq] at OA;refine .inr ⟨by omega,by omega,?_⟩
      by_cases h3:ah (c::r)=(c::r).length
      · refine .inr ⟨h3,?_⟩
        cases h4:isWord (c::r)
        · exact .inr ⟨rfl,by simp only[isName,h1,h2,h3,h4];rfl⟩
        · exact .inl ⟨rfl,by simp only[isName,h1,h2,h3,h4];rfl⟩
      · exact .inl ⟨h3,by simp only[isName,h1,h2,h3];simp⟩
    · have OA:=h2
      simp only[low,Bool.and_eq_true,decide_eq_true_eq] at OA;simp only[Bool.not_eq_true] at h2;refine .inl ⟨by omega,by simp only[isName,h2];simp⟩
  · exact .inl ⟨by omega,by simp only[isName];simp at h1 ⊢;intro h;omega⟩
def gx (w:World):Prop:=Lib.TabIs Tryz.prog w "strings.asciiSpace" .u8 Lib.asciiSpaceTab
theorem Dv:Tryz.prog.globalNamed "strings.asciiSpace" =some 1:=by kernel_rfl
theorem gx.below {B:Nat} {w w':World} (h:gx w) (hb:Below B w w') (hB:w.heap.size≤B):gx w':=by
 have hlt:1<w.heap.size:=by
  have h':=h;unfold gx Lib.TabIs World.var? at h';rw[Dv] at h';simp only[Option.bind_some] at h';rcases hk:w.heap[1]? with _|o
  · rw[hk] at h';simp at h'
  · exact(Array.getElem?_eq_some_iff.1 hk).1
 exact var?_below hb Dv (by omega) h
def nU:List UInt8:=[97,110,100,32,97,114,114,97,121,32,98,101,103,105,110,32,98,111,111,108,32,98,114,101,97,107,32,99,108,117,115,116,101,114,32,100,111,32,100,111,119,110,32,101,108,115,101,32,101,108,115,101,105,102,32,101,110,100,32,101,120,99,101,112,116,32,102,97,108,115,101,32,102,111,114,32,104,97,115,32,105,102,32,105,110,32,105,110,116,32,105,115,32,105,116,101,114,32,109,111,100,32,110,105,108,32,110,111,116,32,110,117,108,108,32,111,110,101,111,102,32,111,114,32,111,116,104,101,114,115,32,112,114,111,99,32,112,117,116,32,114,101,99,111,114,100,32,114,101,112,32,114,101,116,117,114,110,32,114,101,116,117,114,110,115,32,115,105,103,110,97,108,32,115,105,103,110,97,108,115,32,116,97,103,32,116,97,103,99,97,115,101,32,116,104,101,110,32,116,114,117,101,32,117,112,32,118,97,114,32,119,104,101,110,32,119,104,101,114,101,32,119,104,105,108,101,32,121,105,101,108,100,32,121,105,101,108,100,115]
theorem rR:Lib.fields nU=cE:=by decide+kernel
theorem uX:∀(j:Nat) (b:UInt8),nU[j]? =some b→b.toNat<128:=by
 have h:(nU.all λb=>decide (b.toNat<128))=true:=by decide+kernel
 intro j b hj
 simpa using List.all_eq_true.1 h b (List.mem_of_getElem? hj)
set_option maxRecDepth 100000 in
theorem tW (w:World) (ht:gx w):Calls Tryz.prog 197 #[.string ⟨#[97,110,100,32,97,114,114,97,121,32,98,101,103,105,110,32,98,111,111,108,32,98,114,101,97,107,32,99,108,117,115,116,101,114,32,100,111,32,100,111,119,110,32,101,108,115,101,32,101,108,115,101,105,102,32,101,110,100,32,101,120,99,101,112,116,32,102,97,108,115,101,32,102,111,114,32,104,97,115,32,105,102,32,105,110,32,105,110,116,32,105,115,32,105,116,101,114,32,109,111,100,32,110,105,108,32,110,111,116,32,110,117,108,108,32,111,110,101,111,102,32,111,114,32,111,116,104,101,114,115,32,112,114,111,99,32,112,117,116,32,114,101,99,111,114,100,32,114,101,112,32,114,101,116,117,114,110,32,114,101,116,117,114,110,115,32,115,105,103,110,97,108,32,115,105,103,110,97,108,115,32,116,97,103,32,116,97,103,99,97,115,101,32,116,104,101,110,32,116,114,117,101,32,117,112,32,118,97,114,32,119,104,101,110,32,119,104,101,114,101,32,119,104,105,108,101,32,121,105,101,108,100,32,121,105,101,108,100,115]⟩] w λe w'=>e=.returned (.slice (some ⟨w.heap.size,0,none⟩) 46 46)∧w'=w.alloc (.cells (aA cE).toArray 9):=by
 have hf:=Tryz.strings_Fields ⟨nU.toArray⟩ w (by decide+kernel) uX ht
 have he:cE.length=46:=by decide
 rw[show(⟨nU.toArray⟩:ByteArray).data.toList=nU from rfl,rR,he] at hf
 exact hf
set_option maxRecDepth 100000 in
theorem zG (w:World) (ht:gx w):Calls Tryz.prog 172 #[] w λe w'=>e=.returned (.slice (some ⟨w.heap.size,0,none⟩) 46 46)∧w'=w.alloc (.cells (aA cE).toArray 9):=by
 have hf:=tW w ht
 go_enter Tryz.func172,Tryz.ntmps172
 go_wp2_with fail
 refine hf.mono ?_
 rintro e w1 ⟨rfl,rfl⟩
 go_wp2_with fail
 go_ret
 exact⟨rfl,rfl⟩
theorem uW:∀x∈cE,x.length≤12:=by
 have h:(cE.all λx=>decide (x.length≤12))=true:=by decide+kernel
 intro x hx
 simpa using List.all_eq_true.1 h x hx
theorem zJ {α:Type} (l:List α) (k:Nat) (x:α) (h:l[k]? =some x):l.take (k+1)=l.take k++[x]:=by
 obtain⟨hk,rfl⟩:=List.getElem?_eq_some_iff.1 h
 exact List.take_succ_eq_append_getElem hk
set_option maxRecDepth 100000 in
theorem uO (w:World) (ht:gx w):Calls Tryz.prog 135 #[] w λe w'=>e=.returned (.map (some w.heap.size))∧bY w' w.heap.size cE∧Below w.heap.size w w':=by
 have hmm:=@run_makeMap Tryz.prog
 have hl:cE.length=46:=by decide
 have Hl:=zh hl
 clear hl
 go_enter Tryz.func135,Tryz.ntmps135
 go_wp2_with fail
 refine(zG _ (ht.below (B:=w.heap.size) ((zb _).alloc zr _) zr)).mono ?_
 rintro e w1 ⟨rfl,rfl⟩
 go_wp2_with fail
 have h0:bY ((w.alloc (.map #[] 0)).alloc (.cells (aA cE).toArray 9)) w.heap.size []:=(bY.made w).kept (World.grownBy_alloc _ _ none) (by simp)
 have h1:((w.alloc (.map #[] 0)).alloc (.cells (aA cE).toArray 9)).heap[w.heap.size+1]? =some (.cells (aA cE).toArray 9):=by
  have:=heap_alloc_new (w.alloc (.map #[] 0)) (.cells (aA cE).toArray 9)
  rwa [World.size_alloc] at this
 have h2:Below w.heap.size w ((w.alloc (.map #[] 0)).alloc (.cells (aA cE).toArray 9)):=((zb _).alloc zr _).alloc (by simp) _
 have hs:w.heap.size+1<((w.alloc (.map #[] 0)).alloc (.cells (aA cE).toArray 9)).heap.size:=by simp
 generalize (w.alloc (.map #[] 0)).alloc (.cells (aA cE).toArray 9)=W at *
 go_loopw [3,7] (λ_ i wr=>∃k:Nat,k≤46∧i=.int .i64 k∧bY wr w.heap.size (cE.take k)∧wr.heap[w.heap.size+1]? =some (.cells (aA cE).toArray 9)∧Below w.heap.size w wr) (λ_ i _=>46 - (intOf i).toNat)
 case atStart=>exact⟨0,by omega,rfl,h0,h1,h2⟩
 case round=>
  obtain⟨k,hk,rfl,dL,hcells,hnx⟩:=hrel
  by_cases hlt:k<46
  · obtain⟨x,hx⟩:∃x,cE[k]? =some x:=⟨cE[k]'(by rw[Hl.out];exact hlt),List.getElem?_eq_getElem _⟩
    have hc:wr.cell? ⟨w.heap.size+1,k,none⟩=some (str x):=by rw[af hcells];simp[aA,hx]
    have HT:=zh (zJ cE k x hx);have hxl:=uW x (List.mem_of_getElem? hx);clear hx;go_wp2_with (at_mapUpdate;refine kg _ rfl _ _ _ rfl w.heap.size (cE.take k) rfl dL (by rw[List.length_take];unfold maxLen;omega) x rfl rfl (by unfold maxLen;omega) ?_;intro w1 Ae DN;clear hc)
    go_roundw
    case rel=>exact⟨k+1,by omega,by go_num,by rw[HT.out];exact Ae,(DN.block _ (Array.getElem?_eq_some_iff.1 hcells).1 (by simp)).trans hcells,hnx.grown DN hnx.size (by intro j hj;cases hj;exact nl _)⟩
    case measure=>simp[intOf];omega
  · have HT:Hid (cE.take k=cE):=List.take_of_length_le (by rw[Hl.out];omega)
    go_wp2
    go_ret;rw[HT.out] at dL;exact⟨rfl,dL,hnx⟩
theorem xD (s:List UInt8) (w:World) (ht:gx w) (hl:s.length≤maxLen):Calls Tryz.prog 100 #[str s] w λe w'=>e=.returned (.bool (isWord s))∧Below w.heap.size w w':=by
 go_enter Tryz.func100,Tryz.ntmps100
 go_wp2_with fail
 refine(uO _ ht).mono ?_
 rintro e w1 ⟨rfl,dL,hb⟩
 have hlk:=dL.look hl
 go_wp2
 go_ret
 exact⟨rfl,hb⟩
def dX (x:Nat):Bool:=decide (126<x)|| !dK (UInt8.ofNat x)
theorem jJ {x:Nat} (h:126<x):dX x=true:=by simp[dX,h]
theorem ir {x:Nat} (h:x≤126):dX x= !dK (UInt8.ofNat x):=by simp[dX];omega
theorem vo {x:Nat} (h:x≤126):dK (UInt8.ofNat x)=(decide (97≤x)&&decide (x≤122)||decide (48≤x)&&decide (x≤57)):=by
 have:(UInt8.ofNat x).toNat=x:=by simp;omega
 unfold dK
 rw[this]
theorem FH (x:Nat) (W:World):Calls Tryz.prog 98 #[.int .i32 x] W λe w'=>e=.returned (.bool (dX x))∧W=w':=by
 rcases(show(126<x)∨(x≤126∧((97≤x∧x≤122)∨(48≤x∧x≤57)∨(x<48)∨(57<x∧x<97)∨(122<x))) from by omega) with h|⟨h,h1⟩
 · have H:=zh (jJ h)
   go_enter Tryz.func98,Tryz.ntmps98
   go_wp2
   go_ret;exact⟨fN H.out.symm,rfl⟩
 · have H:=zh (ir h)
   have H2:=zh (vo h);rcases h1 with⟨h1,h2⟩|⟨h1,h2⟩|h1|⟨h1,h2⟩|h1
   all_goals
    go_enter Tryz.func98,Tryz.ntmps98
    go_wp2
    go_ret;refine⟨fN ?_,rfl⟩;rw[H.out,H2.out,Bool.eq_iff_iff];simp;omega
theorem vh {c:UInt8} (h:dK c=true):c.toNat≤122:=by
 simp only[dK,Bool.or_eq_true,Bool.and_eq_true,decide_eq_true_eq] at h;omega
theorem vz:∀(l:List UInt8) (k:Nat) (h:k<l.length),k<ah l→dK l[k]=true
 | [],k,h,_=>by simp at h
 | c::l,0,_,hc=>by
  rw[bf] at hc;split at hc
  · simpa
  · omega
 | c::l,k+1,h,hc=>by
  rw[bf] at hc;split at hc
  · simpa using vz l k (by simpa using h) (by omega)
  · omega
theorem vA:∀(l:List UInt8) (h:ah l<l.length),dK l[ah l]=false
 | [],h=>by simp at h
 | c::l,h=>by
  by_cases hc:dK c=true
  · have e:ah (c::l)=ah l+1:=by rw[bf,if_pos hc]
    have h':=vA l (by rw[e] at h;simpa using h);simp only[e,List.getElem_cons_succ];exact h'
  · have e:ah (c::l)=0:=by rw[bf,if_neg hc]
    simp only[e,List.getElem_cons_zero]
    simpa using hc
theorem wo (s:List UInt8):∀(f pos:Nat),pos≤ah s→s.length≤pos+f→Lib.idxFuncFrom dX true ⟨s.toArray⟩ f pos=if ah s=s.length then -1 else(ah s:Int)
 | 0,pos,h1,h2=>by
  have:=eE s;rw[if_pos (by omega)];rfl
 | f + 1, pos, h1, h2 => by
  have hle:=eE s;unfold Lib.idxFuncFrom;have hsz:(⟨s.toArray⟩:ByteArray).size=s.length:=by simp[ByteArray.size]
  by_cases hp:pos<s.length
  · rw [if_pos (by rw [hsz]; exact hp)]
    have hp':pos<(⟨s.toArray⟩:ByteArray).size:=by rw[hsz];exact hp
    by_cases hc:pos<ah s
    · have ha:=vz s pos hp hc
      have hb:=vh ha;rw[decode_ascii _ pos hp' (by show(s[pos]).toNat<128;omega)];have e:dX (s[pos]).toNat=false:=by
       rw[ir (by omega)];simp[ha]
      have e2:dX ((⟨s.toArray⟩:ByteArray)[pos]'hp').toNat=false:=e;simp only[e2,Bool.false_eq_true,if_false];exact wo s f (pos+1) (by omega) (by omega)
    · have hm:pos=ah s:=by omega
      subst hm;have ha:=vA s hp;have e:dX (Utf8.decode ⟨s.toArray⟩ (ah s)).1=true:=by
       by_cases hb:(s[ah s]).toNat<128
       · rw[decode_ascii _ _ hp' hb]
         show dX (s[ah s]).toNat=true
         by_cases h126:126<(s[ah s]).toNat
         · exact jJ h126
         · rw[ir (by omega)];simp[ha]
       · exact jJ (by have:=(decode_high _ _ hp' (by show 128≤(s[ah s]).toNat;omega)).1;omega)
      rw[if_pos e,if_neg (by omega)]
  · rw[if_neg (by rw[hsz];exact hp),if_pos (by omega)]
theorem idx_eq (s:List UInt8):Lib.idxFunc dX true ⟨s.toArray⟩=if ah s=s.length then -1 else(ah s:Int):=
 wo s _ 0 (by omega) (by simp[ByteArray.size])
theorem Dc (w:World):PredAt Tryz.prog 98 #[] encR dX w:=λW x _=>by
 refine(FH x W).mono ?_
 rintro e w' ⟨he,rfl⟩
 exact⟨he,0,rfl⟩
theorem sG (s:List UInt8) (w:World):Calls Tryz.prog 97 #[str s,.func (.func 98) #[] #[]] w λe w'=>e=.returned (.int .i64 (if ah s=s.length then -1 else(ah s:Int)))∧Below w.heap.size w w':=by
 rw[←idx_eq]
 exact Tryz.strings_IndexFunc 98 #[] (enters_of Tryz.func98 (by kernel_rfl) rfl) dX ⟨s.toArray⟩ w (Dc w)
theorem Br (s:List UInt8) (w:World) (h:ah s=s.length):Calls Tryz.prog 97 #[str s,.func (.func 98) #[] #[]] w λe w'=>e=.returned (.int .i64 (-1))∧Below w.heap.size w w':=by
 have:=sG s w
 rwa [if_pos h] at this
theorem Ei (s:List UInt8) (w:World) (h:ah s≠s.length):Calls Tryz.prog 97 #[str s,.func (.func 98) #[] #[]] w λe w'=>e=.returned (.int .i64 (ah s:Int))∧Below w.heap.size w w':=by
 have:=sG s w
 rwa [if_neg h] at this
theorem bp (s:List UInt8) (w:World) (ht:gx w) (hl:s.length≤maxLen):Calls Tryz.prog 59 #[str s] w λe w'=>e=.returned (.bool (isName s))∧Below w.heap.size w w':=by
 have hl':=hl
 unfold maxLen at hl'
 rcases yZ s with⟨rfl,hn⟩|⟨h0,⟨h1,hn⟩|⟨h1,⟨h2,hn⟩|⟨h2,h3,⟨h4,hn⟩|⟨h4,⟨h5,hn⟩|⟨h5,hn⟩⟩⟩⟩⟩
 · have HN:=zh hn
   clear hn;go_enter Tryz.func59,Tryz.ntmps59;go_wp2_with fail;go_ret;exact⟨fN HN.out.symm,zb _⟩
 · have HN:=zh hn
   clear hn;go_enter Tryz.func59,Tryz.ntmps59;go_wp2_with fail;go_ret;exact⟨fN HN.out.symm,zb _⟩
 · have HN:=zh hn
   clear hn;rcases h2 with h2|h2
   all_goals
    go_enter Tryz.func59,Tryz.ntmps59
    go_wp2
    go_ret;exact⟨fN HN.out.symm,zb _⟩
 · have HN:=zh hn
   have H4:=zh h4;have yp:¬(ah s:Int)<0:=by omega
   clear hn h4;go_enter Tryz.func59,Tryz.ntmps59;go_wp2_with (first|(go_at_call 97;refine(Ei _ _ H4.out).mono ?_;rintro e w1 ⟨rfl,hb⟩)|(go_at_call 96;go_in));go_ret;exact⟨fN HN.out.symm,hb⟩
 all_goals
  have HN:=zh hn;have H4:=zh h4;clear hn h4;go_enter Tryz.func59,Tryz.ntmps59;go_wp2_with (first|(go_at_call 97;refine(Br _ _ H4.out).mono ?_;rintro e w1 ⟨rfl,hb⟩)|(go_at_call 96;go_in)|(go_at_call 100;refine(xD _ _ (ht.below hb zr) hl).mono ?_;rintro e w2 ⟨rfl,bO⟩));go_ret;exact⟨fN HN.out.symm,hb.trans (bO.mono hb.size)⟩
@[go_sem] theorem FI (a b : List UInt8) : (⟨a.toArray⟩ : ByteArray) ++ ⟨b.toArray⟩ = ⟨(a ++ b).toArray⟩ := by
 apply ByteArray.ext
 simp
def Kept (b:Nat) (w w':World):Prop:=w.grownBy w' (some b)
theorem Kept.refl (b:Nat) (w:World):Kept b w w:=⟨rfl,rfl,rfl,nl _,λ_ _ _=>rfl⟩
theorem Kept.trans {b:Nat} {w1 w2 w3:World} (h:Kept b w1 w2) (k:Kept b w2 w3):Kept b w1 w3:=
 ⟨k.os.trans h.os,k.tape.trans h.tape,k.output.trans h.output,Nat.le_trans h.size k.size,λi hi hne=>(k.block i (Nat.lt_of_lt_of_le hi h.size) hne).trans (h.block i hi hne)⟩
theorem Kept.ai {b B:Nat} {w w':World} (h:Below B w w') (hB:w.heap.size≤B):Kept b w w':=
 ⟨h.os,h.tape,h.output,h.size,λi hi _=>h.block i (by omega)⟩
theorem Kept.setCell (w:World) (b o:Nat) (u:Value):Kept b w (w.setCell ⟨b,o,none⟩ u):=
 ⟨rfl,rfl,rfl,by simp[World.setCell],λi _ hne=>Below.heap_setCell _ _ _ _ (λe=>hne (by rw[e]))⟩
theorem Kept.alloc (b:Nat) (w:World) (o:Obj):Kept b w (w.alloc o):=World.grownBy_alloc w o _
theorem Kept.drew {b:Nat} {w w':World} (h:Kept b w w'):Kept b w w'.drew:=⟨h.os,h.tape,h.output,h.size,h.block⟩
theorem Kept.cell {b:Nat} {w w':World} (h:Kept b w w') {a:Addr} {v:Value} (hc:w.cell? a=some v) (hne:a.block≠b):w'.cell? a=some v:=
 World.grownBy.cell h hc (λe=>hne (Option.some.inj e))
theorem Kept.heap {b:Nat} {w w':World} (h:Kept b w w') {k:Nat} {o:Obj} (hc:w.heap[k]? =some o) (hne:k≠b):w'.heap[k]? =some o:=
 (h.block k (Array.getElem?_eq_some_iff.1 hc).1 (λe=>hne (Option.some.inj e))).trans hc
theorem gx.kept {b:Nat} {w w':World} (h:gx w) (k:Kept b w w') (hne:b≠1):gx w':=by
 have h':=h
 unfold gx Lib.TabIs World.var? at h' ⊢
 rw[Dv] at h' ⊢
 simp only[Option.bind_some] at h' ⊢
 rcases hk:w.heap[1]? with _|o
 · rw[hk] at h';simp at h'
 · rw[k.heap hk (Ne.symm hne)]
   rw[hk] at h';exact h'
theorem qQ (p r:List UInt8):Lib.hasPrefix (p++r) p=true∧Lib.trimPrefix (p++r) p=r:=by
 have:Lib.hasPrefix (p++r) p=true:=by unfold Lib.hasPrefix;simp
 exact⟨this,by unfold Lib.trimPrefix;rw[if_pos this];simp⟩
theorem FP (p r:List UInt8) (w:World):Calls Tryz.prog 243 #[str (p++r),str p] w λe w'=>e=.returned (.tuple #[str r,.bool true])∧w'=w:=by
 have h:=Tryz.strings_CutPrefix ⟨(p++r).toArray⟩ ⟨p.toArray⟩ w
 obtain⟨h1,h2⟩:=qQ p r
 simp only at h
 rw[h1,h2] at h
 exact h
theorem IX (s p:List UInt8) (w:World) (hn:Lib.hasPrefix s p=false):Calls Tryz.prog 243 #[str s,str p] w λe w'=>e=.returned (.tuple #[str s,.bool false])∧w'=w:=by
 have h:=Tryz.strings_CutPrefix ⟨s.toArray⟩ ⟨p.toArray⟩ w
 have h2:Lib.trimPrefix s p=s:=by unfold Lib.trimPrefix;rw[if_neg (by rw[hn];simp)]
 simp only at h
 rw[hn,h2] at h
 exact h
theorem E7 (p r:List UInt8) (b:Nat) (w:World) (hc:w.cell? ⟨b,0,none⟩=some (str (p++r))) (hf:w.frozen? ⟨b,0,none⟩=false):
 Calls Tryz.prog 235 #[.pointer (some ⟨b,0,none⟩),str p] w λe w'=>e=.returned (.bool true)∧w'=w.setCell ⟨b,0,none⟩ (str r):=by
 have Ks:=FP p r
 go_enter Tryz.func235,Tryz.ntmps235
 go_wp2_with (go_at_call 243;refine(Ks _).mono ?_;rintro e w1 ⟨rfl,rfl⟩)
 go_ret
 exact⟨rfl,rfl⟩
theorem bM (s p:List UInt8) (b:Nat) (w:World) (hc:w.cell? ⟨b,0,none⟩=some (str s)) (hn:Lib.hasPrefix s p=false):
 Calls Tryz.prog 235 #[.pointer (some ⟨b,0,none⟩),str p] w λe w'=>e=.returned (.bool false)∧w=w':=by
 have Ks:=IX s p
 go_enter Tryz.func235,Tryz.ntmps235
 go_wp2_with (go_at_call 243;refine(Ks _ hn).mono ?_;rintro e w1 ⟨rfl,rfl⟩)
 go_ret
 exact⟨rfl,rfl⟩
def cS:List PanicEntry:=[{v:=.iface 310 (.agg #[]),recovered:=false }]
theorem cZ (w:World):Calls Tryz.prog 233 #[.bool true] w λe w'=>e=.returned (.tuple #[])∧w=w':=by
 go_enter Tryz.func233,Tryz.ntmps233
 go_wp2
 go_end0
 exact⟨rfl,rfl⟩
theorem dY (w:World):Calls Tryz.prog 233 #[.bool false] w λe w'=>e=.panicked cS∧w=w':=by
 go_enter Tryz.func233,Tryz.ntmps233
 go_wp2
 exact⟨rfl,rfl,rfl⟩
def wk (w:List UInt8):Nat:=
 if w=[105,110,116] then 1 else if w=[98,111,111,108] then 2 else if w=[110,117,108,108] then 3 else if w=[97,114,114,97,121,91] then 4 else if w=[114,101,99,111,114,100,91] then 5 else if w=[111,110,101,111,102,91] then 6 else 0
theorem iC (s:List UInt8) (w:World):Calls Tryz.prog 237 #[str s] w λe w'=>e=.returned (.int .u8 (wk s))∧w=w':=by
 by_cases h1:s=[105,110,116]
 · subst h1
   go_enter Tryz.func237,Tryz.ntmps237
   go_wp2
   go_ret;exact⟨rfl,rfl⟩
 by_cases h2:s=[98,111,111,108]
 · subst h2
   go_enter Tryz.func237,Tryz.ntmps237
   go_wp2
   go_ret;exact⟨rfl,rfl⟩
 by_cases h3:s=[110,117,108,108]
 · subst h3
   go_enter Tryz.func237,Tryz.ntmps237
   go_wp2
   go_ret;exact⟨rfl,rfl⟩
 by_cases h4:s=[97,114,114,97,121,91]
 · subst h4
   go_enter Tryz.func237,Tryz.ntmps237
   go_wp2
   go_ret;exact⟨rfl,rfl⟩
 by_cases h5:s=[114,101,99,111,114,100,91]
 · subst h5
   go_enter Tryz.func237,Tryz.ntmps237
   go_wp2
   go_ret;exact⟨rfl,rfl⟩
 by_cases h6:s=[111,110,101,111,102,91]
 · subst h6
   go_enter Tryz.func237,Tryz.ntmps237
   go_wp2
   go_ret;exact⟨rfl,rfl⟩
 have H:Hid (wk s=0):=by show _=_;unfold wk;rw[if_neg h1,if_neg h2,if_neg h3,if_neg h4,if_neg h5,if_neg h6]
 have g1:(s==[105,110,116])=false:=by simpa using h1
 have g2:(s==[98,111,111,108])=false:=by simpa using h2
 have g3:(s==[110,117,108,108])=false:=by simpa using h3
 have g4:(s==[97,114,114,97,121,91])=false:=by simpa using h4
 have g5:(s==[114,101,99,111,114,100,91])=false:=by simpa using h5
 have g6:(s==[111,110,101,111,102,91])=false:=by simpa using h6
 clear h1 h2 h3 h4 h5 h6
 go_enter Tryz.func237,Tryz.ntmps237
 go_wp2
 go_ret
 exact⟨by rw[H.out];rfl,rfl⟩
structure Env (w:World) (R Nd X rb:Nat):Prop where
 r:w.cell? ⟨R,0,none⟩=some (.pointer (some ⟨rb,0,none⟩))
 need:w.cell? ⟨Nd,0,none⟩=some (.func (.func 233) #[] #[])
 next:w.cell? ⟨X,0,none⟩=some (.func (.func 234) #[] #[.pointer (some ⟨R,0,none⟩),.pointer (some ⟨Nd,0,none⟩),.pointer (some ⟨X,0,none⟩)])
 nr:R≠rb
 nn:Nd≠rb
 nx:X≠rb
 nt:rb≠1
structure Rest (w:World) (rb:Nat) (s:List UInt8):Prop where
 cell:w.cell? ⟨rb,0,none⟩=some (str s)
 free:w.frozen? ⟨rb,0,none⟩=false
theorem Env.kept {w w':World} {R Nd X rb:Nat} (h:Env w R Nd X rb) (k:Kept rb w w'):Env w' R Nd X rb:=
 ⟨k.cell h.r h.nr,k.cell h.need h.nn,k.cell h.next h.nx,h.nr,h.nn,h.nx,h.nt⟩
theorem Rest.below {B:Nat} {w w':World} {rb:Nat} {s:List UInt8} (h:Rest w rb s) (hb:Below B w w') (hB:w.heap.size≤B):Rest w' rb s:=by
 have:=World.block_lt_of_cell? _ _ h.cell
 simp at this
 exact⟨(hb.cell (by simp;omega)).trans h.cell,(hb.frozen (by simp;omega)).trans h.free⟩
def aD (w:World) (rb:Nat) (s:List UInt8) (e:Ending) (w':World):Prop:=
 match aI s with
 | some (t,r)=>(∃v,e=.returned (.agg #[.int .u8 t.k,str t.n,v])∧ff w' (λb=>w.heap.size≤b) t.sub v)∧Rest w' rb r∧Kept rb w w'
 | none=>e=.panicked cS∧Kept rb w w'
def ei (s:List UInt8):Prop:=∀(R Nd X rb:Nat) (w:World),gx w→Env w R Nd X rb→Rest w rb s→
 Calls Tryz.prog 234 #[.pointer (some ⟨R,0,none⟩),.pointer (some ⟨Nd,0,none⟩),.pointer (some ⟨X,0,none⟩)] w (aD w rb s)
theorem cT (p r:List UInt8) (rb:Nat) (w:World) (h:Rest w rb (p++r)):
 Calls Tryz.prog 235 #[.pointer (some ⟨rb,0,none⟩),str p] w λe w'=>e=.returned (.bool true)∧Rest w' rb r∧Kept rb w w':=by
 refine(E7 p r rb w h.cell h.free).mono ?_
 rintro e w' ⟨he,rfl⟩
 exact⟨he,⟨World.cell?_setCell_same' _ _ _ (by rw[h.cell];rfl),by rw[World.frozen?_setCell];exact h.free⟩,Kept.setCell _ _ _ _⟩
theorem dh (l:List UInt8) (rb:Nat) (w:World) (hl:l.length≤maxLen) (h:Rest w rb l):
 Calls Tryz.prog 236 #[.pointer (some ⟨rb,0,none⟩)] w λe w'=>e=.returned (str (l.take (ah l)))∧Rest w' rb (l.drop (ah l))∧Kept rb w w':=by
 refine(Fe l rb w hl h.cell h.free).mono ?_
 rintro e w' ⟨he,rfl⟩
 exact⟨he,⟨World.cell?_setCell_same' _ _ _ (by rw[h.cell];rfl),by rw[World.frozen?_setCell];exact h.free⟩,Kept.setCell _ _ _ _⟩
theorem Env.alloc {w:World} {R Nd X rb:Nat} (h:Env w R Nd X rb) (o:Obj):Env (w.alloc o) R Nd X rb:=h.kept (Kept.alloc rb w o)
theorem Rest.alloc {w:World} {rb:Nat} {s:List UInt8} (h:Rest w rb s) (o:Obj):Rest (w.alloc o) rb s:=h.below (B:=w.heap.size) ((zb _).alloc zr _) zr
theorem Kept.jh {rb:Nat} {w w1:World} (h:Kept rb w w1) {B:Nat} (hB:w.heap.size≤B) (j:Nat) (u:Value):Kept rb w (w1.setCell ⟨B,j,none⟩ u):=
 ⟨h.os,h.tape,h.output,by simpa[World.setCell] using h.size,λi hi hne=>(Below.heap_setCell _ _ _ _ (by simp;omega)).trans (h.block i hi hne)⟩
theorem Rest.dG {w:World} {rb:Nat} {s:List UInt8} (h:Rest w rb s) {B:Nat} (hB:B≠rb) (j:Nat) (u:Value):Rest (w.setCell ⟨B,j,none⟩ u) rb s:=
 ⟨by rw[World.cell?_of_block (Below.heap_setCell _ _ _ _ (Ne.symm hB))];exact h.cell,by rw[World.frozen?_setCell];exact h.free⟩
theorem y9 (r:List UInt8):ei (63::116::r):=by
 intro R Nd X rb w ht he hs
 have a1:=λo=>(he.alloc o).r
 have hlt:=World.block_lt_of_cell? _ _ hs.cell
 simp only at hlt
 have hP:∀e w',aD w rb (63::116::r) e w'↔((∃v,e=.returned (.agg #[.int .u8 (8:Nat),str [],v])∧ff w' (λb=>w.heap.size≤b) .nil v)∧Rest w' rb r∧Kept rb w w'):=by
  intro e w';unfold aD;rw[mN]
 have HP:=zh hP
 clear hP
 go_enter Tryz.func234,Tryz.ntmps234
 go_wp2_with fail
 refine(cT [63,116] r rb _ (hs.alloc _)).mono ?_
 rintro e w1 ⟨rfl,hr1,hk1⟩
 have hB:=hk1.heap (heap_alloc_new w _) (by omega)
 have c0:=(af hB 0).trans rfl
 have c1:=(af hB 1).trans rfl
 have c2:=(af hB 2).trans rfl
 have f0:=au hB 0
 have f1:=au hB 1
 have f2:=au hB 2
 go_wp2_with fail
 refine bodyPost_ret (v:=.agg #[.int .u8 8,.string ⟨#[]⟩,.slice none 0 0]) (by simp[results,Tryz.results234,go_sem,c0,c1,c2]) rfl ?_
 rw[HP.out]
 have hk:=((Kept.alloc rb w _).trans hk1)
 have hne:w.heap.size≠rb:=by omega
 exact⟨⟨_,rfl,ff.nil _ _⟩,((hr1.dG hne _ _).dG hne _ _).dG hne _ _,((hk.jh zr _ _).jh zr _ _).jh zr _ _⟩
theorem zH (s:List UInt8):∀c∈s.take (ah s),dK c=true:=by
 intro c hc
 have e:s.take (ah s)=s.takeWhile dK:=by
  unfold ah
  conv=>lhs;arg 2;rw[←List.takeWhile_append_dropWhile (p:=dK) (l:=s)]
  rw[List.take_left']
  rfl
 rw[e] at hc
 exact List.all_eq_true.1 List.all_takeWhile c hc
theorem jq (s:List UInt8):wk (s.take (ah s))=bU (s.take (ah s)):=by
 have h:=zH s
 generalize s.take (ah s)=w at h
 unfold wk bU J5 Fb Fc
 have hn:∀x,w≠x++[91]:=by
  rintro x rfl;have:=h 91 (by simp);revert this;decide
 rw[if_neg (show w≠[97,114,114,97,121,91] from hn [97,114,114,97,121]),if_neg (show w≠[114,101,99,111,114,100,91] from hn [114,101,99,111,114,100]),if_neg (show w≠[111,110,101,111,102,91] from hn [111,110,101,111,102])]
theorem fD (w:List UInt8):wk (w++[91])=aS w:=by
 have hne:∀(x:List UInt8) (c:UInt8),c≠91→w++[91]≠x++[c]:=by
  intro x c hc e;have:=congrArg List.getLast? e;simp at this;exact hc this.symm
 have heq:∀x:List UInt8,(w++[91]=x++[91])↔w=x:=by intro x;simp
 unfold wk aS gi ij j8
 rw[if_neg (show w++[91]≠[105,110,116] from hne [105,110] 116 (by decide)),if_neg (show w++[91]≠[98,111,111,108] from hne [98,111,111] 108 (by decide)),if_neg (show w++[91]≠[110,117,108,108] from hne [110,117,108] 108 (by decide))]
 have e1:(w++[91]=[97,114,114,97,121,91])=(w=[97,114,114,97,121]):=propext (heq [97,114,114,97,121])
 have e2:(w++[91]=[114,101,99,111,114,100,91])=(w=[114,101,99,111,114,100]):=propext (heq [114,101,99,111,114,100])
 have e3:(w++[91]=[111,110,101,111,102,91])=(w=[111,110,101,111,102]):=propext (heq [111,110,101,111,102])
 simp only[e1,e2,e3]
theorem dy {s:List UInt8} (h:dR s):Lib.hasPrefix s [63,116]=false:=by
 unfold Lib.hasPrefix
 match s,h with
 | [],_=>rfl
 | [a],_=>simp[List.isPrefixOf]
 | a::b::r,h=>
  simp[List.isPrefixOf];rintro rfl rfl;exact h r rfl
theorem dU {s:List UInt8} {c:UInt8} (h:∀r,s≠c::r):Lib.hasPrefix s [c]=false:=by
 unfold Lib.hasPrefix
 match s,h with
 | [],_=>rfl
 | a::r,h=>
  simp[List.isPrefixOf];rintro rfl;exact h r rfl
structure St (w W:World) (R Nd X rb:Nat) (s:List UInt8):Prop where
 pS:Env w R Nd X rb
 B9:gx w
 rest:Rest W rb s
 kept:Kept rb w W
 lt:rb<w.heap.size
 res:W.heap[w.heap.size]? =some (.cells #[.int .u8 0,.string ⟨#[]⟩,.slice none 0 0] 282 (0,0))
section
variable {w W W':World} {R Nd X rb:Nat} {s s':List UInt8}
theorem St.env (h:St w W R Nd X rb s):Env W R Nd X rb:=h.pS.kept h.kept
theorem St.tab (h:St w W R Nd X rb s):gx W:=h.B9.kept h.kept h.pS.nt
theorem St.start (ht:gx w) (he:Env w R Nd X rb) (hs:Rest w rb s):St w (w.alloc (.cells #[.int .u8 0,.string ⟨#[]⟩,.slice none 0 0] 282)) R Nd X rb s:=
 ⟨he,ht,hs.alloc _,Kept.alloc rb w _,by have:=World.block_lt_of_cell? _ _ hs.cell;simpa using this,heap_alloc_new w _⟩
theorem St.next (h:St w W R Nd X rb s) (k:Kept rb W W') (hr:Rest W' rb s'):St w W' R Nd X rb s':=
 ⟨h.pS,h.B9,hr,h.kept.trans k,h.lt,k.heap h.res (by have:=h.lt;omega)⟩
theorem St.quiet (h:St w W R Nd X rb s) (hb:Below W.heap.size W W'):St w W' R Nd X rb s:=
 h.next (Kept.ai hb zr) (h.rest.below hb zr)
theorem St.alloc (h:St w W R Nd X rb s) (o:Obj):St w (W.alloc o) R Nd X rb s:=h.next (Kept.alloc _ _ _) (h.rest.alloc o)
theorem St.size (h:St w W R Nd X rb s):w.heap.size<W.heap.size:=(Array.getElem?_eq_some_iff.1 h.res).1
theorem St.drew (h:St w W R Nd X rb s):St w W.drew R Nd X rb s:=⟨h.pS,h.B9,⟨h.rest.cell,h.rest.free⟩,h.kept.drew,h.lt,h.res⟩
theorem St.drewN (h:St w W R Nd X rb s) (n:Nat):St w (W.drewN n) R Nd X rb s:=
 ⟨h.pS,h.B9,⟨h.rest.cell,h.rest.free⟩,⟨h.kept.os,h.kept.tape,h.kept.output,h.kept.size,h.kept.block⟩,h.lt,h.res⟩
theorem St.set (h:St w W R Nd X rb s) {B:Nat} (hB:w.heap.size<B) (j:Nat) (u:Value):St w (W.setCell ⟨B,j,none⟩ u) R Nd X rb s:=
 ⟨h.pS,h.B9,h.rest.dG (by have:=h.lt;omega) j u,h.kept.jh (by omega) j u,h.lt,by rw[Below.heap_setCell _ _ _ _ (by simp;omega)];exact h.res⟩
theorem St.grown (h:St w W R Nd X rb s) {row:Option Nat} (hg:W.grownBy W' row) (hrow:∀b,row=some b→w.heap.size<b):St w W' R Nd X rb s:=by
 have hl:=h.lt
 have hz:=h.size
 refine⟨h.pS,h.B9,⟨?_,?_⟩,⟨hg.os.trans h.kept.os,hg.tape.trans h.kept.tape,hg.output.trans h.kept.output,Nat.le_trans h.kept.size hg.size,λi hi hne=>(hg.block i (by omega) (λe=>by have:=hrow i e.symm;omega)).trans (h.kept.block i hi hne)⟩,h.lt,?_⟩
 · rw[World.cell?_of_block (hg.block rb (by omega) (λe=>by have:=hrow rb e.symm;omega))];exact h.rest.cell
 · rw[World.frozen?_of_block (hg.block rb (by omega) (λe=>by have:=hrow rb e.symm;omega))];exact h.rest.free
 · rw[hg.block _ hz (λe=>by have:=hrow _ e.symm;omega)];exact h.res
end
theorem St.rN {w W:World} {R Nd X rb:Nat} {s:List UInt8} (h:St w W R Nd X rb s):
 (W.cell? ⟨w.heap.size,0,none⟩=some (.int .u8 0)∧W.cell? ⟨w.heap.size,1,none⟩=some (.string ⟨#[]⟩)∧W.cell? ⟨w.heap.size,2,none⟩=some (.slice none 0 0))∧
 W.frozen? ⟨w.heap.size,0,none⟩=false∧W.frozen? ⟨w.heap.size,1,none⟩=false∧W.frozen? ⟨w.heap.size,2,none⟩=false:=
 ⟨⟨af h.res 0,af h.res 1,af h.res 2⟩,au h.res 0,au h.res 1,au h.res 2⟩
theorem St.done {w W:World} {R Nd X rb:Nat} {s:List UInt8} (h:St w W R Nd X rb s) (a b c:Value):
 Rest (((W.setCell ⟨w.heap.size,0,none⟩ a).setCell ⟨w.heap.size,1,none⟩ b).setCell ⟨w.heap.size,2,none⟩ c) rb s∧Kept rb w (((W.setCell ⟨w.heap.size,0,none⟩ a).setCell ⟨w.heap.size,1,none⟩ b).setCell ⟨w.heap.size,2,none⟩ c):=by
 have hne:w.heap.size≠rb:=by have:=h.lt;omega
 exact⟨((h.rest.dG hne _ _).dG hne _ _).dG hne _ _,((h.kept.jh zr _ _).jh zr _ _).jh zr _ _⟩
theorem cC {w:World} {b:Nat} {cs:Array Value} {t:TypeId} {z:Nat×Nat} (h:w.heap[b]? =some (.cells cs t z)) (j:Nat) (u:Value):(w.setCell ⟨b,j,none⟩ u).heap[b]? =some (.cells (cs.setIfInBounds j u) t z):=by
 simp[World.setCell,Array.getElem?_modify,h]
theorem uI {w:World} {g:Nat} {cs:List Value} {e:TypeId} {n:Nat} (h:w.heap[g]? =some (.cells cs.toArray e (0,0))) (hl:cs.length=n * 4) (hn:n≤maxLen):w.ownsRow 0 e 4 (.slice (some ⟨g,0,none⟩) n n) n cs:=
 ⟨hl,.inr ⟨g,n,cs.toArray,rfl,Nat.zero_le _,h,nl _,hn,by simpa using hl,by rw[←hl];simp⟩⟩
theorem ff.GU {w W:World} {D:Nat→Prop} {fo:Fo} {v:Value} (h:ff W D fo v) (hD:∀b,D b→b≠w.heap.size) (a b c:Value):ff (((W.setCell ⟨w.heap.size,0,none⟩ a).setCell ⟨w.heap.size,1,none⟩ b).setCell ⟨w.heap.size,2,none⟩ c) D fo v:=
 h.kept λk hk _=>by rw[Below.heap_setCell _ _ _ _ (hD k hk),Below.heap_setCell _ _ _ _ (hD k hk),Below.heap_setCell _ _ _ _ (hD k hk)]
theorem BH (s:List UInt8) (hm:s.length≤maxLen) (hp:dR s) (h0:bU (s.take (ah s))≠0):ei s:=by
 intro R Nd X rb w ht he hs
 have hP:∀e w',aD w rb s e w'↔((∃v,e=.returned (.agg #[.int .u8 (bU (s.take (ah s))),str [],v])∧ff w' (λb=>w.heap.size≤b) .nil v)∧Rest w' rb (s.drop (ah s))∧Kept rb w w'):=by
  intro e w';unfold aD;rw[oD hp h0]
 have HP:=zh hP
 have hpre:=dy hp
 have HK:=zh (jq s)
 have hk0:((wk (s.take (ah s)):Int) != 0)=true:=by rw[HK.out,bne_iff_ne];omega
 clear hP h0 hp
 have h1:=St.start ht he hs
 have a1:=h1.env.r
 go_enter Tryz.func234,Tryz.ntmps234
 go_wp2_with fail
 generalize w.alloc (.cells #[.int .u8 0,.string ⟨#[]⟩,.slice none 0 0] 282)=W1 at *
 refine(bM s [63,116] rb _ h1.rest.cell hpre).mono ?_
 rintro e w1 ⟨rfl,rfl⟩
 go_wp2_with fail
 refine(dh s rb _ hm h1.rest).mono ?_
 rintro e w2 ⟨rfl,hr2,hk2⟩
 have h2:=h1.next hk2 hr2
 have b1:=h2.env.r
 obtain⟨⟨c0,c1,c2⟩,f0,f1,f2⟩:=h2.rN
 go_wp2_with (go_at_call 237;refine(iC _ _).mono ?_;rintro e w3 ⟨rfl,rfl⟩)
 refine bodyPost_ret (v:=.agg #[.int .u8 (wk (s.take (ah s))),.string ⟨#[]⟩,.slice none 0 0]) (by simp[results,Tryz.results234,go_sem,c0,c1,c2]) rfl ?_
 rw[HP.out,HK.out]
 obtain⟨g1,g2⟩:=h2.done (.int .u8 (bU (s.take (ah s)))) (.string ⟨#[]⟩) (.slice none 0 0)
 exact⟨⟨_,rfl,ff.nil _ _⟩,g1,g2⟩
theorem De {α:Type} [BEq α] [LawfulBEq α] {a b:α} (h:a≠b):(a==b)=false:=by simpa using h
theorem oy {w:List UInt8}:(aS w=4∧w=[97,114,114,97,121])∨(aS w=5∧w=[114,101,99,111,114,100])∨(aS w=6∧w=[111,110,101,111,102])∨
 (aS w=0∧(w==[97,114,114,97,121])=false∧(w==[114,101,99,111,114,100])=false∧(w==[111,110,101,111,102])=false):=by
 unfold aS
 by_cases h1:w=gi
 · exact .inl ⟨by rw[if_pos h1],h1⟩
 · by_cases h2:w=ij
   · exact .inr (.inl ⟨by rw[if_neg h1,if_pos h2],h2⟩)
   · by_cases h3:w=j8
     · exact .inr (.inr (.inl ⟨by rw[if_neg h1,if_neg h2,if_pos h3],h3⟩))
     · exact .inr (.inr (.inr ⟨by rw[if_neg h1,if_neg h2,if_neg h3],De h1,De h2,De h3⟩))
theorem Ey {w:List UInt8} (h:isName w=true):1≤w.length:=by
 cases w with
 | nil=>simp[isName] at h
 | cons=>simp
theorem ff.shape {w:World} {D:Nat→Prop} {fo:Fo} {v:Value} (h:ff w D fo v):∃p c,v=.slice p fo.len c∧(fo.len≠0→∃g,p=some ⟨g,0,none⟩∧D g∧g<w.heap.size∧fo.len≤c∧w.cell? ⟨g,(fo.len - 1) * 4,none⟩=some (str fo.last)):=by
 obtain⟨sc,h1,h2,h3⟩:=h
 rcases h1.2 with⟨rfl,hz⟩|⟨g,cap,cur,rfl,_,_,h4,_⟩
 · exact⟨none,0,by rw[hz],λhne=>absurd hz hne⟩
 · refine⟨some ⟨g,0,none⟩,cap,rfl,λhne=>⟨g,rfl,h2 g rfl,aW h1 rfl,h4,?_⟩⟩
   have:=h1.cells (g:=g) rfl _ _ (kL.last fo sc h3 hne);simp only[Addr.add] at this;split at this
   · rename_i e;rw[e];exact this
   · simpa using this
theorem Em {n:Nat} (h:n=0):((n:Int)==0)=true:=by subst h;rfl
theorem mE {n:Nat} (h:n≠0):((n:Int)==0)=false:=by rw[beq_eq_false_iff_ne];omega
theorem tE {n:Nat} (h:n≠0) (hm:n≤1000):IntKind.i64.wrap ((n:Int) - 1)=((n - 1:Nat):Int):=by rw[IntKind.wrap_i64];omega
def xW (w:World) (D:Nat→Prop) (fo:Fo) (v:Value):Prop:=∃sc,w.ownsRow 0 321 4 v fo.len sc∧(∀b,v.ownBlock=some b→D b)∧kL w (λb=>D b∧v.ownBlock≠some b) fo sc
theorem xW.Ov {w:World} {D:Nat→Prop} {fo:Fo} {v:Value} (h:xW w D fo v):ff w D fo v:=by
 obtain⟨sc,h1,h2,h3⟩:=h
 exact⟨sc,h1,h2,h3.mono λb hb _=>hb.1⟩
theorem xW.nil (w:World) (D:Nat→Prop):xW w D .nil (.slice none 0 0):=⟨[],World.ownsRow_nil _ _ _ _,by intro b h;simp[Value.ownBlock] at h,rfl⟩
theorem xW.kept {w w':World} {D:Nat→Prop} (hb:∀b,D b→b<w.heap.size→w'.heap[b]? =w.heap[b]?) {fo:Fo} {v:Value} (h:xW w D fo v):xW w' D fo v:=by
 obtain⟨sc,h1,h2,h3⟩:=h
 exact⟨sc,aG h1 (λb e=>hb b (h2 b e) (aW h1 e)),h2,h3.kept λb hD=>hb b hD.1⟩
theorem xW.mono {w:World} {D D':Nat→Prop} (hD:∀b,D b→b<w.heap.size→D' b) {fo:Fo} {v:Value} (h:xW w D fo v):xW w D' fo v:=by
 obtain⟨sc,h1,h2,h3⟩:=h
 exact⟨sc,h1,λb e=>hD b (h2 b e) (aW h1 e),h3.mono λb hb hlt=>⟨hD b hb.1 hlt,hb.2⟩⟩
theorem xW.grow {W W':World} {D:Nat→Prop} {fo sub:Fo} {v v' vt:Value} {sc:List Value} {pn n:List UInt8} {k:Nat} (h2:∀b,v.ownBlock=some b→D b) (h3:kL W (λb=>D b∧v.ownBlock≠some b) fo sc)
 (ht:ff W (λb=>D b∧v.ownBlock≠some b) sub vt) (hN:D W.heap.size) (h':W'.ownsRow 0 321 4 v' (fo.len+1) (sc++[str pn,.int .u8 k,str n,vt])) (hg:W.grownBy W' v.ownBlock)
 (ho:v'.ownBlock=v.ownBlock∨v'.ownBlock=some W.heap.size):xW W' D (fo.app (.cons pn k n sub .nil)) v':=by
 refine⟨_,by rw[Fo.ux];exact h',?_,?_⟩
 · intro b hb
   rcases ho with ho|ho
   · exact h2 b (ho▸hb)
   · rw[ho] at hb
     injection hb with hb;exact hb▸hN
 · have hall:=(kL.single (pn:=pn) (k:=k) (n:=n) ht).app fo sc h3
   refine((hall.mono (D':=λb=>D b∧v'.ownBlock≠some b∧v.ownBlock≠some b) λb hb hlt=>⟨hb.1,?_,hb.2⟩).kept (w':=W') λb hb hlt=>hg.block b hlt (λe=>hb.2.2 e.symm)).mono λb hb _=>⟨hb.1,hb.2.1⟩
   rcases ho with ho|ho
   · rw[ho];exact hb.2
   · rw[ho]
     intro e;injection e with e;omega
theorem Ek:(Tryz.prog.info? 321).map (λi=>(i.zero,i.size,i.bytes))=some (some (.agg #[.string ⟨#[]⟩,.int .u8 0,.string ⟨#[]⟩,.slice none 0 0]),4,64):=by kernel_rfl
theorem Cd:Tryz.prog.underlying 280=some (.slice 321):=by kernel_rfl
theorem FW {fo:Fo} (h:fo.len=0):fo=.nil:=by
 cases fo with
 | nil=>rfl
 | cons=>simp[Fo.len] at h
structure Lp (w:World) (R Nd X rb B1 KN:Nat) (nm s2:List UInt8) (wr:World) (dn:Fo) (u:List UInt8):Prop where
 st:St w wr R Nd X rb u
 lo:w.heap.size<B1
 len:dn.len+u.length≤s2.length
 row:∃v,wr.heap[B1]? =some (.cells #[.int .u8 KN,str nm,v] 282 (0,0))∧xW wr (λb=>B1<b) dn v
 eq:Hid (b8 [] s2=(b8 dn.last u).map λp=>(dn.app p.1,p.2))
section
variable {w wr:World} {R Nd X rb B1 KN:Nat} {nm s2:List UInt8} {dn:Fo} {u:List UInt8}
theorem Lp.mI (h:Lp w R Nd X rb B1 KN nm s2 wr dn u) (hn:b8 dn.last u=none):b8 [] s2=none:=by
 rw[h.eq.out,hn];rfl
theorem Lp.start (h:St w wr R Nd X rb s2) (hB:w.heap.size<B1) (hx:wr.heap[B1]? =some (.cells #[.int .u8 KN,str nm,.slice none 0 0] 282 (0,0))):Lp w R Nd X rb B1 KN nm s2 wr .nil s2:=by
 refine⟨h,hB,by simp[Fo.len],⟨_,hx,xW.nil wr _⟩,?_⟩
 show b8 [] s2=(b8 [] s2).map _
 rcases b8 [] s2 with _|⟨a,b⟩
 · rfl
 · rfl
def lU (dn:Fo) (n:List UInt8):Prop:=isName n=true∧(dn.len=0∨Op.bytesLess dn.last n=true)
theorem lV {dn:Fo} {n:List UInt8}:lU dn n↔(isName n=true∧Op.bytesLess dn.last n=true):=by
 unfold lU
 constructor
 · rintro⟨h1,h2⟩
   refine⟨h1,?_⟩;rcases h2 with h2|h2
   · rw[FW h2]
     have:=Ey h1;cases n with
     | nil=>simp at this
     | cons=>rfl
   · exact h2
 · rintro⟨h1,h2⟩
   exact⟨h1,.inr h2⟩
theorem sZ (h:¬lU dn (u.take (ah u))):b8 dn.last u=none:=za λe=>h (lV.2 e)
theorem qJ (h:lU dn (u.take (ah u))) {u2:List UInt8} (hb:u.drop (ah u)=58::u2):
 b8 dn.last u=match aI u2 with
  | some (t,r)=>match r with
   | 44::r2=>match b8 (u.take (ah u)) r2 with
    | some (fo,r3)=>some (.cons (u.take (ah u)) t.k t.n t.sub fo,r3)
    | none=>none
   | _=>some (.cons (u.take (ah u)) t.k t.n t.sub .nil,r)
  | none=>none:=nO (lV.1 h).1 (lV.1 h).2 hb
def Fo.snoc (dn:Fo) (n:List UInt8) (t:Tr):Fo:=dn.app (.cons n t.k t.n t.sub .nil)
theorem Fo.qt (dn:Fo) (n:List UInt8) (t:Tr):(dn.snoc n t).len=dn.len+1:=by unfold Fo.snoc;rw[Fo.ux];rfl
theorem Fo.yU (dn:Fo) (n:List UInt8) (t:Tr):(dn.snoc n t).last=n:=Fo.sK _ _ _ _ _
theorem Lp.I3 (h:Lp w R Nd X rb B1 KN nm s2 wr dn u) (hn:lU dn (u.take (ah u))) {u2 r:List UInt8} {t:Tr} (hb:u.drop (ah u)=58::u2) (hq:aI u2=some (t,r)) (hr:∀r',r≠44::r'):b8 [] s2=some (dn.snoc (u.take (ah u)) t,r):=by
 rw[h.eq.out,qJ hn hb,hq]
 simp only
 rfl
theorem Lp.step_eq (h:Lp w R Nd X rb B1 KN nm s2 wr dn u) (hn:lU dn (u.take (ah u))) {u2 r:List UInt8} {t:Tr} (hb:u.drop (ah u)=58::u2) (hq:aI u2=some (t,44::r)):b8 [] s2=(b8 (dn.snoc (u.take (ah u)) t).last r).map λp=>((dn.snoc (u.take (ah u)) t).app p.1,p.2):=by
 rw[h.eq.out,qJ hn hb,hq,Fo.yU]
 simp only
 rcases b8 (u.take (ah u)) r with _|⟨fo,r3⟩
 · rfl
 · simp only[Option.map_some,Option.some.injEq,Prod.mk.injEq,and_true]
   unfold Fo.snoc;rw[Fo.rX]
   rfl
end
theorem ff.at {w:World} {D:Nat→Prop} {fo:Fo} {v:Value} (h:ff w D fo v) {i:Nat} (hi:i<fo.len):∃g c pn t u,v=.slice (some ⟨g,0,none⟩) fo.len c∧D g∧g<w.heap.size∧fo.at i=some (pn,t)∧
 w.cell? ⟨g,i * 4,none⟩=some (str pn)∧w.cell? ⟨g,i * 4+1,none⟩=some (.int .u8 t.k)∧w.cell? ⟨g,i * 4+2,none⟩=some (str t.n)∧w.cell? ⟨g,i * 4+3,none⟩=some u∧ff w D t.sub u:=by
 obtain⟨sc,h1,h2,h3⟩:=h
 obtain⟨pn,t,u,a,b0,b1,b2,b3,c⟩:=h3.at fo sc i hi
 rcases h1.2 with⟨rfl,hz⟩|⟨g,cap,cur,rfl,_,_,h4,_⟩
 · omega
 · have hc:∀j x,sc[j]? =some x→w.cell? ⟨g,j,none⟩=some x:=by
    intro j x hx;have:=h1.cells (g:=g) rfl _ _ hx;simp only[Addr.add] at this;split at this
    · rename_i e;rw[e];exact this
    · simpa using this
   exact⟨g,cap,pn,t,u,rfl,h2 g rfl,aW h1 rfl,a,hc _ _ b0,hc _ _ b1,hc _ _ b2,hc _ _ b3,c⟩
theorem ff.Et {w:World} {D:Nat→Prop} {fo:Fo} {v:Value} (h:ff w D fo v):fo.len≤maxLen:=by
 obtain⟨sc,h1,h2,h3⟩:=h
 rcases h1.2 with⟨rfl,hz⟩|⟨g,cap,cur,rfl,_,_,h4,h5,_⟩
 · omega
 · omega
set_option maxRecDepth 4000 in
theorem BB:∀(m:Nat) (fo:Fo),fo.level≤m→m≤1000→∀(w:World) (D:Nat→Prop) (v:Value) (k:Nat) (n:List UInt8),ff w D fo v→Calls Tryz.prog 226 #[.agg #[.int .u8 k,str n,v]] w λe w'=>e=.returned (.int .i64 ((fo.level+1:Nat):Int))∧Below w.heap.size w w':=by
 intro m
 induction m with
 | zero=>
  intro fo hl hm w D v k n hv;have hz:fo=.nil:=by
   cases fo with
   | nil=>rfl
   | cons pn k n sub rest=>simp only[Fo.level] at hl;omega
  subst hz;obtain⟨p,c,rfl,_⟩:=hv.shape;go_enter Tryz.func226,Tryz.ntmps226;go_wp2_with fail;have mD:=(Below.refl w.heap.size w).alloc zr (.cells #[.int .u8 k,str n,.slice p Fo.nil.len c] 282);generalize w.alloc (.cells #[.int .u8 k,str n,.slice p Fo.nil.len c] 282)=W1 at *;go_loopw [3,9] (λa b wr=>a=.int .i64 0∧b=.int .i64 0∧wr=W1) (λ_ _ _=>0)
  case atStart=>exact⟨rfl,rfl,rfl⟩
  case round=>
   obtain⟨rfl,rfl,rfl⟩:=hrel;go_wp2_with fail;exact bodyPost_ret (v:=.int .i64 1) (by simp[results,Tryz.results226]) rfl ⟨rfl,mD⟩
 | succ m ih=>
  intro fo hl hm w D v k n hv;have hlen:=hv.Et;obtain⟨p,c,rfl,_⟩:=hv.shape;have IH:=zh ih;clear ih;go_enter Tryz.func226,Tryz.ntmps226;go_wp2_with fail;have mD:=(Below.refl w.heap.size w).alloc zr (.cells #[.int .u8 k,str n,.slice p fo.len c] 282);generalize w.alloc (.cells #[.int .u8 k,str n,.slice p fo.len c] 282)=W1 at *;go_loopw [3,9] (λa b wr=>∃i:Nat,i≤fo.len∧a=.int .i64 (fo.gW i)∧b=.int .i64 i∧Below w.heap.size w wr) (λ_ b _=>fo.len - (intOf b).toNat)
  case atStart=>exact⟨0,Nat.zero_le _,by cases fo<;>rfl,rfl,mD⟩
  case round=>
   obtain⟨i,hi,rfl,rfl,hb⟩:=hrel
   by_cases hlt:i<fo.len
   case pos=>
    obtain⟨g,c',pn,t,u,e,_,hg,hat,x0,x1,x2,x3,hu⟩:=hv.at hlt;injection e with e1 _ e2;subst e1 e2;obtain⟨p',c',rfl,_⟩:=hu.shape;have y0:=(hb.cell (by exact hg)).trans x0;have y1:=(hb.cell (by exact hg)).trans x1;have y2:=(hb.cell (by exact hg)).trans x2;have y3:=(hb.cell (by exact hg)).trans x3;clear x0 x1 x2 x3;have hlv:=fo.pK i pn t hat;have HS:=zh (fo.qu i pn t hat);have hle:=fo.wO i;have xR:=hb.alloc hb.size (.cells #[.string ⟨pn.toArray⟩,.int .u8 t.k,.string ⟨t.n.toArray⟩,.slice p' t.sub.len c'] 321);go_wp2_with fail;refine(IH.out t.sub (by omega) (by omega) _ D _ t.k t.n (hu.below xR zr)).mono ?_;rintro e w2 ⟨rfl,bO⟩;have cK:=xR.trans (⟨bO.os,bO.tape,bO.output,bO.size,λk hk=>bO.block k (by have:=xR.size;omega)⟩:Below w.heap.size _ _);clear y0 y1 y2 y3 bO xR;go_wp2_with fail;have hwi:wrap64 ((i:Int)+1)=((i+1:Nat):Int):=by unfold wrap64;unfold maxLen at hlen;omega
    rw[hwi];refine⟨⟨i+1,hlt,?_,rfl,cK⟩,?_⟩
    · rw[HS.out];congr 1;omega
    · simp only[intOf,Int.toNat_natCast];omega
   case neg=>
    have hie:i=fo.len:=by omega
    have HL:=zh (show fo.gW i=fo.level by rw[hie];exact fo.sL);clear hie;go_wp2_with fail;refine bodyPost_ret (v:=.int .i64 (wrap64 ((fo.gW i:Int)+1))) (by simp[results,Tryz.results226]) rfl ⟨?_,hb⟩;rw[HL.out];have:wrap64 ((fo.level:Int)+1)=((fo.level+1:Nat):Int):=by unfold wrap64;omega
    rw[this]
theorem join_eq:∀ss:List (List UInt8),Lib.join ss [44]=di ss
 | []=>rfl
 | [a]=>by simp[Lib.join,di]
 | a::b::l=>by
  have:=join_eq (b::l);rw[di,←this];simp[Lib.join,List.intercalate]
set_option maxRecDepth 4000 in
theorem pL (pb qb:Nat) (x0 x1 x2 y:Value) (tq:TypeId) (older:List PanicEntry) (w:World) (hP:w.heap[pb]? =some (.cells #[x0,x1,x2] 282 (0,0))) (hQ:w.heap[qb]? =some (.cells #[y] tq (0,0))) (hne:pb≠qb):
 CallsD Tryz.prog 232 #[.pointer (some ⟨pb,0,none⟩),.pointer (some ⟨qb,0,none⟩)] (.panicking ({v:=.iface 310 (.agg #[]),recovered:=false }::older)) w λe u' w'=>
  e=.returned (.tuple #[])∧u'=.panicking ({v:=.iface 310 (.agg #[]),recovered:=true }::older)∧w'=((((w.setCell ⟨pb,0,none⟩ (.int .u8 0)).setCell ⟨pb,1,none⟩ (str [])).setCell ⟨pb,2,none⟩ (.slice none 0 0)).setCell ⟨qb,0,none⟩ (.bool false)).alloc (.cells #[] 310):=by
 have Wo:=(Array.getElem?_eq_some_iff.1 hP).1
 have UK:=(Array.getElem?_eq_some_iff.1 hQ).1
 have c0:=(af hP 0).trans rfl
 have c1:=(af hP 1).trans rfl
 have c2:=(af hP 2).trans rfl
 have d0:=(af hQ 0).trans rfl
 have f0:=au hP 0
 have f1:=au hP 1
 have f2:=au hP 2
 have g0:=au hQ 0
 clear hP hQ
 have UY:∀w:World,Sem.run Tryz.prog (Instr.typeAssert (.iface 310 (.agg #[])) 20 310 true) w=.ok (.tuple #[.agg #[],.bool true]) w:=λ_=>rfl
 refine callsD_of_wpS Tryz.func232 rfl λc₀ cs hu=>?_
 apply wpS_seq
 apply wpS_region
 simp[wpOpsS,go_sem,recoverD,hu,Tryz.ntmps232,Exit.thenS]
 refine wpS_of_wp ?_
 simp only[List.replicate,Array.replicate,List.append_toArray,List.cons_append,List.nil_append,List.setIfInBounds_toArray,List.set_cons_zero,List.set_cons_succ]
 go_wp2
 exact⟨rfl,_,rfl,_,by simp[results,Tryz.results232],rfl,rfl,rfl⟩
theorem ya (pb qb:Nat) (w:World):
 CallsD Tryz.prog 232 #[.pointer (some ⟨pb,0,none⟩),.pointer (some ⟨qb,0,none⟩)] .returning w λe u' w'=>e=.returned (.tuple #[])∧u'=.returning∧w'=w:=by
 refine callsD_of_wpS Tryz.func232 rfl λc₀ cs hu=>?_
 apply wpS_seq
 apply wpS_region
 simp[wpOpsS,go_sem,recoverD,hu,Tryz.ntmps232,Exit.thenS]
 refine wpS_of_wp ?_
 simp only[List.replicate,Array.replicate,List.append_toArray,List.cons_append,List.nil_append,List.setIfInBounds_toArray,List.set_cons_zero,List.set_cons_succ]
 go_wp2
 exact⟨rfl,_,by cases c₀;simp_all,_,by simp[results,Tryz.results232],rfl,rfl,rfl⟩
def mQ (e:Nat):List PanicEntry:=[{v:=.iface 162 (.agg #[.int .i64 (e:Int)]),recovered:=false }]
theorem bt (e:Nat) (w:World):Calls Tryz.prog 58 #[.bool true,.int .i64 (e:Int)] w λen w'=>en=.returned (.tuple #[])∧w=w':=by
 go_enter Tryz.func58,Tryz.ntmps58
 go_wp2
 go_end0
 exact⟨rfl,rfl⟩
theorem cm (e:Nat) (w:World):Calls Tryz.prog 58 #[.bool false,.int .i64 (e:Int)] w λen w'=>en=.panicked (mQ e)∧w=w':=by
 go_enter Tryz.func58,Tryz.ntmps58
 go_wp2
 exact⟨rfl,rfl,rfl⟩
set_option maxRecDepth 4000 in
theorem xE (qb:Nat) (E:Nat) (y:Value) (older:List PanicEntry) (w:World) (hQ:w.heap[qb]? =some (.cells #[y] 49 (0,0))):
 CallsD Tryz.prog 95 #[.pointer (some ⟨qb,0,none⟩)] (.panicking ({v:=.iface 162 (.agg #[.int .i64 (E:Int)]),recovered:=false }::older)) w λe u' w'=>
  e=.returned (.tuple #[])∧u'=.panicking ({v:=.iface 162 (.agg #[.int .i64 (E:Int)]),recovered:=true }::older)∧w'=(w.setCell ⟨qb,0,none⟩ (.int .i64 (E:Int))).alloc (.cells #[.int .i64 (E:Int)] 162):=by
 have UK:=(Array.getElem?_eq_some_iff.1 hQ).1
 have d0:=(af hQ 0).trans rfl
 have g0:=au hQ 0
 clear hQ
 have UY:∀(x:Value) (w:World),Sem.run Tryz.prog (Instr.typeAssert (.iface 162 (.agg #[x])) 20 162 true) w=.ok (.tuple #[.agg #[x],.bool true]) w:=λ_ _=>rfl
 refine callsD_of_wpS Tryz.func95 rfl λc₀ cs hu=>?_
 apply wpS_seq
 apply wpS_region
 simp[wpOpsS,go_sem,recoverD,hu,Tryz.ntmps95,Exit.thenS]
 refine wpS_of_wp ?_
 simp only[List.replicate,Array.replicate,List.append_toArray,List.cons_append,List.nil_append,List.setIfInBounds_toArray,List.set_cons_zero,List.set_cons_succ]
 go_wp2
 exact⟨rfl,_,rfl,_,by simp[results,Tryz.results95],rfl,rfl,rfl⟩
theorem zK (qb:Nat) (w:World):
 CallsD Tryz.prog 95 #[.pointer (some ⟨qb,0,none⟩)] .returning w λe u' w'=>e=.returned (.tuple #[])∧u'=.returning∧w'=w:=by
 refine callsD_of_wpS Tryz.func95 rfl λc₀ cs hu=>?_
 apply wpS_seq
 apply wpS_region
 simp[wpOpsS,go_sem,recoverD,hu,Tryz.ntmps95,Exit.thenS]
 refine wpS_of_wp ?_
 simp only[List.replicate,Array.replicate,List.append_toArray,List.cons_append,List.nil_append,List.setIfInBounds_toArray,List.set_cons_zero,List.set_cons_succ]
 go_wp2
 exact⟨rfl,_,by cases c₀;simp_all,_,by simp[results,Tryz.results95],rfl,rfl,rfl⟩
def vM (E:Nat):Ending:=if E=0 then .returned (.tuple #[]) else .panicked (mQ E)
theorem bQ {E:Nat} (h:E≠0):vM E=.panicked (mQ E):=if_neg h
set_option maxRecDepth 4000 in
theorem tr {k:FuncId} {caps:Array Value} (en:∀args w,(callFunc k args).run Tryz.prog w=.ok (.enter k args) w) (Q:Nat→World→Prop) (w:World)
 (Uz:Calls Tryz.prog k caps (w.alloc (.cells #[.int .i64 0] 49)) λe w1=>(∃E,e=vM E∧Q E w1)∧w1.heap[w.heap.size]? =some (.cells #[.int .i64 0] 49 (0,0))):
 Calls Tryz.prog 56 #[.func (.func k) #[] caps] w λe w'=>∃(E:Nat) (w1:World),e=.returned (.int .i64 (E:Int))∧Q E w1∧w1.grownBy w' (some w.heap.size):=by
 have Kz:∀(fn:Fn) (first cap:Array Value) (w:World),(Instr.makeFunc fn first cap).run Tryz.prog w=.ok (.func fn first cap) w:=λ_ _ _ _=>rfl
 go_enter_defers Tryz.func56,Tryz.ntmps56
 go_wp2_with fail
 refine Uz.mono ?_
 rintro e w1 ⟨⟨E,rfl,hQ⟩,hC⟩
 have hl:=(Array.getElem?_eq_some_iff.1 hC).1
 have c0:=(af hC 0).trans rfl
 have f0:=au hC 0
 have Sd:∀u:Value,w1.grownBy (w1.setCell ⟨w.heap.size,0,none⟩ u) (some w.heap.size):=λu=>⟨rfl,rfl,rfl,by simp,λk _ hk=>heap_setCell_other w1 ⟨w.heap.size,0,none⟩ k u (λe=>hk (by rw[e]))⟩
 by_cases hE:E=0
 · subst hE
   rw[show vM 0=.returned (.tuple #[]) from rfl];go_wp2_with fail;refine leaves_cons (f:=95) (args:= #[.pointer (some ⟨w.heap.size,0,none⟩)]) (by simp) (by simp[go_sem]) ?_;refine(zK w.heap.size _).mono ?_;rintro e u' w'' ⟨rfl,rfl,rfl⟩;have q:=heap_setCell_same w1 w.heap.size 0 _ _ (.int .i64 0) hC;have hg:=Sd (.int .i64 0);generalize w1.setCell ⟨w.heap.size,0,none⟩ (.int .i64 0)=WF at *;have c0:=(af q 0).trans rfl;simp[Leaves,settle,results,Tryz.results56,go_sem,c0];exact⟨0,rfl,w1,hQ,hg⟩
 · rw[bQ hE]
   unfold mQ;go_wp2_with fail;refine leaves_cons (f:=95) (args:= #[.pointer (some ⟨w.heap.size,0,none⟩)]) (by simp) (by simp[go_sem]) ?_;refine(xE w.heap.size E _ [] w1 hC).mono ?_;rintro e u' w'' ⟨rfl,rfl,rfl⟩;have q:=aK (.cells #[.int .i64 (E:Int)] 162) (heap_setCell_same w1 w.heap.size 0 _ _ (.int .i64 (E:Int)) hC);have hg:=((Sd (.int .i64 (E:Int))).trans (World.grownBy_alloc _ (.cells #[.int .i64 (E:Int)] 162) (some w.heap.size)));generalize World.alloc _ _=WF at *;have c0:=(af q 0).trans rfl;simp[Leaves,settle,results,Tryz.results56,go_sem,c0];exact⟨E,rfl,w1,hQ,hg⟩
end Go.Proofs.YtemjidmkolfgnaaGreatDoor
