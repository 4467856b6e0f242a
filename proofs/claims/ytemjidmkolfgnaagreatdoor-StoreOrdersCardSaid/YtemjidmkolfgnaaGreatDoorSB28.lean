/-
  Lemmas for the statement: contracts of the package store: pieces and its iterator: pieces of at most 27 bytes, each in memory of its own. Conditions: bounds of lengths; the variable strings.asciiSpace.
-/
import Derived.Test.YtemjidmkolfgnaaGreatDoorSBn
import Derived.Test.YtemjidmkolfgnaaGreatDoorSB22
import Derived.Test.YtemjidmkolfgnaaGreatDoorSB26
import Derived.Test.YtemjidmkolfgnaaGreatDoorSB27
set_option maxHeartbeats 3200000
namespace Go.Proofs.YtemjidmkolfgnaaGreatDoor
open Go Go.RowKit
attribute [local go_sem] Oper.semAt_some
theorem eR {w w':World} (h:Below w.heap.size w w') (row:Option Nat):w.grownBy w' row:=⟨h.os,h.tape,h.output,h.size,λk hk _=>h.block k hk⟩
def bV (n:Nat):Nat:=max 1 ((n+26) / 27)
structure mW (n:Nat) where
 k:Nat
 g:Nat
 c:Nat
 bs:List UInt8
 le:bs.length≤27
 hk:k<n
def mW.val {n:Nat} (x:mW n):Value:=.slice (some ⟨x.g,0,none⟩) x.bs.length x.c
def Cx {n:Nat} (x:mW n) (W:World):Prop:=x.bs.length≤x.c∧∃(C:Array Value) (fl:Nat×Nat),W.heap[x.g]? =some (.cells C 5 fl)∧∀(j:Nat) (u:Value),(aH x.bs)[j]? =some u→C[j]? =some u
theorem Cx.cv {n:Nat} {x:mW n} {W:World} (h:Cx x W):CV (λb=>b=x.g) W x.val (aH x.bs):=by
 obtain⟨h1,C,fl,h2,h3⟩:=h
 refine⟨some ⟨x.g,0,none⟩,x.c,by rw[ak];rfl,by rw[ak];exact h1,by rw[ak];unfold maxLen;have:=x.le;omega,.inr ⟨x.g,0,rfl,rfl,aj h2,λj u hj=>?_⟩⟩
 rw[Nat.zero_add]
 exact(af h2 j).trans (h3 j u hj)
theorem Cx.keep {n:Nat} {x:mW n} {W W':World} (h:Cx x W) (hb:∀o,W.heap[x.g]? =some o→W'.heap[x.g]? =some o):Cx x W':=by
 obtain⟨h1,C,fl,h2,h3⟩:=h
 exact⟨h1,C,fl,hb _ h2,h3⟩
theorem Cx.new {n:Nat} {wr:World} {k z c:Nat} {bs:List UInt8} {R:Array Value} (hb:bs.length=z) (hle:bs.length≤27) (hk:k<n) (hc:grownCap wr z 0 5=c) (hR:bytesRow ⟨bs.toArray⟩ c=R):Cx (⟨k,wr.heap.size,c,bs,hle,hk⟩:mW n) ((wr.alloc (.cells R 5 (R.size,R.size+1))).drew):=by
 refine⟨by show bs.length≤c;rw[hb,←hc];exact grownCap_ge _ _ _ _,R,_,heap_alloc_new wr _,λj u hj=>?_⟩
 rw[←hR]
 have hj2:j<bs.length:=by have:=(List.getElem?_eq_some_iff.1 hj).1;rwa [ak] at this
 unfold bytesRow
 rw[Array.getElem?_append_left (by simpa using hj2)]
 rw[jo] at hj
 simpa using hj
theorem GK {n:Nat} (x:mW n) (B:Nat):OwnFrom B (λ(_:Unit) W=>Cx x W):=λ_ X Y row hs hg hr=>hs.keep λo ho=>by
 obtain⟨_,C,fl,h2,_⟩:=hs
 refine(hg.block _ (aj ho) λe=>?_).trans ho
 obtain⟨_,o',ho',hc⟩:=hr _ e.symm
 rw[h2] at ho'
 cases ho'
 cases hc
theorem ze (s:List UInt8) (m:Nat) (w:World):CallsIn Fence.wide m Tryz.prog 146 #[str s] w λe w'=>e=.returned (.func (.func 178) #[] #[.pointer (some ⟨w.heap.size,0,none⟩)])∧w'=w.alloc (.cells #[str s] 9):=by
 refine callsIn_of_wp Tryz.func146 rfl trivial ?_ rfl
 simp only[Tryz.ntmps146,List.size_toArray,List.length_cons,List.length_nil,Nat.reduceAdd,Nat.reduceSub,Array.replicate_succ,Array.replicate_zero,List.push_toArray,List.append_toArray,List.nil_append,List.cons_append]
 gi_wp2
 go_ret
 exact⟨rfl,rfl⟩
set_option maxRecDepth 4000 in
theorem zf (s:List UInt8) (hs:s.length≤100000) {B:Nat} {w:World} (n:Nat) (hB:w.heap[B]? =some (.cells #[str s] 9 (0,0))):
 xY Fence.wide n Tryz.prog 178 #[.pointer (some ⟨B,0,none⟩)] (λx:mW (bV s.length)=> #[.int .i64 (x.k:Int),x.val]) Cx gp (λxs=>xs.length=bV s.length) (bV s.length) w:=by
 intro l J W hW hJ hY h0
 have OM:=(hW.block B (aj hB)).trans hB
 have hcv:=λ(w:World) (b:ByteArray)=>run_bytes_of_string (P:=Tryz.prog) w 9 38 5 b Tryz.underlying9 Tryz.underlying38 Tryz.underlying5
 have hmk:∀k:Nat,k<bV s.length↔k=0∨k * 27<s.length:=λk=>by unfold bV;omega
 have hNb:bV s.length≤100001:=by unfold bV;omega
 generalize bV s.length=N at *
 refine callsIn_of_wp Tryz.func178 rfl trivial ?_ rfl
 simp only[Tryz.ntmps178,List.size_toArray,List.length_cons,List.length_nil,Nat.reduceAdd,Nat.reduceSub,Array.replicate_succ,Array.replicate_zero,List.push_toArray,List.append_toArray,List.nil_append,List.cons_append]
 gi_wp2
 gi_loopw [3] (λa wr=>∃pre:List (mW N),pre.length≤N∧a=.int .i64 (pre.length:Int)∧wr.heap[B]? =some (.cells #[str s] 9 (0,0))∧J pre wr) (λa _=>N - (intOf a).toNat)
 case atStart=>exact⟨[],Nat.zero_le _,rfl,OM,h0⟩
 case round=>
  obtain⟨pre,hp,rfl,F1,CD⟩:=hrel
  by_cases hlt:pre.length<N
  case pos=>
   have hlen:(pre.length:Int)+1≤9223372036854775807:=by have:=(hmk pre.length).1 hlt;omega
   have hk:=(hmk pre.length).1 hlt;have c1:=(af F1 0).trans rfl;have e0:((pre.length:Int)==0)=decide (pre.length=0):=by by_cases h:pre.length=0<;>simp[h]
   by_cases hz:pre.length=0
   case pos=>
    obtain rfl:pre=[]:=List.eq_nil_of_length_eq_zero hz;simp only[List.length_nil] at *;obtain⟨h,hh⟩:∃h,min s.length 27=h:=⟨_,rfl⟩
    have hM:min (s.length:Int) 27=(h:Int):=by omega
    have hmn:min h s.length=h:=by omega
    obtain⟨z,hz0⟩:∃z:Nat,h=z:=⟨_,rfl⟩
    subst hz0;obtain⟨BS,OK⟩:∃BS,List.take h s=BS:=⟨_,rfl⟩
    have xS:BS.length=h:=by rw[←OK];simp;omega
    have hle:BS.length≤27:=by omega
    obtain⟨c,hc⟩:∃c,grownCap wr h 0 5=c:=⟨_,rfl⟩
    obtain⟨R,hR⟩:∃R,bytesRow ⟨BS.toArray⟩ c=R:=⟨_,rfl⟩
    have Jq:Below wr.heap.size wr ((wr.alloc (.cells R 5 (R.size,R.size+1))).drew):=((zb wr).alloc zr _).drew;have hP:=Cx.new (n:=N) (wr:=wr) xS hle hlt hc hR;have R4:YieldAt Fence.wide (n - 1) Tryz.prog l #[.int .i64 0,.slice (some ⟨wr.heap.size,0,none⟩) BS.length c] ((wr.alloc (.cells R 5 (R.size,R.size+1))).drew) λe W'=>e=.returned (.bool true)∧J ([]++[(⟨0,wr.heap.size,c,BS,hle,hlt⟩:mW N)]) W'∧gp ((wr.alloc (.cells R 5 (R.size,R.size+1))).drew) W':=
     hY ([]:List (mW N)) _ _ (hJ ([]:List (mW N)) _ _ none CD (eR Jq none) (λr e=>by cases e)) hP hlt
    rw[xS] at R4;obtain⟨fn,tmps,assign,body,KJ,Km⟩:=R4;have lQ:=ag F1 Jq;clear hY hP Jq hk
    gi_wp2
    refine⟨cQ _,?_⟩;refine Km.mono ?_;clear Km KJ;rintro e W2 ⟨rfl,F3,hk2⟩;have eV:=hk2 _ _ _ lQ
    gi_wp2
    exact⟨⟨([]:List (mW N))++[_],by simp;omega,by simp,eV,F3⟩,by simp only[intOf];omega⟩
   case neg=>
    have hk2:(pre.length:Int) * 27<(s.length:Int):=by omega
    have hz2:¬(pre.length:Int)=0:=by omega
    obtain⟨h,hh⟩:∃h,min s.length ((pre.length+1) * 27)=h:=⟨_,rfl⟩
    have hM:min (s.length:Int) (((pre.length:Int)+1) * 27)=(h:Int):=by omega
    have hmn:min h s.length=h:=by omega
    obtain⟨z,Vg⟩:∃z,h - pre.length * 27=z:=⟨_,rfl⟩
    obtain⟨BS,OK⟩:∃BS,List.drop (pre.length * 27) (List.take h s)=BS:=⟨_,rfl⟩
    have xS:BS.length=z:=by rw[←OK];simp;omega
    have hle:BS.length≤27:=by omega
    obtain⟨c,hc⟩:∃c,grownCap wr z 0 5=c:=⟨_,rfl⟩
    obtain⟨R,hR⟩:∃R,bytesRow ⟨BS.toArray⟩ c=R:=⟨_,rfl⟩
    have Jq:Below wr.heap.size wr ((wr.alloc (.cells R 5 (R.size,R.size+1))).drew):=((zb wr).alloc zr _).drew;have hP:=Cx.new (n:=N) (wr:=wr) xS hle hlt hc hR;obtain⟨fn,tmps,assign,body,KJ,Km⟩:=hY pre _ _ (hJ pre _ _ none CD (eR Jq none) (λr e=>by cases e)) hP hlt;simp only[mW.val,xS] at KJ Km;have lQ:=ag F1 Jq;clear hY hP Jq hk
    gi_wp2
    refine⟨cQ _,?_⟩;refine Km.mono ?_;clear Km KJ;rintro e W2 ⟨rfl,F3,hk2⟩;have eV:=hk2 _ _ _ lQ
    gi_wp2
    exact⟨⟨pre++[_],by simp;omega,by simp,eV,F3⟩,by simp only[intOf];omega⟩
  case neg=>
   have hn:¬(pre.length=0∨pre.length * 27<s.length):=λh=>hlt ((hmk _).2 h)
   have hz2:¬(pre.length:Int)=0:=by omega
   have hk2:¬(pre.length:Int) * 27<(s.length:Int):=by omega
   have hz:¬pre.length=0:=by omega
   have hlen:(pre.length:Int) * 27≤9223372036854775807:=by omega
   have c1:=(af F1 0).trans rfl;have hpe:=zh (show pre.length=N by omega);have CD:=zh CD;clear hY hJ hn hlt hp hmk
   gi_wp2
   go_end0
   exact⟨⟨_,rfl⟩,pre,hpe.out,CD.out⟩
end Go.Proofs.YtemjidmkolfgnaaGreatDoor
