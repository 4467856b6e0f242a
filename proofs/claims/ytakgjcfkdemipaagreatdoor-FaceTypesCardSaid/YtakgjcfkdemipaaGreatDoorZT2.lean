/-
  Lemmas for the statement: what the functions answer, in any world with the table: the form in which the statements' walks use the contracts. Operations of types (plain): names that stand once; operations in order; how many levels Good looks at. Conditions: bounds of lengths; the variable strings.asciiSpace.
-/
import Derived.Test.YtakgjcfkdemipaaGreatDoorZG15
import Derived.Test.YtakgjcfkdemipaaGreatDoorZT1
namespace Go.Proofs.YtakgjcfkdemipaaGreatDoor
def vfi:List UInt8:=[63,116]
theorem vc4:aq vfi=(0,⟨8,[],.nil⟩):=by kernel_rfl
theorem Fo.vaz (a b:Tr):∀fo:Fo,(fo.put a).put b=fo.put (a.put b)
 | .nil=>rfl
 | .cons pn k n sub rest => by
  have h1:=Fo.vaz a b sub;have h2:=Fo.vaz a b rest
  by_cases hk:k=8
  · rw[Fo.put,if_pos hk,Fo.put,h2,Fo.put,if_pos hk]
    unfold Tr.put;split<;>rfl
  · rw[Fo.put,if_neg hk,Fo.put,if_neg hk,h1,h2,Fo.put,if_neg hk]
theorem Tr.vaz (a b t:Tr):(t.put a).put b=t.put (a.put b):=by
 by_cases hk:t.k=8
 · rw[Tr.put,Tr.put,if_pos hk,Tr.put,if_pos hk]
   rfl
 · have h:=Fo.vaz a b t.sub
   simp only[Tr.put,hk,if_false,h];try (split<;>rfl)
theorem Wf.vbr {tag:Option (List UInt8)} {fo:Fo} (h:Wf tag fo):fo.put ⟨8,[],.nil⟩=fo:=by
 induction h with
 | par=>rfl
 | word k h=>rw[Fo.put,if_neg (by omega)];rfl
 | arr x h ih=>rw[Fo.put,if_neg (by omega),ih];rfl
 | rcd k w fo hk h hl ih=>rw[Fo.put,if_neg (by omega),ih];rfl
 | nam n hn=>rw[Fo.put,if_neg (by omega)];rfl
 | app n x hn h ih=>rw[Fo.put,if_neg (by omega),ih];rfl
 | last b pn k n sub hn hb h ih=>
  rw[Fo.put] at ih ⊢;split at ih
  · rw[if_pos ‹_›];obtain⟨_,e1,e2,e3,e4⟩:=Fo.cons.inj ih;exact(Fo.cons.injEq ..).mpr ⟨rfl,e1,e2,e3,e4⟩
  · rw[if_neg ‹_›];obtain⟨_,e1,e2,e3,e4⟩:=Fo.cons.inj ih;exact(Fo.cons.injEq ..).mpr ⟨rfl,e1,e2,e3,e4⟩
 | more b pn k n sub rest hn hb h h2 ih ih2=>
  rw[Fo.put] at ih ⊢;split at ih
  · rw[if_pos ‹_›];obtain⟨_,e1,e2,e3,e4⟩:=Fo.cons.inj ih;exact(Fo.cons.injEq ..).mpr ⟨rfl,e1,e2,e3,ih2⟩
  · rw[if_neg ‹_›];obtain⟨_,e1,e2,e3,e4⟩:=Fo.cons.inj ih;exact(Fo.cons.injEq ..).mpr ⟨rfl,e1,e2,e3,ih2⟩
theorem Tr.ok.vbr {t:Tr} (h:t.ok):t.put ⟨8,[],.nil⟩=t:=by
 have h1:=Wf.vbr h
 rw[Fo.Ew] at h1
 rcases t with⟨k,n,sub⟩
 unfold Fo.one at h1
 simp only[Fo.cons.injEq] at h1
 obtain⟨_,e1,e2,e3,_⟩:=h1
 rcases hq:(Tr.mk k n sub).put ⟨8,[],.nil⟩ with⟨k',n',sub'⟩
 rw[hq] at e1 e2 e3
 simp only at e1 e2 e3
 rw[e1,e2,e3]
theorem vc1 {t:Tr} (h1:t.txt.length≤100) (h2:t.level≤6):ij t=(t.txt,0):=by
 unfold ij;rw[if_neg (by omega)]
theorem vbm {t:List UInt8} (h:(aq t).1=0):aQ t vfi=(t,0)∧aQ vfi t=(t,0):=by
 rcases hq:aq t with⟨c,T⟩
 rw[hq] at h
 simp only at h
 subst h
 obtain⟨h1,h2,h3,h4⟩:=bE hq
 constructor
 · rw[BS hq vc4,h1.vbr,vc1 (by rw[h2];exact h3) h4,h2]
 · rw[BS vc4 hq,show(Tr.mk 8 [] .nil).put T=T from rfl,vc1 (by rw[h2];exact h3) h4,h2]
theorem vbf {t a b x y:List UInt8} (h:aQ t a=(x,0)) (k:aQ a b=(y,0)):aQ x b=aQ t y:=by
 obtain⟨T,A,h1,h2,_,h4⟩:=JV h
 obtain⟨A',B,k1,k2,_,k4⟩:=JV k
 rw[h2] at k1
 simp only[Prod.mk.injEq,true_and] at k1
 subst k1
 rw[BS h4 k2,BS h1 k4,Tr.vaz]
end Go.Proofs.YtakgjcfkdemipaaGreatDoor
namespace Go.Proofs.YtakgjcfkdemipaaGreatDoor
open Go.RowKit
end Go.Proofs.YtakgjcfkdemipaaGreatDoor
namespace Go.Proofs.YtakgjcfkdemipaaGreatDoor
theorem vc8 {t:List UInt8} (h:(aq t).1=0):1≤iz t:=by
 unfold iz
 rw[if_pos h]
 unfold Tr.level
 omega
end Go.Proofs.YtakgjcfkdemipaaGreatDoor
namespace Go.Proofs.YtakgjcfkdemipaaGreatDoor
open Go.RowKit
theorem vbc {α:Type} {f g:α→Nat}:∀{l:List α},(∀x∈l,f x=g x)→dV (l.map f)=dV (l.map g)
 | [],_=>rfl
 | x::l,h=>by
  rw[List.map_cons,List.map_cons,dV,dV,h x (List.mem_cons_self ..),vbc λy hy=>h y (List.mem_cons_of_mem _ hy)]
theorem vbb (c : aR) : ∀ (n m : Nat) (t : List UInt8), iz t < n → iz t < m → cV c n t = cV c m t
 | 0,_,_,h,_=>by omega
 | _+1,0,_,_,h=>by omega
 | n + 1, m + 1, t, hn, hm => by
  unfold cV
  by_cases h1:(aq t).1≠0
  · rw[if_pos h1,if_pos h1]
  · rw [if_neg h1, if_neg h1]
    have h0:(aq t).1=0:=by omega
    by_cases h2:eW t=true∧c.par=false
    · rw[if_pos h2,if_pos h2]
    · rw [if_neg h2, if_neg h2]
      refine vbc λu hu=>?_
      obtain⟨u1,u2,u3⟩:=(uo h0).2.2 u hu;unfold gH
      by_cases hk:(aq u).2.k=7
      · rw [if_pos hk, if_pos hk]
        obtain⟨_,_,_,_,a5,_⟩:=qX u1 hk;rcases hf:ez c.bK (dI u).1 with _|f
        · rfl
        · simp only
          by_cases ha:(bQ u).2.1=true
          · obtain⟨_,_,b3⟩:=a5 ha
            rw[vbb c n m (bQ u).1 (by omega) (by omega)]
          · have vcw:(bQ u).2.1=false:=by simpa using ha
            simp[vcw]
      · rw[if_neg hk,if_neg hk]
end Go.Proofs.YtakgjcfkdemipaaGreatDoor
