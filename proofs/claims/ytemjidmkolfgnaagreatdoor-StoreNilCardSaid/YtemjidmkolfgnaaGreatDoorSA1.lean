/-
  Lemmas for the statement: append on a slice of the call's own: where the result lies: in the same block, or in a new one. Conditions: bounds of lengths; the variable strings.asciiSpace.
-/
import Derived.Test.YtemjidmkolfgnaaGreatDoorSAn
import Derived.Test.YtemjidmkolfgnaaGreatDoorSA0
namespace Go.Proofs.YtemjidmkolfgnaaGreatDoor
section
open Go.RowKit Go.Maps
theorem lW {H:Type} {P:Program} {e:TypeId} (he:P.underlying e=some .bool) {v:Value} {z:DataW H×List MemPlace} (h:plainElem P e v=some z):∃a,v=.bool a∧z=(.lit (.bool a),[]):=by
 unfold plainElem at h
 rw[he] at h
 cases v<;>simp at h
 exact⟨_,rfl,h.symm⟩
theorem pJ (u z:DataW Unit) (k:Lit):∀(acc:List Lit) (m:DataW Unit),IsMap m→(∀x∈acc,WideAt.IsKeyLit x)→(acc.foldl (λm x=>m.put x u) m).atKey k z=if acc.any (λx=>x.sameKey k) then u else m.atKey k z
 | [],m,_,_=>by simp
 | x::acc,m,hm,h=>by
  have hx:=h x (by simp);rw[List.foldl_cons,pJ u z k acc _ (hm.put x u) (λy hy=>h y (by simp[hy])),List.any_cons]
  by_cases hk:x.sameKey k=true
  · have e:=WideAt.sameKey_eq hk
    subst e;rw[atKey_put_same hm hx];simp[hk]
  · have hne:k≠x:=λe=>hk (by rw[e];exact WideAt.sameKey_self hx)
    rw[atKey_put_other hne];simp[hk]
def keysOf (acc:List (List UInt8)):List Lit:=acc.map Lit.string
theorem yO (acc:List (List UInt8)):∀x∈keysOf acc,WideAt.IsKeyLit x:=by
 intro x hx
 simp[keysOf] at hx
 obtain⟨a,_,rfl⟩:=hx
 trivial
theorem yN (acc:List (List UInt8)) (k:List UInt8):(keysOf acc).any (λx=>x.sameKey (.string k))=acc.contains k:=by
 induction acc with
 | nil=>rfl
 | cons a acc ih=>
  have hs:(Lit.string a).sameKey (.string k)=(k==a):=by
   by_cases h:a=k
   · subst h;simp[Lit.sameKey]
   · rw[sameKey_ne (by simpa using h)];simp[Ne.symm h]
  rw[keysOf,List.map_cons,List.any_cons,←keysOf,ih,List.contains_cons,hs]
def bY (w:World) (b:Nat) (acc:List (List UInt8)):Prop:=
 w.ownsMap Tryz.prog 9 (plainElem (H:=Unit) Tryz.prog 4) b acc.length (setOf (.lit (.bool true)) (keysOf acc))
theorem bY.made (w:World):bY (w.alloc (.map #[] 0)) w.heap.size []:=World.ownsMap_made w _ _ _
theorem bY.kept {w w':World} {b:Nat} {acc:List (List UInt8)} {row:Option Nat} (h:bY w b acc) (hg:w.grownBy w' row) (hne:some b≠row):bY w' b acc:=World.ownsMap.kept h hg hne
theorem bY.lt {w:World} {b:Nat} {acc:List (List UInt8)} (h:bY w b acc):b<w.heap.size:=World.ownsMap.lt h
theorem bY.of_block {w w':World} {b:Nat} {acc:List (List UInt8)} (h:bY w b acc) (hb:w'.heap[b]? =w.heap[b]?):bY w' b acc:=by
 obtain⟨es,clock,h1,rest⟩:=h
 exact⟨es,clock,hb.trans h1,rest⟩
theorem Fi (w:World):(zeroValue 4).run Tryz.prog w=.ok (.bool false) w:=by kernel_rfl
theorem bY.look {w:World} {b:Nat} {acc:List (List UInt8)} (h:bY w b acc) {k:List UInt8} (hk:k.length≤maxLen):
 (Instr.lookup 42 (.map (some b)) (str k) false).run Tryz.prog w=.ok (.bool (hasB acc k)) w:=by
 obtain⟨v,ps,hrun,hv⟩:=World.ownsMap.lookup h (string_keyed Tryz.underlying9) Tryz.underlying42 (Fi w) (plainElem_bool Tryz.underlying4 false) (WideMaps.keyOf_string_mk (s:=⟨k.toArray⟩) Tryz.underlying9 (by simpa[ByteArray.size] using hk))
 obtain⟨a,rfl,hz⟩:=lW Tryz.underlying4 hv
 simp only[Prod.mk.injEq] at hz
 have h1:=hz.1
 simp only[setOf] at h1
 rw[pJ _ _ _ _ _ isMap_empty (yO acc),yN] at h1
 rw[hrun]
 unfold hasB
 cases hc:acc.contains k<;>(rw[hc] at h1;simp[DataW.atKey] at h1;rw[h1])
theorem kg (w:World) {ops:Array Oper} {rest:List Oper} {o:Oper} {a:Act} {Q:Exit→Act→World→Prop}
 (hg:o.guard=none) (m x v:Operand) (hop:o.op=Op.mapUpdate 42 m x v) (b:Nat) (acc:List (List UInt8))
 (hm:a.eval m=.map (some b)) (hown:bY w b acc) (hn:acc.length<maxLen) (k:List UInt8) (hx:a.eval x=str k) (hv:a.eval v=.bool true) (hk:k.length≤maxLen)
 (hK:∀w',bY w' b (acc++[k])→w.grownBy w' (some b)→wpList Tryz.prog ops Q rest (a.put o.dst undef) w'):
 wpList Tryz.prog ops Q (o::rest) a w:=by
 refine wpList_mapUpdate_own w hg m x v _ hop _ _ (string_keyed Tryz.underlying9) Tryz.underlying42 _ b acc.length _ hm hown hn _ _ _ hx hv (WideMaps.keyOf_string_mk (s:=⟨k.toArray⟩) Tryz.underlying9 (by simpa[ByteArray.size] using hk)) (.lit (.bool true)) [] (plainElem_bool Tryz.underlying4 true) ?_
 intro w' h1 h2
 refine hK w' ?_ h2
 unfold bY
 rw[show keysOf (acc++[k])=keysOf acc++[Lit.string k] from by simp[keysOf],setOf_snoc,List.length_append]
 exact h1
end
section
open Go.RowKit
section
variable {P:Program} (w:World)
theorem eG (base:Nat) (t ty e:TypeId) (i:TypeInfo) (z:Value) (size bytes:Nat) (ht:P.underlying t=some (.slice e)) (hi:P.info? e=some i) (hz:i.zero=some z)
 (hsize:i.size=size) (hby:i.bytes=bytes) (hzs:z.cells.size=size) (hsz:0<size)
 (v:Value) (n:Nat) (xs:List Value) (hown:w.ownsRow base e size v n xs)
 (a:Addr) (m c:Nat) (news:List Value) (hl:news.length=m * size) (hnews:∀j u,news[j]? =some u→w.cell? (a.add j)=some u) (h1:∀u∈news,u.oneCell'=true)
 (hm:0<m) (h63:n+m≤maxLen) (hbytes:(n+m) * bytes≤140737488355328) (hbase:base≤w.heap.size):
 ∃v' w',(Builtin.append_ #[t,t] ty #[v,.slice (some a) m c]).run P w=.ok v' w'∧w'.ownsRow base e size v' (n+m) (xs++news)∧w.grownBy w' v.ownBlock∧
  (v'.ownBlock=v.ownBlock∨v'.ownBlock=some w.heap.size):=by
 obtain⟨v',w',hr,h2,h3,_⟩:=run_append_own (P:=P) w base t ty e i z size bytes ht hi hz hsize hby hzs hsz v n xs hown a m c news hl hnews h1 h63 hbytes hbase
 refine⟨v',w',hr,h2,h3,?_⟩
 subst hsize
 subst hby
 have hsmall:n+m≤9223372036854775807:=by simp only[maxLen] at h63;omega
 rcases hown.2 with⟨rfl,rfl⟩|⟨g,cap,cur,rfl,Wj,hg,hnc,hcm,hcs,Ss⟩
 · have hr2:=run_append_nil (P:=P) w t ty e i z ht hi hz a m c news hl hnews (by omega) (by omega) (by have hb:=hbytes;simp only[Nat.zero_add] at hb;omega)
   rw[hr] at hr2;injection hr2 with hv _;rw[hv];exact .inr rfl
 · by_cases hroom:n+m≤cap
   · have hfit:n * i.size+news.length≤cur.size:=by rw[hl,hcs,←Nat.add_mul];exact Nat.mul_le_mul_right _ hroom
     have hr2:=run_append_room (P:=P) w t ty e i ht hi g n cap cur hg a m c news hl hnews h1 hroom hfit;rw[hr] at hr2;injection hr2 with hv _;rw[hv];exact .inl rfl
   · have holds:∀j u,xs[j]? =some u→w.cell? ((⟨g,0,none⟩:Addr).add j)=some u:=hown.cells (g:=g) rfl
     have hr2:=run_append_grow (P:=P) w t ty e i z ht hi hz ⟨g,0,none⟩ n cap xs hown.1 holds a m c news hl hnews (by omega) (by omega) (growslice_fits (by omega) hbytes);rw[hr] at hr2;injection hr2 with hv _;rw[hv];exact .inr rfl
theorem gK {ops:Array Oper} {rest:List Oper} {o:Oper} {a:Act} {Q:Exit→Act→World→Prop} (hgd:o.guard=none) (s x:Operand) (t:TypeId)
 (ho:o.op=.call {callee:=.builtin .append,args:= #[s,x],argTypes:= #[t,t] })
 (base:Nat) (e:TypeId) (i:TypeInfo) (z:Value) (size bytes:Nat) (ht:P.underlying t=some (.slice e)) (hi:P.info? e=some i) (hz:i.zero=some z)
 (hsize:i.size=size) (hby:i.bytes=bytes) (hzs:z.cells.size=size) (hsz:0<size)
 (v:Value) (n:Nat) (xs:List Value) (hs:a.eval s=v) (hown:w.ownsRow base e size v n xs)
 (ad:Addr) (m c:Nat) (news:List Value) (hx:a.eval x=.slice (some ad) m c) (hl:news.length=m * size) (hnews:∀j u,news[j]? =some u→w.cell? (ad.add j)=some u) (h1:∀u∈news,u.oneCell'=true)
 (hm:0<m) (h63:n+m≤maxLen) (hbytes:(n+m) * bytes≤140737488355328) (hbase:base≤w.heap.size)
 (h:∀v' w',w'.ownsRow base e size v' (n+m) (xs++news)→w.grownBy w' v.ownBlock→(v'.ownBlock=v.ownBlock∨v'.ownBlock=some w.heap.size)→wpList P ops Q rest (a.put o.dst v') w'):wpList P ops Q (o::rest) a w:=by
 refine wpList_plain hgd λK hK=>?_
 obtain⟨v',w',hr,h2,h3,h4⟩:=eG (P:=P) w base t o.type e i z size bytes ht hi hz hsize hby hzs hsz v n xs hown ad m c news hl hnews h1 hm h63 hbytes hbase
 unfold Oper.wp execOp
 simp only[ho,resolve,invoke,builtin,Sem.run_bind,Sem.run_pure,Result.andThen_ok,List.map_toArray,List.map_cons,List.map_nil,hs,hx,hr]
 exact hK _ _ (h v' w' h2 h3 h4)
end
end
section
structure fT where
 iter:Bool
 args:List (List UInt8)
 res:List UInt8
 sigs:List (List UInt8)
structure dw where
 name:List UInt8
 sig:fT
structure aZ where
 name:List UInt8
 kind:Nat
 par:Bool
 aB:List dw
 ops:List dw
def fT.zero:fT:=⟨false,[],[],[]⟩
def dH (s:fT):List (List UInt8):=s.args++if s.res=[] then [] else [s.res]
end
section
open Go.RowKit
theorem eX {α:Type} {l:List α} {k:Nat} {x:α} (h:l[k]? =some x):l.drop k=x::l.drop (k+1):=by
 obtain⟨hj,e⟩:=List.getElem?_eq_some_iff.1 h
 rw[List.drop_eq_getElem_cons hj,e]
def SS (D:Nat→Prop) (w:World) (v:Value) (ss:List (List UInt8)):Prop:=
 ∃p c,v=.slice p ss.length c∧ss.length≤c∧ss.length≤maxLen∧(∀s∈ss,s.length≤maxLen)∧(ss=[]∨∃b o,p=some ⟨b,o,none⟩∧D b∧b<w.heap.size∧∀j (h:j<ss.length),w.cell? ⟨b,o+j,none⟩=some (str ss[j]))
theorem SS.shape {D:Nat→Prop} {w:World} {v:Value} {ss:List (List UInt8)} (h:SS D w v ss):∃p c,v=.slice p ss.length c∧ss.length≤c∧ss.length≤maxLen∧∀s∈ss,s.length≤maxLen:=by
 obtain⟨p,c,h1,h2,h3,h4,_⟩:=h
 exact⟨p,c,h1,h2,h3,h4⟩
theorem SS.le {D:Nat→Prop} {w:World} {v:Value} {ss:List (List UInt8)} (h:SS D w v ss):∀s∈ss,s.length≤maxLen:=by
 obtain⟨p,c,_,_,_,h4,_⟩:=h
 exact h4
theorem SS.at {D:Nat→Prop} {w:World} {p:Option Addr} {n c:Nat} {ss:List (List UInt8)} (h:SS D w (.slice p n c) ss) {k:Nat} {x:List UInt8} (hk:ss[k]? =some x):∃b o,p=some ⟨b,o,none⟩∧D b∧w.cell? ⟨b,o+k,none⟩=some (str x):=by
 obtain⟨hj,e⟩:=List.getElem?_eq_some_iff.1 hk
 obtain⟨p',c',h1,_,_,_,h4⟩:=h
 injection h1 with h1
 subst h1
 rcases h4 with rfl|⟨b,o,e1,h5,_,h6⟩
 · simp at hj
 · exact⟨b,o,e1,h5,by rw[h6 k hj,e]⟩
theorem SS.below {D:Nat→Prop} {K:Nat} {w w':World} {v:Value} {ss:List (List UInt8)} (h:SS D w v ss) (hb:Below K w w') (hK:w.heap.size≤K):SS D w' v ss:=by
 obtain⟨p,c,h1,h2,h3,hl,h4⟩:=h
 refine⟨p,c,h1,h2,h3,hl,?_⟩
 rcases h4 with h4|⟨b,o,e1,h5,h6,h7⟩
 · exact .inl h4
 · exact .inr ⟨b,o,e1,h5,Nat.lt_of_lt_of_le h6 hb.size,λj hj=>by rw[hb.cell (by show b<K;omega)];exact h7 j hj⟩
theorem SS.mono {D D':Nat→Prop} {w:World} {v:Value} {ss:List (List UInt8)} (h:SS D w v ss) (hD:∀b,D b→D' b):SS D' w v ss:=by
 obtain⟨p,c,h1,h2,h3,hl,h4⟩:=h
 refine⟨p,c,h1,h2,h3,hl,?_⟩
 rcases h4 with h4|⟨b,o,e1,h5,h6,h7⟩
 · exact .inl h4
 · exact .inr ⟨b,o,e1,hD _ h5,h6,h7⟩
theorem SS.set {D:Nat→Prop} {w:World} {v:Value} {ss:List (List UInt8)} (h:SS D w v ss) {a:Addr} (ha:∀b,D b→b≠a.block) (u:Value):SS D (w.setCell a u) v ss:=by
 obtain⟨p,c,h1,h2,h3,hl,h4⟩:=h
 refine⟨p,c,h1,h2,h3,hl,?_⟩
 rcases h4 with h4|⟨b,o,e1,h5,h6,h7⟩
 · exact .inl h4
 · refine .inr ⟨b,o,e1,h5,by simpa[World.setCell] using h6,λj hj=>?_⟩
   rw[World.cell?_of_block (w:=w) (heap_setCell_other w a _ u (ha b h5))];exact h7 j hj
theorem wT {w w':World} {b:Nat} (h:w'.heap[b]? =w.heap[b]?) (hb:b<w.heap.size):b<w'.heap.size:=by
 rw[Array.getElem?_eq_getElem hb] at h
 exact(Array.getElem?_eq_some_iff.1 h).1
theorem SS.agree {D:Nat→Prop} {w w':World} {v:Value} {ss:List (List UInt8)} (h:SS D w v ss) (hk:∀b,D b→b<w.heap.size→w'.heap[b]? =w.heap[b]?):SS D w' v ss:=by
 obtain⟨p,c,h1,h2,h3,hl,h4⟩:=h
 refine⟨p,c,h1,h2,h3,hl,?_⟩
 rcases h4 with h4|⟨b,o,e1,h5,h6,h7⟩
 · exact .inl h4
 · refine .inr ⟨b,o,e1,h5,wT (hk b h5 h6) h6,λj hj=>?_⟩
   rw[World.cell?_of_block (w:=w) (a:=⟨b,o+j,none⟩) (hk b h5 h6)];exact h7 j hj
theorem SS.fresh {D:Nat→Prop} {w:World} {v:Value} {ss:List (List UInt8)} (h:SS D w v ss):SS (λb=>D b∧b<w.heap.size) w v ss:=by
 obtain⟨p,c,h1,h2,h3,hl,h4⟩:=h
 refine⟨p,c,h1,h2,h3,hl,?_⟩
 rcases h4 with h4|⟨b,o,e1,h5,h6,h7⟩
 · exact .inl h4
 · exact .inr ⟨b,o,e1,⟨h5,h6⟩,h6,h7⟩
theorem SS.nil (D:Nat→Prop) (w:World) (p:Option Addr) (c:Nat):SS D w (.slice p 0 c) []:=⟨p,c,rfl,Nat.zero_le _,Nat.zero_le _,(λ_ h=>by cases h),.inl rfl⟩
theorem SS.new (D:Nat→Prop) (w:World) (hB:D w.heap.size) (ss:List (List UInt8)) (t:TypeId) (z:Nat×Nat) (h:ss.length≤maxLen) (hl:∀s∈ss,s.length≤maxLen):SS D (w.alloc (.cells (aA ss).toArray t z)) (.slice (some ⟨w.heap.size,0,none⟩) ss.length ss.length) ss:=by
 refine⟨_,_,rfl,nl _,h,hl,.inr ⟨w.heap.size,0,rfl,hB,by simp,λj hj=>?_⟩⟩
 have hh:=heap_alloc_new w (.cells (aA ss).toArray t z)
 rw[Nat.zero_add]
 refine(af hh j).trans ?_
 simp[aA,hj]
theorem SS.eZ {w:World} {base:Nat} {e:TypeId} {v:Value} {ss:List (List UInt8)} (h:w.ownsRow base e 1 v ss.length (aA ss)) (hl:∀s∈ss,s.length≤maxLen) {D:Nat→Prop} (hD:∀b,v.ownBlock=some b→D b):SS D w v ss:=by
 have hlt:=λb e=>aW h (b:=b) e
 rcases h.2 with⟨rfl,h0⟩|⟨g,cap,cur,rfl,hg,hh,h1,h2,h3,h4⟩
 · have e0:ss=[]:=List.length_eq_zero_iff.1 (by omega)
   subst e0;exact SS.nil _ _ _ _
 · refine⟨_,_,rfl,by omega,by omega,hl,.inr ⟨g,0,rfl,hD g rfl,hlt g rfl,λj hj=>?_⟩⟩
   have:=h.cells (g:=g) rfl j _ (nT ss j hj)
   rwa [show(⟨g,0,none⟩:Addr).add j=⟨g,0+j,none⟩ from by unfold Addr.add;simp;omega] at this
def iX (D:Nat→Prop) (w:World) (v:Value) (x:fT):Prop:=
 ∃a s,v=.agg #[.bool x.iter,a,str x.res,s]∧x.res.length≤maxLen∧SS D w a x.args∧SS D w s x.sigs
theorem iX.below {D:Nat→Prop} {K:Nat} {w w':World} {v:Value} {x:fT} (h:iX D w v x) (hb:Below K w w') (hK:w.heap.size≤K):iX D w' v x:=by
 obtain⟨a,s,h1,h4,h2,h3⟩:=h
 exact⟨a,s,h1,h4,h2.below hb hK,h3.below hb hK⟩
theorem iX.mono {D D':Nat→Prop} {w:World} {v:Value} {x:fT} (h:iX D w v x) (hD:∀b,D b→D' b):iX D' w v x:=by
 obtain⟨a,s,h1,h4,h2,h3⟩:=h
 exact⟨a,s,h1,h4,h2.mono hD,h3.mono hD⟩
theorem iX.zero (D:Nat→Prop) (w:World):iX D w (.agg #[.bool false,.slice none 0 0,str [],.slice none 0 0]) .zero:=⟨_,_,rfl,Nat.zero_le _,SS.nil _ _ _ _,SS.nil _ _ _ _⟩
def AN (x:dw):Prop:=x.name.length≤maxLen∧x.sig.res.length≤maxLen
def dM (D:Nat→Prop) (w:World) (v:Value) (l:List dw):Prop:=
 ∃p c,v=.slice p l.length c∧l.length≤c∧l.length≤maxLen∧(∀x∈l,AN x)∧(l=[]∨∃b o,p=some ⟨b,o,none⟩∧D b∧b<w.heap.size∧∀j (h:j<l.length),∃a s,SS D w a l[j].sig.args∧SS D w s l[j].sig.sigs∧
  w.cell? ⟨b,o+j * 5,none⟩=some (str l[j].name)∧w.cell? ⟨b,o+j * 5+1,none⟩=some (.bool l[j].sig.iter)∧w.cell? ⟨b,o+j * 5+2,none⟩=some a∧w.cell? ⟨b,o+j * 5+3,none⟩=some (str l[j].sig.res)∧w.cell? ⟨b,o+j * 5+4,none⟩=some s)
theorem dM.shape {D:Nat→Prop} {w:World} {v:Value} {l:List dw} (h:dM D w v l):∃p c,v=.slice p l.length c∧l.length≤c∧l.length≤maxLen∧∀x∈l,AN x:=by
 obtain⟨p,c,h1,h2,h3,h4,_⟩:=h
 exact⟨p,c,h1,h2,h3,h4⟩
theorem dM.at {D:Nat→Prop} {w:World} {p:Option Addr} {n c:Nat} {l:List dw} (h:dM D w (.slice p n c) l) {k:Nat} {x:dw} (hk:l[k]? =some x):∃b o a s,p=some ⟨b,o,none⟩∧D b∧AN x∧SS D w a x.sig.args∧SS D w s x.sig.sigs∧
 w.cell? ⟨b,o+k * 5,none⟩=some (str x.name)∧w.cell? ⟨b,o+k * 5+1,none⟩=some (.bool x.sig.iter)∧w.cell? ⟨b,o+k * 5+2,none⟩=some a∧w.cell? ⟨b,o+k * 5+3,none⟩=some (str x.sig.res)∧w.cell? ⟨b,o+k * 5+4,none⟩=some s:=by
 obtain⟨hj,e⟩:=List.getElem?_eq_some_iff.1 hk
 obtain⟨p',c',h1,_,_,hl,h4⟩:=h
 have hx:=hl x (List.mem_of_getElem? hk)
 injection h1 with h1
 subst h1
 rcases h4 with rfl|⟨b,o,e1,h5,_,h6⟩
 · simp at hj
 · obtain⟨a,s,h7,h8,h9⟩:=h6 k hj
   rw[e] at h7 h8 h9;exact⟨b,o,a,s,e1,h5,hx,h7,h8,h9⟩
theorem dM.below {D:Nat→Prop} {K:Nat} {w w':World} {v:Value} {l:List dw} (h:dM D w v l) (hb:Below K w w') (hK:w.heap.size≤K):dM D w' v l:=by
 obtain⟨p,c,h1,h2,h3,hl,h4⟩:=h
 refine⟨p,c,h1,h2,h3,hl,?_⟩
 rcases h4 with h4|⟨b,o,e1,h5,h6,h7⟩
 · exact .inl h4
 · refine .inr ⟨b,o,e1,h5,Nat.lt_of_lt_of_le h6 hb.size,λj hj=>?_⟩
   obtain⟨a,s,k1,k2,k3⟩:=h7 j hj;have hc:∀i,w'.cell? ⟨b,i,none⟩=w.cell? ⟨b,i,none⟩:=λi=>hb.cell (by show b<K;omega)
   exact⟨a,s,k1.below hb hK,k2.below hb hK,by rw[hc,hc,hc,hc,hc];exact k3⟩
theorem dM.mono {D D':Nat→Prop} {w:World} {v:Value} {l:List dw} (h:dM D w v l) (hD:∀b,D b→D' b):dM D' w v l:=by
 obtain⟨p,c,h1,h2,h3,hl,h4⟩:=h
 refine⟨p,c,h1,h2,h3,hl,?_⟩
 rcases h4 with h4|⟨b,o,e1,h5,h6,h7⟩
 · exact .inl h4
 · refine .inr ⟨b,o,e1,hD _ h5,h6,λj hj=>?_⟩
   obtain⟨a,s,k1,k2,k3⟩:=h7 j hj;exact⟨a,s,k1.mono hD,k2.mono hD,k3⟩
theorem dM.nil (D:Nat→Prop) (w:World) (p:Option Addr) (c:Nat):dM D w (.slice p 0 c) []:=⟨p,c,rfl,Nat.zero_le _,Nat.zero_le _,(λ_ h=>by cases h),.inl rfl⟩
def bN (D:Nat→Prop) (w:World):List Value→List dw→Prop
 | cs,[]=>cs=[]
 | cs,x::l=>∃a s r,cs=str x.name::.bool x.sig.iter::a::str x.sig.res::s::r∧AN x∧SS D w a x.sig.args∧SS D w s x.sig.sigs∧bN D w r l
theorem bN.below {D:Nat→Prop} {K:Nat} {w w':World} (hb:Below K w w') (hK:w.heap.size≤K):∀{l:List dw} {cs:List Value},bN D w cs l→bN D w' cs l
 | [],_,h=>h
 | _::_,_,⟨a,s,r,h1,h0,h2,h3,h4⟩=>⟨a,s,r,h1,h0,h2.below hb hK,h3.below hb hK,bN.below hb hK h4⟩
theorem bN.le {D:Nat→Prop} {w:World}:∀{l:List dw} {cs:List Value},bN D w cs l→∀x∈l,AN x
 | [],_,_=>λx h=>by cases h
 | y::l,_,⟨_,_,_,_,h0,_,_,h4⟩=>λx h=>by
  rcases List.mem_cons.1 h with rfl|h
  · exact h0
  · exact bN.le h4 x h
theorem bN.Io {D D':Nat→Prop} {w:World} (hD:∀b,D b→D' b):∀{l:List dw} {cs:List Value},bN D w cs l→bN D' w cs l
 | [],_,h=>h
 | _::_,_,⟨a,s,r,h1,h0,h2,h3,h4⟩=>⟨a,s,r,h1,h0,h2.mono hD,h3.mono hD,bN.Io hD h4⟩
theorem bN.mono {D D':Nat→Prop} {w:World} {l:List dw} {cs:List Value} (h:bN D w cs l) (hD:∀b,D b→D' b):bN D' w cs l:=bN.Io hD h
theorem bN.get {D:Nat→Prop} {w:World}:∀{l:List dw} {cs:List Value},bN D w cs l→∀j (h:j<l.length),∃a s,SS D w a l[j].sig.args∧SS D w s l[j].sig.sigs∧
 cs[j * 5]? =some (str l[j].name)∧cs[j * 5+1]? =some (.bool l[j].sig.iter)∧cs[j * 5+2]? =some a∧cs[j * 5+3]? =some (str l[j].sig.res)∧cs[j * 5+4]? =some s
 | [],_,_=>λj h=>by simp at h
 | x::l,_,⟨a,s,r,h1,_,h2,h3,h4⟩=>λj h=>by
  subst h1;cases j with
  | zero=>exact⟨a,s,h2,h3,rfl,rfl,rfl,rfl,rfl⟩
  | succ j=>
   have hj:j<l.length:=by simpa using h
   obtain⟨a',s',k1,k2,k3,k4,k5,k6,k7⟩:=bN.get h4 j hj;have e:(j+1) * 5=j * 5+1+1+1+1+1:=by omega
   refine⟨a',s',k1,k2,?_⟩;rw[e];exact⟨by simpa using k3,by simpa using k4,by simpa using k5,by simpa using k6,by simpa using k7⟩
theorem bN.append {D:Nat→Prop} {w:World} {k:List dw} {ds:List Value} (hk:bN D w ds k):∀{l:List dw} {cs:List Value},bN D w cs l→bN D w (cs++ds) (l++k)
 | [],_,h=>by rw[show _=_ from h];exact hk
 | _::_,_,⟨a',s',r,h1,k0,k2,k3,k4⟩=>by subst h1;exact⟨a',s',_,rfl,k0,k2,k3,bN.append hk k4⟩
theorem dM.eZ {w:World} {base:Nat} {e:TypeId} {v:Value} {l:List dw} {cs:List Value} (h:w.ownsRow base e 5 v l.length cs) {D:Nat→Prop} (hD:∀b,v.ownBlock=some b→D b) (hc:bN D w cs l):dM D w v l:=by
 have hlt:=λb e=>aW h (b:=b) e
 rcases h.2 with⟨rfl,h0⟩|⟨g,cap,cur,rfl,hg,hh,h1,h2,h3,h4⟩
 · have e0:l=[]:=List.length_eq_zero_iff.1 (by omega)
   subst e0;exact dM.nil _ _ _ _
 · refine⟨_,_,rfl,by omega,by omega,hc.le,.inr ⟨g,0,rfl,hD g rfl,hlt g rfl,λj hj=>?_⟩⟩
   obtain⟨a,s,k1,k2,k3,k4,k5,k6,k7⟩:=hc.get j hj;have hcell:∀i u,cs[i]? =some u→w.cell? ⟨g,0+i,none⟩=some u:=λi u hu=>by
    have:=h.cells (g:=g) rfl i u hu
    rwa [show(⟨g,0,none⟩:Addr).add i=⟨g,0+i,none⟩ from by unfold Addr.add;simp;omega] at this
   exact⟨a,s,k1,k2,hcell _ _ k3,hcell _ _ k4,hcell _ _ k5,hcell _ _ k6,hcell _ _ k7⟩
def kQ (D:Nat→Prop) (w:World) (v:Value) (f:aZ):Prop:=
 ∃n o,v=.agg #[str f.name,.int .u8 f.kind,.bool f.par,n,o]∧f.name.length≤maxLen∧dM D w n f.aB∧dM D w o f.ops
theorem kQ.mono {D D':Nat→Prop} {w:World} {v:Value} {f:aZ} (h:kQ D w v f) (hD:∀b,D b→D' b):kQ D' w v f:=by
 obtain⟨n,o,h1,h0,h2,h3⟩:=h
 exact⟨n,o,h1,h0,h2.mono hD,h3.mono hD⟩
def jF (D:Nat→Prop) (w:World) (v:Value) (l:List aZ):Prop:=
 ∃p c,v=.slice p l.length c∧l.length≤c∧l.length≤maxLen∧(∀f∈l,f.name.length≤maxLen)∧(l=[]∨∃b o,p=some ⟨b,o,none⟩∧D b∧b<w.heap.size∧∀j (h:j<l.length),∃n q,dM D w n l[j].aB∧dM D w q l[j].ops∧
  w.cell? ⟨b,o+j * 5,none⟩=some (str l[j].name)∧w.cell? ⟨b,o+j * 5+1,none⟩=some (.int .u8 l[j].kind)∧w.cell? ⟨b,o+j * 5+2,none⟩=some (.bool l[j].par)∧w.cell? ⟨b,o+j * 5+3,none⟩=some n∧w.cell? ⟨b,o+j * 5+4,none⟩=some q)
theorem jF.at {D:Nat→Prop} {w:World} {p:Option Addr} {n c:Nat} {l:List aZ} (h:jF D w (.slice p n c) l) {k:Nat} {x:aZ} (hk:l[k]? =some x):∃b o nv ov,p=some ⟨b,o,none⟩∧D b∧x.name.length≤maxLen∧dM D w nv x.aB∧dM D w ov x.ops∧
 w.cell? ⟨b,o+k * 5,none⟩=some (str x.name)∧w.cell? ⟨b,o+k * 5+1,none⟩=some (.int .u8 x.kind)∧w.cell? ⟨b,o+k * 5+2,none⟩=some (.bool x.par)∧w.cell? ⟨b,o+k * 5+3,none⟩=some nv∧w.cell? ⟨b,o+k * 5+4,none⟩=some ov:=by
 obtain⟨hj,e⟩:=List.getElem?_eq_some_iff.1 hk
 obtain⟨p',c',h1,_,_,hl,h4⟩:=h
 have hx:=hl x (List.mem_of_getElem? hk)
 injection h1 with h1
 subst h1
 rcases h4 with rfl|⟨b,o,e1,h5,_,h6⟩
 · simp at hj
 · obtain⟨a,s,h7,h8,h9⟩:=h6 k hj
   rw[e] at h7 h8 h9;exact⟨b,o,a,s,e1,h5,hx,h7,h8,h9⟩
theorem jF.below {D:Nat→Prop} {K:Nat} {w w':World} {v:Value} {l:List aZ} (h:jF D w v l) (hb:Below K w w') (hK:w.heap.size≤K):jF D w' v l:=by
 obtain⟨p,c,h1,h2,h3,hl,h4⟩:=h
 refine⟨p,c,h1,h2,h3,hl,?_⟩
 rcases h4 with h4|⟨b,o,e1,h5,h6,h7⟩
 · exact .inl h4
 · refine .inr ⟨b,o,e1,h5,Nat.lt_of_lt_of_le h6 hb.size,λj hj=>?_⟩
   obtain⟨a,s,k1,k2,k3⟩:=h7 j hj;have hc:∀i,w'.cell? ⟨b,i,none⟩=w.cell? ⟨b,i,none⟩:=λi=>hb.cell (by show b<K;omega)
   exact⟨a,s,k1.below hb hK,k2.below hb hK,by rw[hc,hc,hc,hc,hc];exact k3⟩
end
section
open Go Go.RowKit
def CV (D:Nat→Prop) (w:World) (v:Value) (cs:List Value):Prop:=
 ∃p c,v=.slice p cs.length c∧cs.length≤c∧cs.length≤maxLen∧(cs=[]∨∃b o,p=some ⟨b,o,none⟩∧D b∧b<w.heap.size∧∀j u,cs[j]? =some u→w.cell? ⟨b,o+j,none⟩=some u)
theorem CV.shape {D:Nat→Prop} {w:World} {v:Value} {cs:List Value} (h:CV D w v cs):∃p c,v=.slice p cs.length c∧cs.length≤c∧cs.length≤maxLen:=by
 obtain⟨p,c,h1,h2,h3,_⟩:=h
 exact⟨p,c,h1,h2,h3⟩
theorem CV.at {D:Nat→Prop} {w:World} {p:Option Addr} {n c:Nat} {cs:List Value} (h:CV D w (.slice p n c) cs) {k:Nat} {x:Value} (hk:cs[k]? =some x):∃b o,p=some ⟨b,o,none⟩∧D b∧w.cell? ⟨b,o+k,none⟩=some x:=by
 obtain⟨hj,_⟩:=List.getElem?_eq_some_iff.1 hk
 obtain⟨p',c',h1,_,_,h4⟩:=h
 injection h1 with h1
 subst h1
 rcases h4 with rfl|⟨b,o,e1,h5,_,h6⟩
 · simp at hj
 · exact⟨b,o,e1,h5,h6 k x hk⟩
theorem CV.agree {D:Nat→Prop} {w w':World} {v:Value} {cs:List Value} (h:CV D w v cs) (hk:∀b,D b→b<w.heap.size→w'.heap[b]? =w.heap[b]?):CV D w' v cs:=by
 obtain⟨p,c,h1,h2,h3,h4⟩:=h
 refine⟨p,c,h1,h2,h3,?_⟩
 rcases h4 with h4|⟨b,o,e1,h5,h6,h7⟩
 · exact .inl h4
 · refine .inr ⟨b,o,e1,h5,?_,λj u hj=>?_⟩
   · have:=hk b h5 h6
     rw[Array.getElem?_eq_getElem h6] at this;exact(Array.getElem?_eq_some_iff.1 this).1
   · rw[World.cell?_of_block (w:=w) (a:=⟨b,o+j,none⟩) (hk b h5 h6)]
     exact h7 j u hj
theorem CV.below {D:Nat→Prop} {K:Nat} {w w':World} {v:Value} {cs:List Value} (h:CV D w v cs) (hb:Below K w w') (hK:w.heap.size≤K):CV D w' v cs:=h.agree λb _ hl=>hb.block b (by omega)
theorem CV.mono {D D':Nat→Prop} {w:World} {v:Value} {cs:List Value} (h:CV D w v cs) (hD:∀b,D b→D' b):CV D' w v cs:=by
 obtain⟨p,c,h1,h2,h3,h4⟩:=h
 refine⟨p,c,h1,h2,h3,?_⟩
 rcases h4 with h4|⟨b,o,e1,h5,h6,h7⟩
 · exact .inl h4
 · exact .inr ⟨b,o,e1,hD _ h5,h6,h7⟩
theorem CV.set {D:Nat→Prop} {w:World} {v:Value} {cs:List Value} (h:CV D w v cs) {a:Addr} (ha:∀b,D b→b≠a.block) (u:Value):CV D (w.setCell a u) v cs:=h.agree λb hb _=>heap_setCell_other w a b u (ha b hb)
theorem CV.nil (D:Nat→Prop) (w:World) (p:Option Addr) (c:Nat):CV D w (.slice p 0 c) []:=⟨p,c,rfl,Nat.zero_le _,Nat.zero_le _,.inl rfl⟩
theorem CV.new {D:Nat→Prop} {n:Nat} {w:World} (hn:w.heap.size=n) (hB:D n) (cs:List Value) (t:TypeId) (z:Nat×Nat) (h:cs.length≤maxLen):CV D (w.alloc (.cells cs.toArray t z)) (.slice (some ⟨n,0,none⟩) cs.length cs.length) cs:=by
 subst hn
 refine⟨_,_,rfl,nl _,h,.inr ⟨w.heap.size,0,rfl,hB,by simp,λj u hj=>?_⟩⟩
 have hh:=heap_alloc_new w (.cells cs.toArray t z)
 rw[Nat.zero_add]
 refine(af hh j).trans ?_
 simpa using hj
theorem CV.eZ {w:World} {base:Nat} {e:TypeId} {v:Value} {cs:List Value} (h:w.ownsRow base e 1 v cs.length cs) {D:Nat→Prop} (hD:∀b,v.ownBlock=some b→D b):CV D w v cs:=by
 have hlt:=λb e=>aW h (b:=b) e
 rcases h.2 with⟨rfl,h0⟩|⟨g,cap,cur,rfl,hg,hh,h1,h2,h3,h4⟩
 · have e0:cs=[]:=List.length_eq_zero_iff.1 (by omega)
   subst e0;exact CV.nil _ _ _ _
 · refine⟨_,_,rfl,by omega,by omega,.inr ⟨g,0,rfl,hD g rfl,hlt g rfl,λj u hj=>?_⟩⟩
   have:=h.cells (g:=g) rfl j _ hj
   rwa [show(⟨g,0,none⟩:Addr).add j=⟨g,0+j,none⟩ from by unfold Addr.add;simp;omega] at this
def aH (l:List UInt8):List Value:=l.map λb=>.int .u8 (b.toNat:Int)
theorem ak (l:List UInt8):(aH l).length=l.length:=List.length_map _
theorem jo (l:List UInt8) (j:Nat):(aH l)[j]? =(l[j]?).map λb=>.int .u8 (b.toNat:Int):=List.getElem?_map
theorem zL (a b:List UInt8):aH (a++b)=aH a++aH b:=List.map_append
def bF (k:IntKind) (cs:List Value):Prop:=∀u∈cs,∃x,u=.int k x
theorem bF.get {k:IntKind} {cs:List Value} (h:bF k cs) {j:Nat} (hj:j<cs.length):∃x,cs[j]? =some (.int k x):=by
 obtain⟨x,hx⟩:=h cs[j] (List.getElem_mem hj)
 exact⟨x,by rw[List.getElem?_eq_getElem hj,hx]⟩
theorem bF.set {k:IntKind} {cs:List Value} (h:bF k cs) (j:Nat) (x:Int):bF k (cs.set j (.int k x)):=λu hu=>by
 rcases List.mem_or_eq_of_mem_set hu with hu|rfl
 · exact h u hu
 · exact⟨x,rfl⟩
theorem bF.append {k:IntKind} {a b:List Value} (ha:bF k a) (hb:bF k b):bF k (a++b):=λu hu=>by
 rcases List.mem_append.1 hu with h|h
 · exact ha u h
 · exact hb u h
theorem bF.u8 (l:List UInt8):bF .u8 (aH l):=λu hu=>by
 obtain⟨b,_,rfl⟩:=List.mem_map.1 hu
 exact⟨_,rfl⟩
end
def bC (p:List UInt8):List UInt8→List UInt8×List UInt8×Bool
 | []=>([],[],p.isEmpty)
 | c::s=>if p.isPrefixOf (c::s) then([],(c::s).drop p.length,true) else(c::(bC p s).1,(bC p s).2.1,(bC p s).2.2)
theorem nj {p:List UInt8} {c:UInt8} {s:List UInt8} (h:p.isPrefixOf (c::s)=false):bC p (c::s)=(c::(bC p s).1,(bC p s).2.1,(bC p s).2.2):=by
 rw[bC,if_neg (by rw[h];simp)]
theorem ER {c d:UInt8} {p s:List UInt8} (h:d≠c):(d::p).isPrefixOf (c::s)=false:=by
 rw[List.isPrefixOf]
 simp[h]
theorem r7 {d:UInt8} {p:List UInt8}:∀(a s:List UInt8),d∉a→bC (d::p) (a++s)=(a++(bC (d::p) s).1,(bC (d::p) s).2.1,(bC (d::p) s).2.2)
 | [],s,_=>rfl
 | c::a,s,h=>by
  rw[List.cons_append,nj (ER λe=>h (by simp[e])),r7 a s λe=>h (by simp[e])]
  rfl
theorem vB {p:List UInt8} (s:List UInt8) (h:p≠[]):bC p (p++s)=([],s,true):=by
 cases p with
 | nil=>exact absurd rfl h
 | cons d p=>
  have:(d::p).isPrefixOf (d::p++s)=true:=by rw[List.isPrefixOf_iff_prefix];exact List.prefix_append _ _
  rw[List.cons_append] at this ⊢;rw[bC,if_pos this];simp
theorem FN {d:UInt8} {p:List UInt8} (a s:List UInt8) (h:d∉a):bC (d::p) (a++(d::p++s))=(a,s,true):=by
 rw[r7 a _ h,vB s (by simp)]
 simp
def jK (c:UInt8):List (List UInt8)→List (List UInt8)
 | []=>[[c]]
 | l::r=>(c::l)::r
def rq (a:List UInt8):List (List UInt8)→List (List UInt8)
 | []=>[a]
 | l::r=>(a++l)::r
def aN (c:UInt8):List UInt8→List (List UInt8)
 | []=>[[]]
 | x::s=>if x=c then []::aN c s else jK x (aN c s)
theorem j5 {c:UInt8}:∀(a s:List UInt8),c∉a→aN c (a++s)=rq a (aN c s)
 | [], s, _ => by
  show aN c s=_
  have:aN c s≠[]:=by
   cases s with
   | nil=>simp[aN]
   | cons x s=>
    rw[aN];split
    · simp
    · cases aN c s<;>simp[jK]
  cases h:aN c s with
  | nil=>exact absurd h this
  | cons l r=>rfl
 | x::a,s,h=>by
  rw[List.cons_append,aN,if_neg (λe=>h (by simp[e])),j5 a s λe=>h (by simp[e])];cases aN c s<;>rfl
def cR (d:Int):List UInt8→List (List UInt8)
 | []=>[[]]
 | c::s=>if c=44∧d=0 then []::cR d s else jK c (cR (if c=91 then d+1 else if c=93 then d - 1 else d) s)
def iA (s:List UInt8):List (List UInt8):=if s=[] then [] else cR 0 s
def Oe (k:Int) (t:List UInt8):Prop:=∀(d:Int) (s:List UInt8),k≤d→cR d (t++s)=rq t (cR d s)
theorem s8 (d:Int) (s:List UInt8):cR d s≠[]:=by
 cases s with
 | nil=>simp[cR]
 | cons c s=>
  rw[cR];split
  · simp
  · cases cR (if c=91 then d+1 else if c=93 then d - 1 else d) s<;>simp[jK]
theorem Da {l:List (List UInt8)} (h:l≠[]):rq [] l=l:=by
 cases l with
 | nil=>exact absurd rfl h
 | cons a r=>rfl
theorem Oe.mono {k k':Int} {a:List UInt8} (h:Oe k a) (hk:k≤k'):Oe k' a:=λd s hd=>h d s (by omega)
theorem lI {p:List UInt8}:∀(s:List UInt8) (i:Nat),i≤s.length→(∀j,j<i→p.isPrefixOf (s.drop j)=false)→bC p s=(s.take i++(bC p (s.drop i)).1,(bC p (s.drop i)).2.1,(bC p (s.drop i)).2.2)
 | s,0,_,_=>by simp
 | [],i+1,h,_=>by simp at h
 | c::s,i+1,h,hj=>by
  have h0:=hj 0 (by omega);rw[List.drop_zero] at h0;rw[nj h0,lI s i (by simpa using h) λj hji=>by simpa using hj (j+1) (by omega)];simp
theorem pO {p:List UInt8}:∀(s:List UInt8),s.length<p.length→bC p s=(s,[],false)
 | [],h=>by
  cases p with
  | nil=>simp at h
  | cons d p=>rfl
 | c::s,h=>by
  have:p.isPrefixOf (c::s)=false:=by
   rw[Bool.eq_false_iff];intro e;rw[List.isPrefixOf_iff_prefix] at e;have:=e.length_le;omega
  rw[nj this,pO s (by simp at h;omega)]
theorem AY {p s:List UInt8} (hp:p≠[]) (h:p.isPrefixOf s=true):bC p s=([],s.drop p.length,true):=by
 rw[List.isPrefixOf_iff_prefix] at h
 obtain⟨t,rfl⟩:=h
 rw[vB t hp]
 simp
theorem Dl {p s:List UInt8} {i:Nat} (hp:p≠[]) (hi:i≤s.length) (h:∀j,j<i→p.isPrefixOf (s.drop j)=false) (hit:p.isPrefixOf (s.drop i)=true):bC p s=(s.take i,s.drop (i+p.length),true):=by
 rw[lI s i hi h,AY hp hit]
 simp
theorem Dm {p s:List UInt8} {i:Nat} (hi:i≤s.length) (hl:s.length<i+p.length) (h:∀j,j<i→p.isPrefixOf (s.drop j)=false):bC p s=(s,[],false):=by
 rw[lI s i hi h,pO _ (by rw[List.length_drop];omega)]
 simp
theorem fJ {p:List UInt8}:∀s:List UInt8,(bC p s).1.length≤s.length∧(bC p s).2.1.length≤s.length
 | []=>by simp[bC]
 | c::s=>by
  have:=fJ (p:=p) s;rw[bC];split
  · simp
  · simp;omega
end Go.Proofs.YtemjidmkolfgnaaGreatDoor
