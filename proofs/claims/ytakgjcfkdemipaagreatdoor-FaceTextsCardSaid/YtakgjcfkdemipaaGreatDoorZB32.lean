/-
  Lemmas for the statement: a row of faces made anew. Conditions: bounds of lengths; the variable strings.asciiSpace.
-/
import Derived.Test.YtakgjcfkdemipaaGreatDoorZBn
import Derived.Test.YtakgjcfkdemipaaGreatDoorZB23
import Derived.Test.YtakgjcfkdemipaaGreatDoorZB31
set_option maxHeartbeats 12800000
namespace Go.Proofs.YtakgjcfkdemipaaGreatDoor
section
open Go.RowKit
def jX (D:Nat→Prop) (w:World):List Value→List aA→Prop
 | cs,[]=>cs=[]
 | cs,x::l=>∃n o r,cs=str x.name::.int .u8 x.kind::.bool x.par::n::o::r∧x.name.length≤maxLen∧aY D w n x.ag∧aY D w o x.ops∧jX D w r l
theorem jX.le {D:Nat→Prop} {w:World}:∀{l:List aA} {cs:List Value},jX D w cs l→∀x∈l,x.name.length≤maxLen
 | [],_,_=>λx h=>by cases h
 | y::l,_,⟨_,_,_,_,h0,_,_,h4⟩=>λx h=>by
  rcases List.mem_cons.1 h with rfl|h
  · exact h0
  · exact jX.le h4 x h
theorem jX.get {D:Nat→Prop} {w:World}:∀{l:List aA} {cs:List Value},jX D w cs l→∀j (h:j<l.length),∃a s,aY D w a l[j].ag∧aY D w s l[j].ops∧
 cs[j * 5]? =some (str l[j].name)∧cs[j * 5+1]? =some (.int .u8 l[j].kind)∧cs[j * 5+2]? =some (.bool l[j].par)∧cs[j * 5+3]? =some a∧cs[j * 5+4]? =some s
 | [],_,_=>λj h=>by simp at h
 | x::l,_,⟨a,s,r,h1,_,h2,h3,h4⟩=>λj h=>by
  subst h1;cases j with
  | zero=>exact⟨a,s,h2,h3,rfl,rfl,rfl,rfl,rfl⟩
  | succ j=>
   have hj:j<l.length:=by simpa using h
   obtain⟨a',s',k1,k2,k3,k4,k5,k6,k7⟩:=jX.get h4 j hj;have e:(j+1) * 5=j * 5+1+1+1+1+1:=by omega
   refine⟨a',s',k1,k2,?_⟩;rw[e];exact⟨by simpa using k3,by simpa using k4,by simpa using k5,by simpa using k6,by simpa using k7⟩
theorem bG.new {D:Nat→Prop} (w:World) (hB:D w.heap.size) {l:List aA} {cs:List Value} (t:TypeId) (z:Nat×Nat) (hm:l.length≤maxLen) (hc:jX D w cs l):bG D (w.alloc (.cells cs.toArray t z)) (.slice (some ⟨w.heap.size,0,none⟩) l.length l.length) l:=by
 have hb:=(zb w).alloc zr (.cells cs.toArray t z)
 refine⟨_,_,rfl,nl _,hm,hc.le,.inr ⟨w.heap.size,0,rfl,hB,by simp,λj hj=>?_⟩⟩
 obtain⟨a,s,k1,k2,k3,k4,k5,k6,k7⟩:=hc.get j hj
 have hh:=heap_alloc_new w (.cells cs.toArray t z)
 have hcell:∀i u,cs[i]? =some u→(w.alloc (.cells cs.toArray t z)).cell? ⟨w.heap.size,0+i,none⟩=some u:=λi u hu=>by
  rw[Nat.zero_add];refine(ak hh i).trans ?_
  simpa using hu
 exact⟨a,s,k1.below hb zr,k2.below hb zr,hcell _ _ k3,hcell _ _ k4,hcell _ _ k5,hcell _ _ k6,hcell _ _ k7⟩
theorem Bu {D:Nat→Prop} (w:World) (n:Nat) (hn:n=w.heap.size) (hD:D n) (ss:List (List UInt8)) (hl:ss.length≤maxLen) (hs:∀s∈ss,s.length≤maxLen) (t:TypeId):SS D (w.alloc (.cells (ss.map str).toArray t)) (.slice (some ⟨n,0,none⟩) ss.length ss.length) ss:=by
 subst hn
 exact SS.new D w hD ss t (0,0) hl hs
theorem vz {D:Nat→Prop} (w:World) (n:Nat) (hn:n=w.heap.size) (hD:D n) {l:List aL} {cs:List Value} (t:TypeId) (hm:l.length≤maxLen) (hc:bl D w cs l):aY D (w.alloc (.cells cs.toArray t)) (.slice (some ⟨n,0,none⟩) l.length l.length) l:=by
 subst hn
 exact aY.new w hD t (0,0) hm hc
theorem wO {D:Nat→Prop} (w:World) (n:Nat) (hn:n=w.heap.size) (hD:D n) {l:List aA} {cs:List Value} (t:TypeId) (hm:l.length≤maxLen) (hc:jX D w cs l):bG D (w.alloc (.cells cs.toArray t)) (.slice (some ⟨n,0,none⟩) l.length l.length) l:=by
 subst hn
 exact bG.new w hD t (0,0) hm hc
set_option maxRecDepth 8000 in
theorem xL (w:World):Calls Tryz.prog 56 #[] w λe w'=>∃g,e=.returned (.slice (some ⟨g,0,none⟩) 2 2)∧bG (λb=>w.heap.size≤b) w' (.slice (some ⟨g,0,none⟩) 2 2) fO∧Below w.heap.size w w':=by
 go_enter Tryz.func56,Tryz.ntmps56
 go_wp2_with (first
  | (go_at_call 57;have q4:=hb4;refine(jR _ _ _ ⟨_,_,_,rfl⟩).mono ?_;rintro e w5 ⟨rfl,eT⟩;have f5:=ah (aD _ (aD _ f4)) eT;have g1:=bz (aD (.cells #[.string ⟨#[115,111,114,116]⟩,.int .u8 1,.bool true,.slice (some ⟨w4.heap.size,0,none⟩) 1 1,.slice (some ⟨w5.heap.size,0,none⟩) 1 1] 58) (aD (.cells #[.string ⟨#[115,111,114,116]⟩,.bool false,.slice (some ⟨w4.heap.size+1,0,none⟩) 1 1,str [],.slice none 0 0] 50) f5));have g2:=bz (cI (w:=w5.alloc (.cells #[.string ⟨#[115,111,114,116]⟩,.bool false,.slice (some ⟨w4.heap.size+1,0,none⟩) 1 1,str [],.slice none 0 0] 50)) (n:=w5.heap.size+1) (by simp) #[.string ⟨#[115,111,114,116]⟩,.int .u8 1,.bool true,.slice (some ⟨w4.heap.size,0,none⟩) 1 1,.slice (some ⟨w5.heap.size,0,none⟩) 1 1] 58))
  | (go_at_call 57;have q3:=aH;refine(jR _ _ _ ⟨_,_,_,rfl⟩).mono ?_;rintro e w4 ⟨rfl,hb4⟩;clear q3;have f4:=ah (aD _ (cI (w:=w3.alloc _) (n:=w3.heap.size+1) (by simp) #[.string ⟨#[115,101,116]⟩,.int .u8 3,.bool true,.slice (some ⟨w1.heap.size,0,none⟩) 1 1,.slice (some ⟨w3.heap.size,0,none⟩) 2 2] 58)) hb4)
  | (go_at_call 57;have q2:=aC;refine(jR _ _ _ ⟨_,_,_,rfl⟩).mono ?_;rintro e w3 ⟨rfl,aH⟩;clear q2)
  | (go_at_call 57;have q1:=au;refine(jR _ _ _ ⟨_,_,_,rfl⟩).mono ?_;rintro e w2 ⟨rfl,aC⟩;clear q1)
  | (go_at_call 57;refine(jR _ _ _ ⟨_,_,_,rfl⟩).mono ?_;rintro e w1 ⟨rfl,au⟩))
 go_ret
 have h1:=au.size
 have h2:=aC.size
 have h3:=aH.size
 have h4:=hb4.size
 have h5:=eT.size
 simp only[World.size_alloc] at h1 h2 h3 h4 h5
 have le:∀s:List UInt8,s.length≤20→s.length≤maxLen:=λs h=>by unfold maxLen;omega
 have t2:SS (λb=>w.heap.size≤b) w1 (.slice (some ⟨w.heap.size,0,none⟩) 2 2) [tQ,tQ]:=(Bu (D:=λb=>w.heap.size≤b) w _ rfl zr [tQ,tQ] (by simp[maxLen]) (by simp[tQ,maxLen]) 9).below au zr
 have n1:=(vz (D:=λb=>w.heap.size≤b) w1 _ rfl (by omega) (l:=fQ.ag) 79 (by simp[fQ,maxLen]) ⟨_,_,[],rfl,⟨by simp[maxLen],by simp[tB,maxLen]⟩,t2,SS.nil _ _ none 0,rfl⟩).below aC zr
 have t3:SS (λb=>w.heap.size≤b) w3 (.slice (some ⟨w2.heap.size,0,none⟩) 2 2) [tS,tQ]:=(Bu (D:=λb=>w.heap.size≤b) w2 _ rfl (by omega) [tS,tQ] (by simp[maxLen]) (by simp[tQ,tS,maxLen]) 9).below aH zr
 have OG:=((zb w2).alloc zr _).trans (af aH (by simp))
 have o1:=vz (D:=λb=>w.heap.size≤b) w3 _ rfl (by omega) (l:=fQ.ops) 50 (by simp[fQ,maxLen]) ⟨_,_,_,rfl,⟨by simp[maxLen],by simp[tS,maxLen]⟩,SS.nil _ _ none 0,SS.nil _ _ none 0,_,_,[],rfl,⟨by simp[maxLen],by simp[tB,maxLen]⟩,t3,SS.nil _ _ none 0,rfl⟩
 have Qw:=(((zb (w3.alloc _)).alloc zr _).alloc (by simp) _).trans (af hb4 (by simp))
 have E3:=((((zb w3).alloc zr _).alloc (by simp) _).alloc (by simp;omega) _).trans (af hb4 (by simp;omega))
 have t4:SS (λb=>w.heap.size≤b) w4 (.slice (some ⟨w3.heap.size+1+1,0,none⟩) 2 2) [tQ,tQ]:=(Bu (D:=λb=>w.heap.size≤b) ((w3.alloc _).alloc _) (w3.heap.size+1+1) (by simp) (by omega) [tQ,tQ] (by simp[maxLen]) (by simp[tQ,maxLen]) 9).below hb4 zr
 have n2:=vz (D:=λb=>w.heap.size≤b) w4 _ rfl (by omega) (l:=dH.ag) 79 (by simp[dH,maxLen]) ⟨_,_,[],rfl,⟨by simp[maxLen],by simp[tB,maxLen]⟩,t4,SS.nil _ _ none 0,rfl⟩
 have Qx:=((zb (w4.alloc _)).alloc zr _).trans (af eT (by simp))
 have E4:=(((zb w4).alloc zr _).alloc (by simp) _).trans (af eT (by simp;omega))
 have t5:SS (λb=>w.heap.size≤b) w5 (.slice (some ⟨w4.heap.size+1,0,none⟩) 1 1) [[97,114,114,97,121,91,63,116,93]]:=(Bu (D:=λb=>w.heap.size≤b) (w4.alloc _) (w4.heap.size+1) (by simp) (by omega) [[97,114,114,97,121,91,63,116,93]] (by simp[maxLen]) (by simp[maxLen]) 9).below eT zr
 have o2:=vz (D:=λb=>w.heap.size≤b) w5 _ rfl (by omega) (l:=dH.ops) 50 (by simp[dH,maxLen]) ⟨_,_,[],rfl,⟨by simp[maxLen],by simp[maxLen]⟩,t5,SS.nil _ _ none 0,rfl⟩
 have E0:Below w.heap.size w w5:=((((zb w).alloc zr _).trans (af au (by simp))).alloc (by omega) _).trans (af aC (by simp;omega)) |>.trans (af OG (by omega)) |>.trans (af E3 (by omega)) |>.trans (af E4 (by omega))
 refine⟨_,rfl,wO _ (w5.heap.size+1+1) (by simp) (by show w.heap.size≤_;omega) (l:=fO) 58 (by simp[fO,maxLen]) ⟨_,_,_,rfl,by simp[fQ,maxLen],?_,?_,_,_,[],rfl,by simp[dH,maxLen],?_,?_,rfl⟩,?_⟩
 · exact(((n1.below OG zr).below E3 zr).below E4 zr).below (((zb w5).alloc zr _).alloc (by simp) _) zr
 · exact((o1.below Qw zr).below E4 zr).below (((zb w5).alloc zr _).alloc (by simp) _) zr
 · exact(n2.below Qx zr).below (((zb w5).alloc zr _).alloc (by simp) _) zr
 · exact o2.below ((zb (w5.alloc _)).alloc zr _) zr
 · exact((E0.alloc (by omega) _).alloc (by simp;omega) _).alloc (by simp;omega) _
end
section
open Go Go.RowKit
theorem p7 {P:Program} {w:World} (base:Nat) (t ty e:TypeId) (i:TypeInfo) (size:Nat) (ht:P.underlying t=some (.slice e)) (hi:P.info? e=some i)
 (v:Value) (n:Nat) (xs:List Value) (hown:w.ownsRow base e size v n xs) (p:Option Addr) (c:Nat):
 (Builtin.append_ #[t,t] ty #[v,.slice p 0 c]).run P w=.ok v w:=by
 rcases hown.2 with⟨rfl,rfl⟩|⟨g,cap,cur,rfl,_,_,hnc,_⟩
 · cases p<;>simp[Builtin.append_,run_underlying ht,sizeOf,typeInfo,hi,Builtin.lenOf,Builtin.firstCells,loadCells,loadCellsFrom]
 · cases p<;>simp[Builtin.append_,run_underlying ht,sizeOf,typeInfo,hi,Builtin.lenOf,Builtin.firstCells,hnc,storeCells,loadCells,loadCellsFrom]
theorem sO {D:Nat→Prop} (w:World) (base:Nat) (ty:TypeId) (v:Value) (A:List (List UInt8)) (hown:w.ownsRow base 9 1 v A.length (aB A)) (y:Value) (L:List (List UInt8)) (hy:SS D w y L) (hm:A.length+L.length≤1000000) (hb:base≤w.heap.size):
 ∃v' w',(Builtin.append_ #[34,34] ty #[v,y]).run Tryz.prog w=.ok v' w'∧w'.ownsRow base 9 1 v' (A++L).length (aB (A++L))∧w.grownBy w' v.ownBlock∧(v'.ownBlock=v.ownBlock∨v'.ownBlock=some w.heap.size):=by
 obtain⟨i0,gw,hz0,hz1,hz2⟩:=bY iM
 obtain⟨p,c,rfl,_,_,_,h4⟩:=hy
 by_cases h0:L=[]
 · subst h0
   refine⟨v,w,p7 base _ ty 9 i0 1 eV gw v _ _ hown p c,by simpa using hown,?_,.inl rfl⟩;exact World.grownBy.refl _ _
 · rcases h4 with h4|⟨b,o,rfl,_,_,h6⟩
   · exact absurd h4 h0
   · have hp:0<L.length:=List.length_pos_iff.2 h0
     obtain⟨v',w',h1,h2,h3,h5⟩:=fR (P:=Tryz.prog) w base 34 ty 9 i0 _ 1 16 eV gw hz0 hz1 hz2 rfl (by decide) v A.length (aB A) hown ⟨b,o,none⟩ L.length c (aB L) (by simp[aB]) (λj u hu=>by
      have hj:j<L.length:=by
       have:=(List.getElem?_eq_some_iff.1 hu).1
       simpa[aB] using this
      rw[iJ L j hj] at hu;cases hu;rw[Go.WideShapes.add_plain];exact h6 j hj) (uB L) hp (by unfold maxLen;omega) (by omega) hb
     exact⟨v',w',h1,by rw[List.length_append,show aB (A++L)=aB A++aB L by simp[aB]];exact h2,h3,h5⟩
theorem jV {D:Nat→Prop} {ops:Array Oper} {rest:List Oper} {o:Oper} {a:Act} {Q:Exit→Act→World→Prop} (w:World) (hgd:o.guard=none) (s x:Operand)
 (ho:o.op=.call {callee:=.builtin .append,args:= #[s,x],argTypes:= #[34,34] }) (base:Nat) (v:Value) (A:List (List UInt8)) (hs:a.eval s=v) (hown:w.ownsRow base 9 1 v A.length (aB A))
 (y:Value) (L:List (List UInt8)) (hx:a.eval x=y) (hy:SS D w y L) (hm:A.length+L.length≤1000000) (hb:base≤w.heap.size)
 (h:∀v' w',w'.ownsRow base 9 1 v' (A++L).length (aB (A++L))→w.grownBy w' v.ownBlock→(v'.ownBlock=v.ownBlock∨v'.ownBlock=some w.heap.size)→wpList Tryz.prog ops Q rest (a.put o.dst v') w'):
 wpList Tryz.prog ops Q (o::rest) a w:=by
 refine wpList_plain hgd λK hK=>?_
 obtain⟨v',w',hr,h2,h3,h4⟩:=sO w base o.type v A hown y L hy hm hb
 unfold Oper.wp execOp
 simp only[ho,resolve,invoke,builtin,Sem.run_bind,Sem.run_pure,Result.andThen_ok,List.map_toArray,List.map_cons,List.map_nil,hs,hx,hr]
 exact hK _ _ (h v' w' h2 h3 h4)
theorem jF.nil (X:Nat→Prop) (B:Nat) (w:World):jF X B w (.slice none 0 0) []:=⟨[],World.ownsRow_nil _ _ _ _,rfl⟩
end
open Go.RowKit
set_option maxRecDepth 4000 in
theorem Ay {D:Nat→Prop} (x:Value) (s:bP) (w:World) (hx:aT D w x s) (h1:s.args.length≤100000):
 Calls Tryz.prog 93 #[x] w λe w'=>∃v,e=.returned v∧w'.ownsRow (w.heap.size+1) 9 1 v (aQ s).length (aB (aQ s))∧SS (λb=>w.heap.size<b) w' v (aQ s)∧Below w.heap.size w w':=by
 obtain⟨i0,gw,hz0,hz1,hz2⟩:=bY iM
 obtain⟨av,sv,rfl,hr,ha,hs⟩:=hx
 have hal:=zh ha.le
 obtain⟨p1,c1,rfl,_⟩:=ha.shape
 obtain⟨p2,c2,rfl,_⟩:=hs.shape
 obtain⟨it,ar,re,sg⟩:=s
 dsimp only at *
 have hA:=((zb w).alloc zr (.cells #[.bool it,.slice p1 ar.length c1,str re,.slice p2 sg.length c2] 36))
 have hg:=heap_alloc_new w (.cells #[.bool it,.slice p1 ar.length c1,str re,.slice p2 sg.length c2] 36)
 have bx:=(aN hg).1
 have Kg:=hA.alloc (by simp) (.cells #[] 9)
 have ha2:=ha.below Kg zr
 have hg2:=aD (.cells #[] 9) hg
 have hE:((w.alloc (.cells #[.bool it,.slice p1 ar.length c1,str re,.slice p2 sg.length c2] 36)).alloc (.cells #[] 9)).ownsRow (w.heap.size+1) 9 1 (.slice (some ⟨w.heap.size+1,0,none⟩) 0 0) ([]:List (List UInt8)).length (aB []):=
  ⟨rfl,.inr ⟨w.heap.size+1,0,#[],rfl,nl _,by have:=heap_alloc_new (w.alloc (.cells #[.bool it,.slice p1 ar.length c1,str re,.slice p2 sg.length c2] 36)) (.cells #[] 9);rwa [World.size_alloc] at this,nl _,Nat.zero_le _,rfl,rfl⟩⟩
 clear hs ha
 by_cases he:re=[]
 · have he':(re==[])=true:=by rw[he];rfl
   have A5:re.isEmpty=true:=by rw[he];rfl
   have HT:=zh (show aQ ⟨it,ar,re,sg⟩=ar by unfold aQ;rw[if_pos he];simp);clear he;go_enter Tryz.func93,Tryz.ntmps93;go_wp2_with (at_builtin;refine jV _ rfl _ _ rfl (w.heap.size+1) (.slice (some ⟨w.heap.size+1,0,none⟩) 0 0) [] rfl hE (.slice p1 ar.length c1) ar rfl ha2 (by simp;omega) (by simp) ?_;intro v1 w3 jW hgr sF;have hg3:=eO hgr hg2 (by simp[Value.ownBlock]);have yR:=(aN hg3).1;obtain⟨q1,d1,rfl⟩:=bu jW);go_ret;rw[HT.out];rw[List.nil_append] at jW;exact⟨_,rfl,jW,SS.bH jW hal.out (λb hb=>by have:=(jW.lt b hb).1;omega),Kg.grown hgr (by simp;omega) (λk e=>by cases e;exact Nat.le_succ _)⟩
 · have he':(re==[])=false:=by simpa using he
   have A5:re.isEmpty=false:=by simpa using he
   have HT:=zh (show aQ ⟨it,ar,re,sg⟩=ar++[re] by unfold aQ;rw[if_neg he]);clear he;go_enter Tryz.func93,Tryz.ntmps93;go_wp2_with (first
    | (at_builtin;refine bq _ rfl _ _ 34 rfl (w.heap.size+1) 9 i0 _ 1 16 eV gw hz0 hz1 hz2 rfl (by decide) _ _ (aB ar) rfl (jW.alloc _) ⟨w3.heap.size,0,none⟩ 1 1 [str re] rfl rfl (cell_one_new _ _ _) (by intro u hu;rw[List.mem_singleton.1 hu];rfl) (by decide) (by unfold maxLen;omega) (by omega) (by simp;omega) ?_;intro v' w4 bB DR _)
    | (at_builtin;refine jV _ rfl _ _ rfl (w.heap.size+1) (.slice (some ⟨w.heap.size+1,0,none⟩) 0 0) [] rfl hE (.slice p1 ar.length c1) ar rfl ha2 (by simp;omega) (by simp) ?_;intro v1 w3 jW hgr sF;have hg3:=eO hgr hg2 (by simp[Value.ownBlock]);have yR:=(aN hg3).1;rw[List.nil_append] at jW;obtain⟨q1,d1,rfl⟩:=bu jW;have JT:=hgr.size;simp only[World.size_alloc] at JT))
   go_ret;have hl1:ar.length+1=(ar++[re]).length:=by simp
   rw[hl1,show aB ar++[str re]=aB (ar++[re]) by simp[aB]] at bB;rw[HT.out];refine⟨_,rfl,bB,SS.bH bB ?_ (λb hb=>by have:=(bB.lt b hb).1;omega),?_⟩
   · intro s hs
     rcases List.mem_append.1 hs with hs|hs
     · exact hal.out s hs
     · rw[List.mem_singleton.1 hs];exact hr
   · have dx:=Kg.grown hgr (by simp;omega) (λk e=>by cases e;exact Nat.le_succ _)
     exact(dx.alloc (by omega) _).grown DR (by simp;omega) (λk hk=>by
      have:=(jW.lt k hk).1;omega)
theorem EO (s:bP) (o:Bool):cZ s o=(decide (s.args.length≤6)&&decide (s.sigs.length≤6)&& !(s.iter&&decide (s.res=[]))&& !(aQ s).any (eS o)&&eY s.sigs):=by
 rw[yA]
 cases decide (s.args.length≤6)<;>cases decide (s.sigs.length≤6)<;>cases eY s.sigs<;>cases (!(s.iter&&decide (s.res=[])))<;>cases (aQ s).any (eS o)<;>rfl
theorem Dj {α:Type} {p:α→Bool} {l:List α} {i:Nat} {x:α} (h:l[i]? =some x):(l.drop i).any p=(p x||(l.drop (i+1)).any p):=by rw[bp h,List.any_cons]
set_option maxRecDepth 8000 in
theorem iI {D : Nat → Prop} (x : Value) (s : bP) (q : Bool) (w : World) (hx : aT D w x s) :
 Calls Tryz.prog 90 #[x,.bool q] w λe w'=>e=.returned (.bool (cZ s q))∧Below w.heap.size w w':=by
 rw[EO]
 have hx0:=hx
 obtain⟨av,sv,rfl,hr,ha,hs⟩:=hx
 have Oa:=hs.fresh
 have Cc:=zh hs.le
 have hal:=zh ha.le
 obtain⟨p1,c1,rfl,_⟩:=ha.shape
 obtain⟨p2,c2,rfl,_⟩:=hs.shape
 have HT:=λW (hW:Below w.heap.size w W) h=>Ay _ s W (hx0.below hW zr) h
 have OW:Hid (∀t∈aQ s,t.length≤maxLen):=by
  intro t ht;unfold aQ at ht;rcases List.mem_append.1 ht with ht|ht
  · exact ha.le t ht
  · split at ht
    · cases ht
    · rw[List.mem_singleton.1 ht];exact hr
 generalize aQ s=T at *
 obtain⟨it,ar,re,sg⟩:=s
 dsimp only at *
 have hA:=((zb w).alloc zr (.cells #[.bool it,.slice p1 ar.length c1,str re,.slice p2 sg.length c2] 36))
 have hg:=heap_alloc_new w (.cells #[.bool it,.slice p1 ar.length c1,str re,.slice p2 sg.length c2] 36)
 have bx:=(aN hg).1
 clear ha hs hx0
 by_cases h1:ar.length≤6
 case neg=>
  have g1:(6:Int)<(ar.length:Int):=by omega
  have HX:=zh (show decide (ar.length≤6)=false by simpa using h1);clear h1;go_enter Tryz.func90,Tryz.ntmps90;go_wp2_with fail;go_ret;exact⟨by rw[HX.out];rfl,hA⟩
 have g1:¬(6:Int)<(ar.length:Int):=by omega
 have GI:=zh (show decide (ar.length≤6)=true by simpa using h1)
 have h1':Hid (ar.length≤100000):=show ar.length≤100000 by omega
 clear h1
 by_cases h2:sg.length≤6
 case neg=>
  have g2:(6:Int)<(sg.length:Int):=by omega
  have HX:=zh (show decide (sg.length≤6)=false by simpa using h2);clear h2;go_enter Tryz.func90,Tryz.ntmps90;go_wp2_with fail;go_ret;exact⟨by rw[HX.out];simp,hA⟩
 have g2:¬(6:Int)<(sg.length:Int):=by omega
 have AQ:=zh (show decide (sg.length≤6)=true by simpa using h2)
 by_cases h4:it=true∧re=[]
 · obtain⟨rfl,rfl⟩:=h4
   go_enter Tryz.func90,Tryz.ntmps90;go_wp2_with fail;go_ret;exact⟨by simp,hA⟩
 have LP:=zh (show(!(it&&decide (re=[])))=true by
  cases it
  · rfl
  · have:re≠[]:=λe=>h4 ⟨rfl,e⟩
    simpa using this)
 have h5:it=false∨(it=true∧re.isEmpty=false∧(re==[])=false):=by
  cases it
  · exact .inl rfl
  · have:re≠[]:=λe=>h4 ⟨rfl,e⟩
    exact .inr ⟨rfl,by simpa using this,by simpa using this⟩
 clear h4
 rw[GI.out,AQ.out,LP.out]
 simp only[Bool.true_and]
 clear GI AQ LP
 have HT:=HT _ hA h1'.out
 clear h1'
 have Ui:=hg
 have T6:=hA
 rcases h5 with rfl|⟨rfl,h5,T4⟩
 all_goals
  go_enter Tryz.func90,Tryz.ntmps90;go_wp2_with (go_at_call 93;refine HT.mono ?_;clear HT;rintro e w2 ⟨v2,rfl,_,oc,aC⟩;have hg:=ah hg aC;have hA:=hA.trans (af aC hA.size);obtain⟨p3,c3,rfl,_,IG,_⟩:=oc.shape)
  replace hg:=(aN hg).1.2.2.2
  unfold maxLen at IG;clear aC;go_loopw [6] (λa wx=>∃i:Nat,i≤T.length∧a=.int .i64 i∧Below w.heap.size w wx∧Hid (T.any (eS q)=(T.drop i).any (eS q))∧wx.cell? ⟨w.heap.size,3,none⟩=some (.slice p2 sg.length c2)∧SS (λb=>w.heap.size<b) wx (.slice p3 T.length c3) T) (λa _=>T.length - (intOf a).toNat)
  case atStart=>exact⟨0,Nat.zero_le _,by go_num,hA,rfl,hg,oc.mono (by intro b hb;simp at hb;omega)⟩
  case round =>
   clear hA hg oc;obtain⟨i,hi,rfl,hb,hE,hg,oc⟩:=hrel
   by_cases hlt:i<T.length
   case pos =>
    obtain⟨x,hkx⟩:∃x,T[i]? =some x:=⟨_,List.getElem?_eq_getElem hlt⟩
    obtain⟨b1,o1,rfl,_,pc⟩:=oc.at hkx;have HO:=CL x (OW.out x (List.mem_of_getElem? hkx)) wr;have hd:=hE.out;rw[Dj hkx] at hd;have KD:eS q x=(decide ((aq x).1≠0)||(eM x&& !q)):=rfl;generalize eS q x=BT at *;generalize eM x=O at *;clear hE hkx
    by_cases hz:(aq x).1=0
    · rw[hz] at HO KD
      cases O<;>cases q
      all_goals
       simp at KD;subst KD;have HX:=zh hd;clear hd hz;go_wp2_with (go_at_call 34;refine HO.mono ?_;clear HO;rintro e w1 ⟨rfl,au⟩)
       first
        | exact⟨⟨i+1,hlt,by go_num,hb.trans (af au hb.size),by simpa[Hid] using HX.out,Below.keep au hg,oc.below au zr⟩,by simp only[intOf];omega⟩
        | (go_ret;exact⟨by rw[HX.out];rfl,hb.trans (af au hb.size)⟩)
    · obtain⟨g1,g2⟩:=bK hz
      have HX:=zh (show T.any (eS q)=true by rw[hd,KD];simp[hz]);clear hd KD hz;go_wp2_with (go_at_call 34;refine HO.mono ?_;clear HO;rintro e w1 ⟨rfl,au⟩);go_ret;exact⟨by rw[HX.out];rfl,hb.trans (af au hb.size)⟩
   case neg =>
    have Mz:=zh (show T.any (eS q)=false by rw[hE.out,List.drop_eq_nil_of_le (by omega)];rfl);clear hE OW oc;have hgB:=hg;have yU:=hb;go_wp2_with fail;go_loopw [9] (λa wx=>∃i:Nat,i≤sg.length∧a=.int .i64 i∧Below w.heap.size w wx∧Hid (eY sg=kM (fV sg i) (sg.drop i))∧wx.cell? ⟨w.heap.size,3,none⟩=some (.slice p2 sg.length c2)) (λa _=>sg.length - (intOf a).toNat)
    case atStart=>exact⟨0,Nat.zero_le _,by go_num,yU,om sg,hgB⟩
    case round =>
     clear hgB yU hg hb hlt hi;obtain⟨i,hi,rfl,hb,hE,hg⟩:=hrel
     by_cases hlt:i<sg.length
     case neg=>
      have HX:=zh (show eY sg=true by rw[hE.out,List.drop_eq_nil_of_le (by omega)];rfl);clear hE;go_wp2_with fail;go_ret;exact⟨by rw[Mz.out,HX.out];rfl,hb⟩
     case pos =>
      obtain⟨x,hkx⟩:∃x,sg[i]? =some x:=⟨_,List.getElem?_eq_getElem hlt⟩
      have hxl:=Cc.out x (List.mem_of_getElem? hkx);have sG:=Oa.below hb zr;obtain⟨b1,o1,rfl,_,pc⟩:=sG.at hkx;have hd:=hE.out;rw[bp hkx,kM] at hd;clear hE;rcases hn:isName x with _|_
      · rw [hn] at hd
        have HX:=zh hd;clear hd hkx;go_upto_region 13 with fail;refine dK (D:=Any) 24 [(2,vP w.heap.size 0),(9,vI i)] [vP w.heap.size 3,vL b1 o1 sg.length c2,vI i,vP b1 (o1+i),vT x,vN,vY,vY,vK,vK,vK,vK,vK,vK,vK,vK,vK,vK,vK,vK,vK,vK,vK,vK,vY] (aZ [(⟨w.heap.size,3,none⟩,.slice (some ⟨b1,o1,none⟩) sg.length c2),(⟨b1,o1+i,none⟩,str x)]) (by kernel_rfl) rfl (λ_ _ h hb=>h.below hb) (by(iterate 2 refine b9 (by assumption) ?_);exact gy) ⟨rfl,rfl,trivial⟩ ?_ ?_
        · iterate 25
           refine And.intro ?_ ?_
           · first
             | exact dr (by kernel_rfl) rfl
             | exact oe rfl rfl (by kernel_rfl)
             | exact eX rfl (by kernel_rfl) (by kernel_rfl) rfl rfl
             | exact gN rfl (by kernel_rfl) rfl rfl (λw=>by simp[go_sem])
             | exact iC rfl (by kernel_rfl) rfl rfl rfl (λw=>by simp[go_sem,hlt])
             | exact gv rfl (by kernel_rfl) rfl rfl (λw hS=>by simp[go_sem,(hS.get 0 rfl),(hS.get 1 rfl)])
             | exact eW rfl (by kernel_rfl) rfl rfl rfl (λw=>by simp[go_sem])
             | exact er (s1:=.eq (str x)) rfl (enters_of Tryz.func87 (by kernel_rfl) rfl) (by kernel_rfl) rfl (by kernel_rfl) (λv wx hS h1=>by rw[show v=str x from h1];exact(aG x wx hxl).mono (by rintro e w' ⟨rfl,hb⟩;exact⟨_,rfl,(show Value.bool (isName x)=.bool false by rw[hn]),hb⟩))
          exact trivial
        · intro aE wE mo fM _
          simp only[pq,pz,pw];go_wp2_with fail;go_ret;exact⟨by rw[Mz.out,HX.out];rfl,hb.trans (af fM hb.size)⟩
      · rw [hn] at hd
        rcases Nat.eq_zero_or_pos i with rfl|hpos
        · have HX := zh (show eY sg = kM (fV sg 1) (sg.drop 1) by rw [hd]; simp [fV, hkx])
          rw[Nat.add_zero] at pc;clear hd hkx;go_upto_region 13 with fail;refine dK (D:=Any) 24 [(2,vP w.heap.size 0),(9,vI ((0:Nat):Int))] [vP w.heap.size 3,vL b1 o1 sg.length c2,vI ((0:Nat):Int),vP b1 o1,vT x,vY,vN,vN,vI ((0:Nat):Int),vN,vN,vK,vK,vK,vK,vK,vK,vK,vK,vK,vK,vK,vK,vN,vN] (aZ [(⟨w.heap.size,3,none⟩,.slice (some ⟨b1,o1,none⟩) sg.length c2),(⟨b1,o1,none⟩,str x)]) (by kernel_rfl) rfl (λ_ _ h hb=>h.below hb) (by(iterate 2 refine b9 (by assumption) ?_);exact gy) ⟨rfl,rfl,trivial⟩ ?_ ?_
          · iterate 25
             refine And.intro ?_ ?_
             · first
               | exact dr (by kernel_rfl) rfl
               | exact oe rfl rfl (by kernel_rfl)
               | exact eX rfl (by kernel_rfl) (by kernel_rfl) rfl rfl
               | exact gN rfl (by kernel_rfl) rfl rfl (λw=>by simp[go_sem])
               | exact iC rfl (by kernel_rfl) rfl rfl rfl (λw=>by simp[go_sem,hlt])
               | exact gv rfl (by kernel_rfl) rfl rfl (λw hS=>by simp[go_sem,(hS.get 0 rfl),(hS.get 1 rfl)])
               | exact eW rfl (by kernel_rfl) rfl rfl rfl (λw=>by simp[go_sem])
               | exact er (s1:=.eq (str x)) rfl (enters_of Tryz.func87 (by kernel_rfl) rfl) (by kernel_rfl) rfl (by kernel_rfl) (λv wx hS h1=>by rw[show v=str x from h1];exact(aG x wx hxl).mono (by rintro e w' ⟨rfl,hb⟩;exact⟨_,rfl,(show Value.bool (isName x)=.bool true by rw[hn]),hb⟩))
            exact trivial
          · intro aE wE mo fM _
            simp only[pq,pz,pw];go_wp2_with fail;exact⟨⟨1,hlt,by go_num,hb.trans (af fM hb.size),HX,Below.keep fM hg⟩,by simp only[intOf];omega⟩
        · obtain ⟨j, hj⟩ : ∃ j, i = j + 1 := ⟨i - 1, by omega⟩
          obtain⟨y,j8⟩:∃y,sg[j]? =some y:=⟨_,List.getElem?_eq_getElem (by omega)⟩
          obtain⟨b2,o2,e2,_,od⟩:=sG.at j8;simp only[Option.some.injEq,Addr.mk.injEq,and_true] at e2;obtain⟨rfl,rfl⟩:=e2;have hj0:0<i:=by omega
          have hj1:(i:Int) - 1=(j:Int):=by omega
          have hjl:j<sg.length:=by omega
          have JP:=yP (j:=j) (by omega);rcases hless:Op.bytesLess y x with _|_
          · have HX := zh (show eY sg = false by rw [hd, show fV sg i = some y by rw [hj]; exact j8]; simp [hless])
            clear hd hkx j8 hj;go_upto_region 13 with fail;refine dK (D:=Any) 24 [(2,vP w.heap.size 0),(9,vI i)] [vP w.heap.size 3,vL b1 o1 sg.length c2,vI i,vP b1 (o1+i),vT x,vY,vN,vN,vI i,vY,vY,vP w.heap.size 3,vL b1 o1 sg.length c2,vI i,vI j,vP b1 (o1+j),vT y,vP w.heap.size 3,vL b1 o1 sg.length c2,vI i,vP b1 (o1+i),vT x,vY,vY,vY] (aZ [(⟨w.heap.size,3,none⟩,.slice (some ⟨b1,o1,none⟩) sg.length c2),(⟨b1,o1+i,none⟩,str x),(⟨b1,o1+j,none⟩,str y)]) (by kernel_rfl) rfl (λ_ _ h hb=>h.below hb) (by(iterate 3 refine b9 (by assumption) ?_);exact gy) ⟨rfl,rfl,trivial⟩ ?_ ?_
            · iterate 25
               refine And.intro ?_ ?_
               · first
                 | exact dr (by kernel_rfl) rfl
                 | exact oe rfl rfl (by kernel_rfl)
                 | exact eX rfl (by kernel_rfl) (by kernel_rfl) rfl rfl
                 | exact gN rfl (by kernel_rfl) rfl rfl (λw=>by simp[go_sem])
                 | exact iC rfl (by kernel_rfl) rfl rfl rfl (λw=>by simp[go_sem,hlt,hjl])
                 | exact gv rfl (by kernel_rfl) rfl rfl (λw hS=>by simp[go_sem,(hS.get 0 rfl),(hS.get 1 rfl),(hS.get 2 rfl)])
                 | exact eW rfl (by kernel_rfl) rfl rfl rfl (λw=>by simp[go_sem,hj0,hj1,JP,hless])
                 | exact er (s1:=.eq (str x)) rfl (enters_of Tryz.func87 (by kernel_rfl) rfl) (by kernel_rfl) rfl (by kernel_rfl) (λv wx hS h1=>by rw[show v=str x from h1];exact(aG x wx hxl).mono (by rintro e w' ⟨rfl,hb⟩;exact⟨_,rfl,(show Value.bool (isName x)=.bool true by rw[hn]),hb⟩))
              exact trivial
            · intro aE wE mo fM _
              simp only[pq,pz,pw];go_wp2_with fail;go_ret;exact⟨by rw[Mz.out,HX.out];rfl,hb.trans (af fM hb.size)⟩
          · have HX := zh (show eY sg = kM (fV sg (i + 1)) (sg.drop (i + 1)) by rw [hd, show fV sg i = some y by rw [hj]; exact j8]; simp [hless, fV, hkx])
            clear hd hkx j8 hj;go_upto_region 13 with fail;refine dK (D:=Any) 24 [(2,vP w.heap.size 0),(9,vI i)] [vP w.heap.size 3,vL b1 o1 sg.length c2,vI i,vP b1 (o1+i),vT x,vY,vN,vN,vI i,vY,vY,vP w.heap.size 3,vL b1 o1 sg.length c2,vI i,vI j,vP b1 (o1+j),vT y,vP w.heap.size 3,vL b1 o1 sg.length c2,vI i,vP b1 (o1+i),vT x,vN,vN,vN] (aZ [(⟨w.heap.size,3,none⟩,.slice (some ⟨b1,o1,none⟩) sg.length c2),(⟨b1,o1+i,none⟩,str x),(⟨b1,o1+j,none⟩,str y)]) (by kernel_rfl) rfl (λ_ _ h hb=>h.below hb) (by(iterate 3 refine b9 (by assumption) ?_);exact gy) ⟨rfl,rfl,trivial⟩ ?_ ?_
            · iterate 25
               refine And.intro ?_ ?_
               · first
                 | exact dr (by kernel_rfl) rfl
                 | exact oe rfl rfl (by kernel_rfl)
                 | exact eX rfl (by kernel_rfl) (by kernel_rfl) rfl rfl
                 | exact gN rfl (by kernel_rfl) rfl rfl (λw=>by simp[go_sem])
                 | exact iC rfl (by kernel_rfl) rfl rfl rfl (λw=>by simp[go_sem,hlt,hjl])
                 | exact gv rfl (by kernel_rfl) rfl rfl (λw hS=>by simp[go_sem,(hS.get 0 rfl),(hS.get 1 rfl),(hS.get 2 rfl)])
                 | exact eW rfl (by kernel_rfl) rfl rfl rfl (λw=>by simp[go_sem,hj0,hj1,JP,hless])
                 | exact er (s1:=.eq (str x)) rfl (enters_of Tryz.func87 (by kernel_rfl) rfl) (by kernel_rfl) rfl (by kernel_rfl) (λv wx hS h1=>by rw[show v=str x from h1];exact(aG x wx hxl).mono (by rintro e w' ⟨rfl,hb⟩;exact⟨_,rfl,(show Value.bool (isName x)=.bool true by rw[hn]),hb⟩))
              exact trivial
            · intro aE wE mo fM _
              simp only[pq,pz,pw];go_wp2_with fail;exact⟨⟨i+1,hlt,by go_num,hb.trans (af fM hb.size),HX,Below.keep fM hg⟩,by simp only[intOf];omega⟩
theorem xR {l:List aL} (h:eY (l.map (·.name))=false):aU l=false:=by rw[iU,h];simp
theorem xS {l:List aL} (h:l.all (λn=>cZ n.sig true)=false):aU l=false:=by rw[iU,h];rfl
theorem vq {l:List aL} {i:Nat} {x:aL} (h:l[i]? =some x):(l.map (·.name))[i]? =some x.name:=by rw[List.getElem?_map,h];rfl
set_option maxRecDepth 8000 in
theorem lD {D : Nat → Prop} (l : List aL) (v : Value) (w : World) (hv : aY D w v l) :
 Calls Tryz.prog 80 #[v] w λe w'=>e=.returned (.bool (aU l))∧Below w.heap.size w w':=by
 obtain⟨p,c,rfl,_,hm,_⟩:=hv.shape
 by_cases h4:l.length≤4
 case neg=>
  unfold maxLen at hm;have g4:(4:Int)<(l.length:Int):=by omega
  have HX:=zh (show aU l=false by rw[iU];simp[h4]);clear h4;go_enter Tryz.func80,Tryz.ntmps80;go_wp2_with fail;go_ret;exact⟨by rw[HX.out];rfl,zb _⟩
 have g4:¬(4:Int)<(l.length:Int):=by omega
 have HF:=zh (show eY (l.map (·.name))=true→l.all (λn=>cZ n.sig true)=true→aU l=true by intro h1 h2;rw[iU,h1,h2];simp[h4])
 clear hm
 go_enter Tryz.func80,Tryz.ntmps80
 go_wp2_with fail
 go_loopw [3] (λa wx=>∃i:Nat,i≤l.length∧a=.int .i64 i∧Below w.heap.size w wx∧Hid (eY (l.map (·.name))=kM (fV (l.map (·.name)) i) ((l.map (·.name)).drop i)∧l.all (λn=>cZ n.sig true)=(l.drop i).all (λn=>cZ n.sig true))) (λa _=>l.length - (intOf a).toNat)
 case atStart=>exact⟨0,Nat.zero_le _,by go_num,zb _,om _,rfl⟩
 case round =>
  obtain⟨i,hi,rfl,hb,hE⟩:=hrel
  by_cases hlt:i<l.length
  case neg=>
   have HX:=zh (HF.out (by rw[hE.out.1,List.drop_eq_nil_of_le (by rw[List.length_map];omega)];rfl) (by rw[hE.out.2,List.drop_eq_nil_of_le (by omega)];rfl));clear hE;go_wp2_with fail;go_ret;exact⟨by rw[HX.out];rfl,hb⟩
  case pos =>
   obtain⟨x,hkx⟩:∃x,l[i]? =some x:=⟨_,List.getElem?_eq_getElem hlt⟩
   have sG:=hv.below hb zr;obtain⟨b1,o1,av,sv,rfl,_,⟨hxl,mI⟩,fe,eE,d0,d1,d2,d3,d4⟩:=sG.at hkx;have wW:aT Any wr (.agg #[.bool x.sig.iter,av,str x.sig.res,sv]) x.sig:=⟨_,_,rfl,mI,fe.mono λ_ _=>trivial,eE.mono λ_ _=>trivial⟩;have yV:=hE.out.1;have hd2:=hE.out.2;rw[bp (vq hkx),kM] at yV;rw[bp hkx,List.all_cons] at hd2;clear hE fe eE;rcases hn:isName x.name with _|_
   · rw [hn] at yV
     have HX:=zh (xR yV);clear yV hd2 hkx;go_upto_region 6 with fail;refine dK (D:=Any) 33 [(0,vL b1 o1 l.length c),(3,vI i)] [vL b1 o1 l.length c,vI i,vP b1 (o1+i * 5),vP b1 (o1+i * 5),vT x.name,vN,vY,vY,vK,vK,vK,vK,vK,vK,vK,vK,vK,vK,vK,vK,vK,vK,vK,vK,vY,vY,vK,vK,vK,vK,vK,vK,vK,vY] (aZ [(⟨b1,o1+i * 5,none⟩,str x.name)]) (by kernel_rfl) rfl (λ_ _ h hb=>h.below hb) (by(iterate 1 refine b9 (by assumption) ?_);exact gy) ⟨rfl,rfl,trivial⟩ ?_ ?_
     · iterate 34
        refine And.intro ?_ ?_
        · first
          | exact dr (by kernel_rfl) rfl
          | exact oe rfl rfl (by kernel_rfl)
          | exact eX rfl (by kernel_rfl) (by kernel_rfl) rfl rfl
          | exact gN rfl (by kernel_rfl) rfl rfl (λw=>by simp[go_sem])
          | exact iC rfl (by kernel_rfl) rfl rfl rfl (λw=>by simp[go_sem,hlt])
          | exact gv rfl (by kernel_rfl) rfl rfl (λw hS=>by simp[go_sem,(hS.get 0 rfl)])
          | exact eW rfl (by kernel_rfl) rfl rfl rfl (λw=>by simp[go_sem])
          | exact er (s1:=.eq (str x.name)) rfl (enters_of Tryz.func87 (by kernel_rfl) rfl) (by kernel_rfl) rfl (by kernel_rfl) (λv wx hS h1=>by rw[show v=str x.name from h1];exact(aG x.name wx hxl).mono (by rintro e w' ⟨rfl,hb⟩;exact⟨_,rfl,(show Value.bool (isName x.name)=.bool false by rw[hn]),hb⟩))
       exact trivial
     · intro aE wE mo fM _
       simp only[pq,pz,pw];go_wp2_with fail;go_ret;exact⟨by rw[HX.out];rfl,hb.trans (af fM hb.size)⟩
   · rw [hn] at yV
     rcases Nat.eq_zero_or_pos i with rfl|hpos
     · have GI := zh (show eY (l.map (·.name)) = kM (fV (l.map (·.name)) 1) ((l.map (·.name)).drop 1) by rw [yV]; simp [fV, vq hkx])
       rw[Nat.zero_mul,Nat.add_zero] at d0 d1 d2 d3 d4;rcases zB:cZ x.sig true with _|_
       · rw [zB] at hd2
         have HX:=zh (xS hd2);clear yV hd2 hkx;go_upto_region 6 with fail;refine dK (D:=Any) 33 [(0,vL b1 o1 l.length c),(3,vI ((0:Nat):Int))] [vL b1 o1 l.length c,vI ((0:Nat):Int),vP b1 o1,vP b1 o1,vT x.name,vY,vN,vN,vI ((0:Nat):Int),vN,vN,vK,vK,vK,vK,vK,vK,vK,vK,vK,vK,vK,vK,vN,vN,vN,vL b1 o1 l.length c,vI ((0:Nat):Int),vP b1 o1,vP b1 (o1+1),.eq (.agg #[.bool x.sig.iter,av,str x.sig.res,sv]),vN,vY,vY] (λw'=>aZ [(⟨b1,o1,none⟩,str x.name),(⟨b1,o1+1,none⟩,.bool x.sig.iter),(⟨b1,o1+2,none⟩,av),(⟨b1,o1+3,none⟩,str x.sig.res),(⟨b1,o1+4,none⟩,sv)] w'∧aT Any w' (.agg #[.bool x.sig.iter,av,str x.sig.res,sv]) x.sig) (by kernel_rfl) rfl (λ_ _ h hb=>⟨h.1.below hb,aT.below h.2 hb zr⟩) ⟨(by(iterate 5 refine b9 (by assumption) ?_);exact gy),aT.below wW ((zb wr).drew) zr⟩ ⟨rfl,rfl,trivial⟩ ?_ ?_
         · iterate 34
            refine And.intro ?_ ?_
            · first
              | exact dr (by kernel_rfl) rfl
              | exact oe rfl rfl (by kernel_rfl)
              | exact eX rfl (by kernel_rfl) (by kernel_rfl) rfl rfl
              | exact gN rfl (by kernel_rfl) rfl rfl (λw=>by simp[go_sem])
              | exact iC rfl (by kernel_rfl) rfl rfl rfl (λw=>by simp[go_sem,hlt])
              | exact gv rfl (by kernel_rfl) rfl rfl (λw hS=>by simp[go_sem,(hS.1.get 0 rfl),(hS.1.get 1 rfl),(hS.1.get 2 rfl),(hS.1.get 3 rfl),(hS.1.get 4 rfl)])
              | exact eW rfl (by kernel_rfl) rfl rfl rfl (λw=>by simp[go_sem])
              | exact er (s1:=.eq (str x.name)) rfl (enters_of Tryz.func87 (by kernel_rfl) rfl) (by kernel_rfl) rfl (by kernel_rfl) (λv wx hS h1=>by rw[show v=str x.name from h1];exact(aG x.name wx hxl).mono (by rintro e w' ⟨rfl,hb⟩;exact⟨_,rfl,(show Value.bool (isName x.name)=.bool true by rw[hn]),hb⟩))
              | exact gu (s1:=.eq (.agg #[.bool x.sig.iter,av,str x.sig.res,sv])) (s2:=.eq (.bool true)) rfl (enters_of Tryz.func90 (by kernel_rfl) rfl) (by kernel_rfl) rfl (by kernel_rfl) (by kernel_rfl) (λv v2 wx hS h1 h2=>by rw[show v=.agg #[.bool x.sig.iter,av,str x.sig.res,sv] from h1,show v2=.bool true from h2];exact(iI _ x.sig true wx hS.2).mono (by rintro e w' ⟨rfl,hb⟩;exact⟨_,rfl,(show Value.bool (cZ x.sig true)=.bool _ by rw[zB]),hb⟩))
           exact trivial
         · intro aE wE mo fM _
           simp only[pq,pz,pw];go_wp2_with fail;go_ret;exact⟨by rw[HX.out];rfl,hb.trans (af fM hb.size)⟩
       · rw [zB] at hd2
         have AQ:=zh hd2;clear yV hd2 hkx;go_upto_region 6 with fail;refine dK (D:=Any) 33 [(0,vL b1 o1 l.length c),(3,vI ((0:Nat):Int))] [vL b1 o1 l.length c,vI ((0:Nat):Int),vP b1 o1,vP b1 o1,vT x.name,vY,vN,vN,vI ((0:Nat):Int),vN,vN,vK,vK,vK,vK,vK,vK,vK,vK,vK,vK,vK,vK,vN,vN,vN,vL b1 o1 l.length c,vI ((0:Nat):Int),vP b1 o1,vP b1 (o1+1),.eq (.agg #[.bool x.sig.iter,av,str x.sig.res,sv]),vY,vN,vN] (λw'=>aZ [(⟨b1,o1,none⟩,str x.name),(⟨b1,o1+1,none⟩,.bool x.sig.iter),(⟨b1,o1+2,none⟩,av),(⟨b1,o1+3,none⟩,str x.sig.res),(⟨b1,o1+4,none⟩,sv)] w'∧aT Any w' (.agg #[.bool x.sig.iter,av,str x.sig.res,sv]) x.sig) (by kernel_rfl) rfl (λ_ _ h hb=>⟨h.1.below hb,aT.below h.2 hb zr⟩) ⟨(by(iterate 5 refine b9 (by assumption) ?_);exact gy),aT.below wW ((zb wr).drew) zr⟩ ⟨rfl,rfl,trivial⟩ ?_ ?_
         · iterate 34
            refine And.intro ?_ ?_
            · first
              | exact dr (by kernel_rfl) rfl
              | exact oe rfl rfl (by kernel_rfl)
              | exact eX rfl (by kernel_rfl) (by kernel_rfl) rfl rfl
              | exact gN rfl (by kernel_rfl) rfl rfl (λw=>by simp[go_sem])
              | exact iC rfl (by kernel_rfl) rfl rfl rfl (λw=>by simp[go_sem,hlt])
              | exact gv rfl (by kernel_rfl) rfl rfl (λw hS=>by simp[go_sem,(hS.1.get 0 rfl),(hS.1.get 1 rfl),(hS.1.get 2 rfl),(hS.1.get 3 rfl),(hS.1.get 4 rfl)])
              | exact eW rfl (by kernel_rfl) rfl rfl rfl (λw=>by simp[go_sem])
              | exact er (s1:=.eq (str x.name)) rfl (enters_of Tryz.func87 (by kernel_rfl) rfl) (by kernel_rfl) rfl (by kernel_rfl) (λv wx hS h1=>by rw[show v=str x.name from h1];exact(aG x.name wx hxl).mono (by rintro e w' ⟨rfl,hb⟩;exact⟨_,rfl,(show Value.bool (isName x.name)=.bool true by rw[hn]),hb⟩))
              | exact gu (s1:=.eq (.agg #[.bool x.sig.iter,av,str x.sig.res,sv])) (s2:=.eq (.bool true)) rfl (enters_of Tryz.func90 (by kernel_rfl) rfl) (by kernel_rfl) rfl (by kernel_rfl) (by kernel_rfl) (λv v2 wx hS h1 h2=>by rw[show v=.agg #[.bool x.sig.iter,av,str x.sig.res,sv] from h1,show v2=.bool true from h2];exact(iI _ x.sig true wx hS.2).mono (by rintro e w' ⟨rfl,hb⟩;exact⟨_,rfl,(show Value.bool (cZ x.sig true)=.bool _ by rw[zB]),hb⟩))
           exact trivial
         · intro aE wE mo fM _
           simp only[pq,pz,pw];go_wp2_with fail;exact⟨⟨1,hlt,by go_num,hb.trans (af fM hb.size),GI.out,by simpa using AQ.out⟩,by simp only[intOf];omega⟩
     · obtain ⟨j, hj⟩ : ∃ j, i = j + 1 := ⟨i - 1, by omega⟩
       obtain⟨y,j8⟩:∃y,l[j]? =some y:=⟨_,List.getElem?_eq_getElem (by omega)⟩
       obtain⟨b2,o2,_,_,e2,_,_,_,_,od,_⟩:=sG.at j8;simp only[Option.some.injEq,Addr.mk.injEq,and_true] at e2;obtain⟨rfl,rfl⟩:=e2;have hj0:0<i:=by omega
       have hj1:(i:Int) - 1=(j:Int):=by omega
       have hjl:j<l.length:=by omega
       have JP:=yP (j:=j) (by omega);have hp:fV (l.map (·.name)) i=some y.name:=by rw[hj];exact vq j8
       rcases hless:Op.bytesLess y.name x.name with _|_
       · have HX := zh (xR (show eY (l.map (·.name)) = false by rw [yV, hp]; simp [hless]))
         clear yV hd2 hkx j8 hj hp;go_upto_region 6 with fail;refine dK (D:=Any) 33 [(0,vL b1 o1 l.length c),(3,vI i)] [vL b1 o1 l.length c,vI i,vP b1 (o1+i * 5),vP b1 (o1+i * 5),vT x.name,vY,vN,vN,vI i,vY,vY,vL b1 o1 l.length c,vI i,vI j,vP b1 (o1+j * 5),vP b1 (o1+j * 5),vT y.name,vL b1 o1 l.length c,vI i,vP b1 (o1+i * 5),vP b1 (o1+i * 5),vT x.name,vY,vY,vY,vY,vK,vK,vK,vK,vK,vK,vK,vY] (aZ [(⟨b1,o1+i * 5,none⟩,str x.name),(⟨b1,o1+j * 5,none⟩,str y.name)]) (by kernel_rfl) rfl (λ_ _ h hb=>h.below hb) (by(iterate 2 refine b9 (by assumption) ?_);exact gy) ⟨rfl,rfl,trivial⟩ ?_ ?_
         · iterate 34
            refine And.intro ?_ ?_
            · first
              | exact dr (by kernel_rfl) rfl
              | exact oe rfl rfl (by kernel_rfl)
              | exact eX rfl (by kernel_rfl) (by kernel_rfl) rfl rfl
              | exact gN rfl (by kernel_rfl) rfl rfl (λw=>by simp[go_sem])
              | exact iC rfl (by kernel_rfl) rfl rfl rfl (λw=>by simp[go_sem,hlt,hjl])
              | exact gv rfl (by kernel_rfl) rfl rfl (λw hS=>by simp[go_sem,(hS.get 0 rfl),(hS.get 1 rfl)])
              | exact eW rfl (by kernel_rfl) rfl rfl rfl (λw=>by simp[go_sem,hj0,hj1,JP,hless])
              | exact er (s1:=.eq (str x.name)) rfl (enters_of Tryz.func87 (by kernel_rfl) rfl) (by kernel_rfl) rfl (by kernel_rfl) (λv wx hS h1=>by rw[show v=str x.name from h1];exact(aG x.name wx hxl).mono (by rintro e w' ⟨rfl,hb⟩;exact⟨_,rfl,(show Value.bool (isName x.name)=.bool true by rw[hn]),hb⟩))
           exact trivial
         · intro aE wE mo fM _
           simp only[pq,pz,pw];go_wp2_with fail;go_ret;exact⟨by rw[HX.out];rfl,hb.trans (af fM hb.size)⟩
       · have GI := zh (show eY (l.map (·.name)) = kM (fV (l.map (·.name)) (i + 1)) ((l.map (·.name)).drop (i + 1)) by rw [yV, hp]; simp [hless, fV, vq hkx])
         rcases zB:cZ x.sig true with _|_
         · rw [zB] at hd2
           have HX:=zh (xS hd2);clear yV hd2 hkx j8 hj hp;go_upto_region 6 with fail;refine dK (D:=Any) 33 [(0,vL b1 o1 l.length c),(3,vI i)] [vL b1 o1 l.length c,vI i,vP b1 (o1+i * 5),vP b1 (o1+i * 5),vT x.name,vY,vN,vN,vI i,vY,vY,vL b1 o1 l.length c,vI i,vI j,vP b1 (o1+j * 5),vP b1 (o1+j * 5),vT y.name,vL b1 o1 l.length c,vI i,vP b1 (o1+i * 5),vP b1 (o1+i * 5),vT x.name,vN,vN,vN,vN,vL b1 o1 l.length c,vI i,vP b1 (o1+i * 5),vP b1 (o1+i * 5+1),.eq (.agg #[.bool x.sig.iter,av,str x.sig.res,sv]),vN,vY,vY] (λw'=>aZ [(⟨b1,o1+i * 5,none⟩,str x.name),(⟨b1,o1+i * 5+1,none⟩,.bool x.sig.iter),(⟨b1,o1+i * 5+2,none⟩,av),(⟨b1,o1+i * 5+3,none⟩,str x.sig.res),(⟨b1,o1+i * 5+4,none⟩,sv),(⟨b1,o1+j * 5,none⟩,str y.name)] w'∧aT Any w' (.agg #[.bool x.sig.iter,av,str x.sig.res,sv]) x.sig) (by kernel_rfl) rfl (λ_ _ h hb=>⟨h.1.below hb,aT.below h.2 hb zr⟩) ⟨(by(iterate 6 refine b9 (by assumption) ?_);exact gy),aT.below wW ((zb wr).drew) zr⟩ ⟨rfl,rfl,trivial⟩ ?_ ?_
           · iterate 34
              refine And.intro ?_ ?_
              · first
                | exact dr (by kernel_rfl) rfl
                | exact oe rfl rfl (by kernel_rfl)
                | exact eX rfl (by kernel_rfl) (by kernel_rfl) rfl rfl
                | exact gN rfl (by kernel_rfl) rfl rfl (λw=>by simp[go_sem])
                | exact iC rfl (by kernel_rfl) rfl rfl rfl (λw=>by simp[go_sem,hlt,hjl])
                | exact gv rfl (by kernel_rfl) rfl rfl (λw hS=>by simp[go_sem,(hS.1.get 0 rfl),(hS.1.get 1 rfl),(hS.1.get 2 rfl),(hS.1.get 3 rfl),(hS.1.get 4 rfl),(hS.1.get 5 rfl)])
                | exact eW rfl (by kernel_rfl) rfl rfl rfl (λw=>by simp[go_sem,hj0,hj1,JP,hless])
                | exact er (s1:=.eq (str x.name)) rfl (enters_of Tryz.func87 (by kernel_rfl) rfl) (by kernel_rfl) rfl (by kernel_rfl) (λv wx hS h1=>by rw[show v=str x.name from h1];exact(aG x.name wx hxl).mono (by rintro e w' ⟨rfl,hb⟩;exact⟨_,rfl,(show Value.bool (isName x.name)=.bool true by rw[hn]),hb⟩))
                | exact gu (s1:=.eq (.agg #[.bool x.sig.iter,av,str x.sig.res,sv])) (s2:=.eq (.bool true)) rfl (enters_of Tryz.func90 (by kernel_rfl) rfl) (by kernel_rfl) rfl (by kernel_rfl) (by kernel_rfl) (λv v2 wx hS h1 h2=>by rw[show v=.agg #[.bool x.sig.iter,av,str x.sig.res,sv] from h1,show v2=.bool true from h2];exact(iI _ x.sig true wx hS.2).mono (by rintro e w' ⟨rfl,hb⟩;exact⟨_,rfl,(show Value.bool (cZ x.sig true)=.bool _ by rw[zB]),hb⟩))
             exact trivial
           · intro aE wE mo fM _
             simp only[pq,pz,pw];go_wp2_with fail;go_ret;exact⟨by rw[HX.out];rfl,hb.trans (af fM hb.size)⟩
         · rw [zB] at hd2
           have AQ:=zh hd2;clear yV hd2 hkx j8 hj hp;go_upto_region 6 with fail;refine dK (D:=Any) 33 [(0,vL b1 o1 l.length c),(3,vI i)] [vL b1 o1 l.length c,vI i,vP b1 (o1+i * 5),vP b1 (o1+i * 5),vT x.name,vY,vN,vN,vI i,vY,vY,vL b1 o1 l.length c,vI i,vI j,vP b1 (o1+j * 5),vP b1 (o1+j * 5),vT y.name,vL b1 o1 l.length c,vI i,vP b1 (o1+i * 5),vP b1 (o1+i * 5),vT x.name,vN,vN,vN,vN,vL b1 o1 l.length c,vI i,vP b1 (o1+i * 5),vP b1 (o1+i * 5+1),.eq (.agg #[.bool x.sig.iter,av,str x.sig.res,sv]),vY,vN,vN] (λw'=>aZ [(⟨b1,o1+i * 5,none⟩,str x.name),(⟨b1,o1+i * 5+1,none⟩,.bool x.sig.iter),(⟨b1,o1+i * 5+2,none⟩,av),(⟨b1,o1+i * 5+3,none⟩,str x.sig.res),(⟨b1,o1+i * 5+4,none⟩,sv),(⟨b1,o1+j * 5,none⟩,str y.name)] w'∧aT Any w' (.agg #[.bool x.sig.iter,av,str x.sig.res,sv]) x.sig) (by kernel_rfl) rfl (λ_ _ h hb=>⟨h.1.below hb,aT.below h.2 hb zr⟩) ⟨(by(iterate 6 refine b9 (by assumption) ?_);exact gy),aT.below wW ((zb wr).drew) zr⟩ ⟨rfl,rfl,trivial⟩ ?_ ?_
           · iterate 34
              refine And.intro ?_ ?_
              · first
                | exact dr (by kernel_rfl) rfl
                | exact oe rfl rfl (by kernel_rfl)
                | exact eX rfl (by kernel_rfl) (by kernel_rfl) rfl rfl
                | exact gN rfl (by kernel_rfl) rfl rfl (λw=>by simp[go_sem])
                | exact iC rfl (by kernel_rfl) rfl rfl rfl (λw=>by simp[go_sem,hlt,hjl])
                | exact gv rfl (by kernel_rfl) rfl rfl (λw hS=>by simp[go_sem,(hS.1.get 0 rfl),(hS.1.get 1 rfl),(hS.1.get 2 rfl),(hS.1.get 3 rfl),(hS.1.get 4 rfl),(hS.1.get 5 rfl)])
                | exact eW rfl (by kernel_rfl) rfl rfl rfl (λw=>by simp[go_sem,hj0,hj1,JP,hless])
                | exact er (s1:=.eq (str x.name)) rfl (enters_of Tryz.func87 (by kernel_rfl) rfl) (by kernel_rfl) rfl (by kernel_rfl) (λv wx hS h1=>by rw[show v=str x.name from h1];exact(aG x.name wx hxl).mono (by rintro e w' ⟨rfl,hb⟩;exact⟨_,rfl,(show Value.bool (isName x.name)=.bool true by rw[hn]),hb⟩))
                | exact gu (s1:=.eq (.agg #[.bool x.sig.iter,av,str x.sig.res,sv])) (s2:=.eq (.bool true)) rfl (enters_of Tryz.func90 (by kernel_rfl) rfl) (by kernel_rfl) rfl (by kernel_rfl) (by kernel_rfl) (λv v2 wx hS h1 h2=>by rw[show v=.agg #[.bool x.sig.iter,av,str x.sig.res,sv] from h1,show v2=.bool true from h2];exact(iI _ x.sig true wx hS.2).mono (by rintro e w' ⟨rfl,hb⟩;exact⟨_,rfl,(show Value.bool (cZ x.sig true)=.bool _ by rw[zB]),hb⟩))
             exact trivial
           · intro aE wE mo fM _
             simp only[pq,pz,pw];go_wp2_with fail;exact⟨⟨i+1,hlt,by go_num,hb.trans (af fM hb.size),GI.out,by simpa using AQ.out⟩,by simp only[intOf];omega⟩
theorem Du {f:aA} (h:(isName f.name&&(decide (1≤f.kind)&&(decide (f.kind≤3)&&(aU f.ag&&(f.par||f.ag.isEmpty)))))=false):iL f=42:=by
 apply kW
 rw[kX]
 revert h
 cases isName f.name<;>cases decide (1≤f.kind)<;>cases decide (f.kind≤3)<;>cases aU f.ag<;>cases (f.par||f.ag.isEmpty)<;>simp
theorem s8 {f:aA} (h:(decide (1≤f.ops.length)&&decide (f.ops.length≤20))=false):iL f=42:=by
 apply kW
 rw[kX]
 revert h
 cases decide (1≤f.ops.length)<;>cases decide (f.ops.length≤20)<;>simp
theorem lQ {f:aA} (h:(fu f.par [] f.ops&&iy f)=false):iL f=42:=by
 apply kW
 rw[kX,h]
 simp
theorem Dv {f:aA} (h1:(isName f.name&&(decide (1≤f.kind)&&(decide (f.kind≤3)&&(aU f.ag&&(f.par||f.ag.isEmpty)))))=true) (h2:(decide (1≤f.ops.length)&&decide (f.ops.length≤20))=true) (h3:(fu f.par [] f.ops&&iy f)=true):iL f=0:=by
 apply sZ
 rw[kX]
 simp only[Bool.and_eq_true] at h1 h2 h3 ⊢
 exact⟨h1.1,h1.2.1,h1.2.2.1,h1.2.2.2.1,h1.2.2.2.2,h2.1,h2.2,h3⟩
theorem xD (k:Nat):(((k:Int)==2):Bool)=decide (k=2):=by
 by_cases h:k=2
 · subst h;rfl
 · rw[decide_eq_false h,beq_eq_false_iff_ne];omega
set_option maxRecDepth 8000 in
theorem Aq {D:Nat→Prop} (v:Value) (f:aA) (w:World) (hv:dO D w v f)
 (je:(isName f.name&&(decide (1≤f.kind)&&(decide (f.kind≤3)&&(aU f.ag&&(f.par||f.ag.isEmpty)))))=false):
 Calls Tryz.prog 39 #[v] w λe w'=>e=.returned (.int .i64 42)∧Below w.heap.size w w':=by
 obtain⟨nv,ov,rfl,hnl,h1,h2⟩:=hv
 have HN:=λW=>aG f.name W hnl
 have HD:=λW (hW:Below w.heap.size w W)=>lD f.ag nv W (h1.below hW zr)
 obtain⟨p1,c1,rfl,_⟩:=h1.shape
 obtain⟨p2,c2,rfl,_⟩:=h2.shape
 obtain⟨name,kind,par,ag,ops⟩:=f
 dsimp only at *
 have hB:=((zb w).alloc zr (.cells #[str name,.int .u8 kind,.bool par,.slice p1 ag.length c1,.slice p2 ops.length c2] 58))
 have hg:=heap_alloc_new w (.cells #[str name,.int .u8 kind,.bool par,.slice p1 ag.length c1,.slice p2 ops.length c2] 58)
 have bx:=(bz hg).1
 clear h1 h2
 rcases k1:isName name with _|_
 · rw[k1] at HN
   clear je;go_enter Tryz.func39,Tryz.ntmps39;go_wp2_with (go_at_call 87;refine(HN _).mono ?_;clear HN;rintro e w1 ⟨rfl,au⟩;have hB:=hB.trans (af au hB.size));go_ret;exact⟨rfl,hB⟩
 rw[k1] at HN je
 by_cases k2:1≤kind
 case neg=>
  have g:(kind:Int)<1:=by omega
  clear je;go_enter Tryz.func39,Tryz.ntmps39;go_wp2_with (go_at_call 87;refine(HN _).mono ?_;clear HN;rintro e w1 ⟨rfl,au⟩;have hg:=ah hg au;have bx:=(bz hg).1;have hB:=hB.trans (af au hB.size));go_ret;exact⟨rfl,hB⟩
 have g2:¬(kind:Int)<1:=by omega
 have b2:decide ((kind:Int)<1)=false:=decide_eq_false g2
 by_cases k3:kind≤3
 case neg=>
  have g:(3:Int)<(kind:Int):=by omega
  clear je;go_enter Tryz.func39,Tryz.ntmps39;go_wp2_with (go_at_call 87;refine(HN _).mono ?_;clear HN;rintro e w1 ⟨rfl,au⟩;have hg:=ah hg au;have bx:=(bz hg).1;have hB:=hB.trans (af au hB.size));go_ret;exact⟨rfl,hB⟩
 have g3:¬(3:Int)<(kind:Int):=by omega
 have b3:decide ((3:Int)<(kind:Int))=false:=decide_eq_false g3
 rcases k4:aU ag with _|_
 · rw[k4] at HD
   clear je;go_enter Tryz.func39,Tryz.ntmps39;go_wp2_with (first
    | (go_at_call 87;refine(HN _).mono ?_;clear HN;rintro e w1 ⟨rfl,au⟩;have hg:=ah hg au;have bx:=(bz hg).1;have hB:=hB.trans (af au hB.size))
    | (go_at_call 80;refine(HD _ hB).mono ?_;clear HD;rintro e w2 ⟨rfl,aC⟩;have hB:=hB.trans (af aC hB.size)))
   go_ret;exact⟨rfl,hB⟩
 rw[k4,decide_eq_true k2,decide_eq_true k3] at je
 simp only[Bool.true_and,Bool.or_eq_false_iff] at je
 obtain⟨rfl,k5⟩:=je
 have k5:0<ag.length:=by cases ag with|nil=>simp at k5|cons=>simp
 have g5:(0:Int)<(ag.length:Int):=by omega
 rw[k4] at HD
 go_enter Tryz.func39,Tryz.ntmps39
 go_wp2_with (first
  | (go_at_call 87;refine(HN _).mono ?_;clear HN;rintro e w1 ⟨rfl,au⟩;have hg:=ah hg au;have bx:=(bz hg).1;have hB:=hB.trans (af au hB.size))
  | (go_at_call 80;refine(HD _ hB).mono ?_;clear HD;rintro e w2 ⟨rfl,aC⟩;have hg:=ah hg aC;have bx:=(bz hg).1;have hB:=hB.trans (af aC hB.size)))
 go_ret
 exact⟨rfl,hB⟩
set_option maxRecDepth 8000 in
theorem l8 {D:Nat→Prop} (v:Value) (f:aA) (w:World) (hv:dO D w v f) (hok:(isName f.name&&(decide (1≤f.kind)&&(decide (f.kind≤3)&&(aU f.ag&&(f.par||f.ag.isEmpty)))))=true)
 (hk:f.kind≠3) (hx:f.ops.length≠1∨∃o,f.ops=[o]∧(o.name≠f.name∨(o.name=f.name∧o.sig.iter≠decide (f.kind=2)))):
 Calls Tryz.prog 39 #[v] w λe w'=>e=.returned (.int .i64 42)∧Below w.heap.size w w':=by
 obtain⟨nv,ov,rfl,hnl,h1,h2⟩:=hv
 have HN:=λW=>aG f.name W hnl
 have HD:=λW (hW:Below w.heap.size w W)=>lD f.ag nv W (h1.below hW zr)
 obtain⟨p1,c1,rfl,_⟩:=h1.shape
 obtain⟨p2,c2,rfl,_,hm2,hle⟩:=h2.shape
 obtain⟨name,kind,par,ag,ops⟩:=f
 dsimp only at *
 simp only[Bool.and_eq_true,decide_eq_true_eq] at hok
 obtain⟨k1,k2,k3,k4,k5⟩:=hok
 rw[k1] at HN
 rw[k4] at HD
 have hB:=((zb w).alloc zr (.cells #[str name,.int .u8 kind,.bool par,.slice p1 ag.length c1,.slice p2 ops.length c2] 58))
 have hg:=heap_alloc_new w (.cells #[str name,.int .u8 kind,.bool par,.slice p1 ag.length c1,.slice p2 ops.length c2] 58)
 have bx:=(bz hg).1
 have g2:¬(kind:Int)<1:=by omega
 have b2:decide ((kind:Int)<1)=false:=decide_eq_false g2
 have g3:¬(3:Int)<(kind:Int):=by omega
 have b3:decide ((3:Int)<(kind:Int))=false:=decide_eq_false g3
 have g5:ag=[]∨(0<ag.length∧par=true):=by
  cases ag with
  | nil=>exact .inl rfl
  | cons a l=>exact .inr ⟨by simp,by simpa using k5⟩
 clear h1 k1 k2 k3 k4 k5
 unfold maxLen at hm2
 rcases g5 with rfl|⟨g5,rfl⟩
 all_goals
  try simp only[List.length_nil] at hB hg bx HD ⊢
  go_enter Tryz.func39,Tryz.ntmps39;go_upto_region 3 with(first
   | (go_at_call 87;refine(HN _).mono ?_;clear HN;rintro e w1 ⟨rfl,au⟩;have hg:=ah hg au;have bx:=(bz hg).1;have GU:=hB.trans (af au hB.size))
   | (go_at_call 80;refine(HD _ GU).mono ?_;clear HD;rintro e w2 ⟨rfl,aC⟩;have hg:=ah hg aC;have bx:=(bz hg).1;have hBb:=GU.trans (af aC GU.size)))
  obtain⟨m0,m1,m2,m3,m4⟩:=bx;have yW:¬((kind:Int)=3):=by omega
  rcases hx with hx|⟨o,ho,hx|⟨hx1,hx2⟩⟩
  · have hl1 : ¬ ((ops.length : Int) = 1) := by omega
    refine dK (D:=Any) (w:=w2) 30 [(1,vP w.heap.size 0)] [vP w.heap.size 1,.eq (.int .u8 kind),vY,vY,vP w.heap.size 4,.eq (.slice p2 ops.length c2),vI ops.length,vY,vY,vK,vK,vK,vK,vK,vK,vK,vK,vY,vY,vK,vK,vK,vK,vK,vK,vK,vK,vK,vK,vY,vY] (aZ [(⟨w.heap.size,1,none⟩,.int .u8 kind),(⟨w.heap.size,4,none⟩,.slice p2 ops.length c2)]) (by kernel_rfl) rfl (λ_ _ h hb=>h.below hb) (by(iterate 2 refine b9 (by assumption) ?_);exact gy) ⟨rfl,trivial⟩ ?_ ?_
    · iterate 31
       refine And.intro ?_ ?_
       · first
         | exact dr (by kernel_rfl) rfl
         | exact oe rfl rfl (by kernel_rfl)
         | exact eX rfl (by kernel_rfl) (by kernel_rfl) rfl rfl
         | exact gN rfl (by kernel_rfl) rfl rfl (λw=>by simp[go_sem])
         | exact iC rfl (by kernel_rfl) rfl rfl rfl (λw=>by simp[go_sem])
         | exact gv rfl (by kernel_rfl) rfl rfl (λw hS=>by simp[go_sem,(hS.get 0 rfl),(hS.get 1 rfl)])
         | exact eW rfl (by kernel_rfl) rfl rfl rfl (λw=>by simp[go_sem,yW,hl1])
      exact trivial
    · intro aE wE mo fM _
      simp only[pq,pz,pw];go_wp2_with fail;go_ret;exact⟨rfl,hBb.trans (af fM hBb.size)⟩
  · have h0 : ops[0]? = some o := by rw [ho]; rfl
    obtain⟨b2,o2,av,sv,rfl,_,_,_,_,d0,d1,_⟩:=h2.at h0;rw[Nat.zero_mul,Nat.add_zero] at d0 d1;have d0:=Below.keep hBb d0;have hl1:ops.length=1:=by rw[ho];rfl
    refine dK (D:=Any) (w:=w2) 30 [(1,vP w.heap.size 0)] [vP w.heap.size 1,.eq (.int .u8 kind),vY,vY,vP w.heap.size 4,vL b2 o2 ops.length c2,vI ops.length,vN,vN,vP w.heap.size 4,vL b2 o2 ops.length c2,vP b2 o2,vP b2 o2,vT o.name,vP w.heap.size 0,vT name,vY,vY,vY,vK,vK,vK,vK,vK,vK,vK,vK,vK,vK,vY,vY] (aZ [(⟨w.heap.size,0,none⟩,str name),(⟨w.heap.size,1,none⟩,.int .u8 kind),(⟨w.heap.size,4,none⟩,.slice (some ⟨b2,o2,none⟩) ops.length c2),(⟨b2,o2,none⟩,str o.name)]) (by kernel_rfl) rfl (λ_ _ h hb=>h.below hb) (by(iterate 4 refine b9 (by assumption) ?_);exact gy) ⟨rfl,trivial⟩ ?_ ?_
    · iterate 31
       refine And.intro ?_ ?_
       · first
         | exact dr (by kernel_rfl) rfl
         | exact oe rfl rfl (by kernel_rfl)
         | exact eX rfl (by kernel_rfl) (by kernel_rfl) rfl rfl
         | exact gN rfl (by kernel_rfl) rfl rfl (λw=>by simp[go_sem])
         | exact iC rfl (by kernel_rfl) rfl rfl rfl (λw=>by simp[go_sem,hl1])
         | exact gv rfl (by kernel_rfl) rfl rfl (λw hS=>by simp[go_sem,(hS.get 0 rfl),(hS.get 1 rfl),(hS.get 2 rfl),(hS.get 3 rfl)])
         | exact eW rfl (by kernel_rfl) rfl rfl rfl (λw=>by simp[go_sem,yW,hl1,hx])
      exact trivial
    · intro aE wE mo fM _
      simp only[pq,pz,pw];go_wp2_with fail;go_ret;exact⟨rfl,hBb.trans (af fM hBb.size)⟩
  · have h0 : ops[0]? = some o := by rw [ho]; rfl
    obtain⟨b2,o2,av,sv,rfl,_,_,_,_,d0,d1,_⟩:=h2.at h0;rw[Nat.zero_mul,Nat.add_zero] at d0 d1;have d0:=Below.keep hBb d0;have d1:=Below.keep hBb d1;have hl1:ops.length=1:=by rw[ho];rfl
    have hk2:=xD kind;refine dK (D:=Any) (w:=w2) 30 [(1,vP w.heap.size 0)] [vP w.heap.size 1,.eq (.int .u8 kind),vY,vY,vP w.heap.size 4,vL b2 o2 ops.length c2,vI ops.length,vN,vN,vP w.heap.size 4,vL b2 o2 ops.length c2,vP b2 o2,vP b2 o2,vT o.name,vP w.heap.size 0,vT name,vN,vN,vN,vP w.heap.size 4,vL b2 o2 ops.length c2,vP b2 o2,vP b2 (o2+1),vP b2 (o2+1),.eq (.bool o.sig.iter),vP w.heap.size 1,.eq (.int .u8 kind),.eq (.bool (decide (kind=2))),vY,vY,vY] (aZ [(⟨w.heap.size,0,none⟩,str name),(⟨w.heap.size,1,none⟩,.int .u8 kind),(⟨w.heap.size,4,none⟩,.slice (some ⟨b2,o2,none⟩) ops.length c2),(⟨b2,o2,none⟩,str o.name),(⟨b2,o2+1,none⟩,.bool o.sig.iter)]) (by kernel_rfl) rfl (λ_ _ h hb=>h.below hb) (by(iterate 5 refine b9 (by assumption) ?_);exact gy) ⟨rfl,trivial⟩ ?_ ?_
    · iterate 31
       refine And.intro ?_ ?_
       · first
         | exact dr (by kernel_rfl) rfl
         | exact oe rfl rfl (by kernel_rfl)
         | exact eX rfl (by kernel_rfl) (by kernel_rfl) rfl rfl
         | exact gN rfl (by kernel_rfl) rfl rfl (λw=>by simp[go_sem])
         | exact iC rfl (by kernel_rfl) rfl rfl rfl (λw=>by simp[go_sem,hl1])
         | exact gv rfl (by kernel_rfl) rfl rfl (λw hS=>by simp[go_sem,(hS.get 0 rfl),(hS.get 1 rfl),(hS.get 2 rfl),(hS.get 3 rfl),(hS.get 4 rfl)])
         | exact eW rfl (by kernel_rfl) rfl rfl rfl (λw=>by simp[go_sem,yW,hl1,hx1,hx2,hk2])
      exact trivial
    · intro aE wE mo fM _
      simp only[pq,pz,pw];go_wp2_with fail;go_ret;exact⟨rfl,hBb.trans (af fM hBb.size)⟩
theorem Gg {par:Bool} {l:List aL} {i k:Nat} {x y:aL} (hx:l[i]? =some x) (hy:l[k]? =some y) (hk:k<i) (h:y.name=x.name):fu par ((l.take i).map (·.name)) (l.drop i)=false:=by
 rw[bp hx]
 refine xX ?_
 have:x.name∈(l.take i).map (·.name):=List.mem_map.2 ⟨y,List.mem_of_getElem? (i:=k) (by rw[List.getElem?_take_of_lt hk];exact hy),h⟩
 unfold hasB
 simpa using this
theorem Gh {l:List aL} {i:Nat} {x:aL} (h:∀y∈l.take i,y.name≠x.name):hasB ((l.take i).map (·.name)) x.name=false:=by
 unfold hasB
 rw[List.contains_eq_any_beq,List.any_eq_false]
 intro z hz e
 obtain⟨y,hy,rfl⟩:=List.mem_map.1 hz
 have:x.name=y.name:=by simpa using e
 exact h y hy this.symm
set_option maxRecDepth 8000 in
theorem EH {D : Nat → Prop} (v : Value) (f : aA) (w : World) (hv : dO D w v f) (hok : (isName f.name && (decide (1 ≤ f.kind) && (decide (f.kind ≤ 3) && (aU f.ag && (f.par || f.ag.isEmpty))))) = true)
 (hk:f.kind=3∨(f.kind≠3∧∃o,f.ops=[o]∧o.name=f.name∧o.sig.iter=decide (f.kind=2))):
 Calls Tryz.prog 39 #[v] w λe w'=>e=.returned (.int .i64 (if(decide (1≤f.ops.length)&&decide (f.ops.length≤20))=true then(if fu f.par [] f.ops=true then 0 else 42) else 42:Nat))∧Below w.heap.size w w':=by
 obtain⟨nv,ov,rfl,hnl,h1,h2⟩:=hv
 have HN:=λW=>aG f.name W hnl
 have HD:=λW (hW:Below w.heap.size w W)=>lD f.ag nv W (h1.below hW zr)
 obtain⟨p1,c1,rfl,_⟩:=h1.shape
 obtain⟨p2,c2,rfl,_,hm2,hle⟩:=h2.shape
 obtain⟨name,kind,par,ag,ops⟩:=f
 dsimp only at *
 simp only[Bool.and_eq_true,decide_eq_true_eq] at hok
 obtain⟨k1,k2,k3,k4,k5⟩:=hok
 rw[k1] at HN
 rw[k4] at HD
 have hB:=((zb w).alloc zr (.cells #[str name,.int .u8 kind,.bool par,.slice p1 ag.length c1,.slice p2 ops.length c2] 58))
 have hg:=heap_alloc_new w (.cells #[str name,.int .u8 kind,.bool par,.slice p1 ag.length c1,.slice p2 ops.length c2] 58)
 have bx:=(bz hg).1
 have g2:¬(kind:Int)<1:=by omega
 have b2:decide ((kind:Int)<1)=false:=decide_eq_false g2
 have g3:¬(3:Int)<(kind:Int):=by omega
 have b3:decide ((3:Int)<(kind:Int))=false:=decide_eq_false g3
 have g5:ag=[]∨(0<ag.length∧par=true):=by
  cases ag with
  | nil=>exact .inl rfl
  | cons a l=>exact .inr ⟨by simp,by simpa using k5⟩
 clear h1 k1 k2 k3 k4 k5
 unfold maxLen at hm2
 have O3:=h2.fresh
 obtain⟨pP,FR⟩:∃z:Bool,z=par:=⟨_,rfl⟩
 obtain⟨RS,hRS⟩:∃RS:Nat,RS=(if(decide (1≤ops.length)&&decide (ops.length≤20))=true then(if fu par [] ops=true then 0 else 42) else 42):=⟨_,rfl⟩
 rw[←hRS]
 have LN:=zh (show RS=(if(decide (1≤ops.length)&&decide (ops.length≤20))=true then(if fu pP [] ops=true then 0 else 42) else 42) by rw[FR];exact hRS)
 replace FR:=zh FR
 clear hRS
 rcases g5 with rfl|⟨g5,rfl⟩
 all_goals
  try simp only[List.length_nil] at hB hg bx HD ⊢
  go_enter Tryz.func39,Tryz.ntmps39;go_upto_region 3 with(first
   | (go_at_call 87;refine(HN _).mono ?_;clear HN;rintro e w1 ⟨rfl,au⟩;have hg:=ah hg au;have bx:=(bz hg).1;have GU:=hB.trans (af au hB.size))
   | (go_at_call 80;refine(HD _ GU).mono ?_;clear HD;rintro e w2 ⟨rfl,aC⟩;have hg:=ah hg aC;have bx:=(bz hg).1;have hBb:=GU.trans (af aC GU.size)))
  obtain⟨m0,m1,m2,m3,m4⟩:=bx
  go_cut [66] from 36 to 66 (λs wx=>s=.bool false∧Below w2.heap.size w2 wx)
  case first =>
   rcases hk with hk|⟨hk,o,ho,hx1,hx2⟩
   · have yW : (kind : Int) = 3 := by omega
     refine qj (D:=Any) (w:=w2) (d:=some 66) 30 [(1,vP w.heap.size 0)] [vP w.heap.size 1,.eq (.int .u8 kind),vN,vN,vK,vK,vK,vK,vK,vK,vK,vK,vK,vK,vK,vK,vK,vK,vK,vK,vK,vK,vK,vK,vK,vK,vK,vK,vK,vK,vN] (aZ [(⟨w.heap.size,1,none⟩,.int .u8 kind)]) (by kernel_rfl) rfl rfl (λ_ _ h hb=>h.below hb) (by(iterate 1 refine b9 (by assumption) ?_);exact gy) ⟨rfl,trivial⟩ ?_ ?_
     · iterate 31
        refine And.intro ?_ ?_
        · first
          | exact dr (by kernel_rfl) rfl
          | exact oe rfl rfl (by kernel_rfl)
          | exact eX rfl (by kernel_rfl) (by kernel_rfl) rfl rfl
          | exact gN rfl (by kernel_rfl) rfl rfl (λw=>by simp[go_sem])
          | exact iC rfl (by kernel_rfl) rfl rfl rfl (λw=>by simp[go_sem])
          | exact gv rfl (by kernel_rfl) rfl rfl (λw hS=>by simp[go_sem,(hS.get 0 rfl)])
          | exact eW rfl (by kernel_rfl) rfl rfl rfl (λw=>by simp[go_sem,yW])
       exact trivial
     · intro aE wE mo fM _
       simp only[pq,pz,pw];go_wp2_with fail
       go_meet
       exact⟨rfl,fM⟩
   · have yW : ¬ ((kind : Int) = 3) := by omega
     have h0:ops[0]? =some o:=by rw[ho];rfl
     obtain⟨b2,o2,av,sv,rfl,_,_,_,_,d0,d1,_⟩:=h2.at h0;rw[Nat.zero_mul,Nat.add_zero] at d0 d1;have d0:=Below.keep hBb d0;have d1:=Below.keep hBb d1;have hl1:ops.length=1:=by rw[ho];rfl
     have hk2:=xD kind;refine qj (D:=Any) (w:=w2) (d:=some 66) 30 [(1,vP w.heap.size 0)] [vP w.heap.size 1,.eq (.int .u8 kind),vY,vY,vP w.heap.size 4,vL b2 o2 ops.length c2,vI ops.length,vN,vN,vP w.heap.size 4,vL b2 o2 ops.length c2,vP b2 o2,vP b2 o2,vT o.name,vP w.heap.size 0,vT name,vN,vN,vN,vP w.heap.size 4,vL b2 o2 ops.length c2,vP b2 o2,vP b2 (o2+1),vP b2 (o2+1),.eq (.bool o.sig.iter),vP w.heap.size 1,.eq (.int .u8 kind),.eq (.bool (decide (kind=2))),vN,vN,vN] (aZ [(⟨w.heap.size,0,none⟩,str name),(⟨w.heap.size,1,none⟩,.int .u8 kind),(⟨w.heap.size,4,none⟩,.slice (some ⟨b2,o2,none⟩) ops.length c2),(⟨b2,o2,none⟩,str o.name),(⟨b2,o2+1,none⟩,.bool o.sig.iter)]) (by kernel_rfl) rfl rfl (λ_ _ h hb=>h.below hb) (by(iterate 5 refine b9 (by assumption) ?_);exact gy) ⟨rfl,trivial⟩ ?_ ?_
     · iterate 31
        refine And.intro ?_ ?_
        · first
          | exact dr (by kernel_rfl) rfl
          | exact oe rfl rfl (by kernel_rfl)
          | exact eX rfl (by kernel_rfl) (by kernel_rfl) rfl rfl
          | exact gN rfl (by kernel_rfl) rfl rfl (λw=>by simp[go_sem])
          | exact iC rfl (by kernel_rfl) rfl rfl rfl (λw=>by simp[go_sem,hl1])
          | exact gv rfl (by kernel_rfl) rfl rfl (λw hS=>by simp[go_sem,(hS.get 0 rfl),(hS.get 1 rfl),(hS.get 2 rfl),(hS.get 3 rfl),(hS.get 4 rfl)])
          | exact eW rfl (by kernel_rfl) rfl rfl rfl (λw=>by simp[go_sem,yW,hl1,hx1,hx2,hk2])
       exact trivial
     · intro aE wE mo fM _
       simp only[pq,pz,pw];go_wp2_with fail
       go_meet
       exact⟨rfl,fM⟩
  case rest =>
   obtain⟨rfl,fM⟩:=hcut;clear hk;have L7:=hBb.trans (af fM hBb.size);have n0:=Below.keep fM m0;have n2:wc.cell? ⟨w.heap.size,2,none⟩=some (.bool pP):=by rw[FR.out];exact Below.keep fM m2
   have n4:=Below.keep fM m4;clear fM au aC hBb GU m0 m1 m2 m3 m4 hg
   by_cases k6:1≤ops.length
   case neg=>
    have g6:(ops.length:Int)<1:=by omega
    have HX:=zh (show RS=42 by rw[LN.out];simp[k6]);clear k6;go_wp2_with fail;go_ret;exact⟨by rw[HX.out];rfl,L7⟩
   by_cases k7:ops.length≤20
   case neg=>
    have g7:(20:Int)<(ops.length:Int):=by omega
    have g6:¬(ops.length:Int)<1:=by omega
    have HX:=zh (show RS=42 by rw[LN.out];simp[k7]);go_wp2_with fail;go_ret;exact⟨by rw[HX.out];rfl,L7⟩
   have g7:¬(20:Int)<(ops.length:Int):=by omega
   have g6:¬(ops.length:Int)<1:=by omega
   have b6:decide ((ops.length:Int)<1)=false:=decide_eq_false g6;have QD:=zh (show fu pP [] ops=true→RS=0 by intro h;rw[LN.out,h];simp[k6,k7]);have Mv:=zh (show fu pP [] ops=false→RS=42 by intro h;rw[LN.out,h];simp);have HP:=zh (show fu pP [] ops=fu pP ((ops.take 0).map (·.name)) (ops.drop 0) from rfl);clear k6;go_wp2_with fail;go_loopw [3] (λa wx=>∃i:Nat,i≤ops.length∧a=.int .i64 i∧Below w.heap.size w wx∧Hid (fu pP [] ops=fu pP ((ops.take i).map (·.name)) (ops.drop i))∧wx.cell? ⟨w.heap.size,4,none⟩=some (.slice p2 ops.length c2)∧wx.cell? ⟨w.heap.size,2,none⟩=some (.bool pP)) (λa _=>ops.length - (intOf a).toNat)
   case atStart=>exact⟨0,Nat.zero_le _,by go_num,L7,HP,n4,n2⟩
   case round =>
    clear L7 n0 n2 n4 HP;obtain⟨i,hi,rfl,hb,hE,n4,n2⟩:=hrel
    by_cases hlt:i<ops.length
    case neg=>
     have HX:=zh (QD.out (by rw[hE.out,List.drop_eq_nil_of_le (by omega)];rfl));clear hE;go_wp2_with fail;go_ret;exact⟨by rw[HX.out];rfl,hb⟩
    case pos =>
     obtain⟨x,hkx⟩:∃x,ops[i]? =some x:=⟨_,List.getElem?_eq_getElem hlt⟩
     have sG:=O3.below hb zr;obtain⟨b1,o1,av,sv,rfl,_,⟨hxl,mI⟩,fe,eE,d0,d1,d2,d3,d4⟩:=sG.at hkx;have wW:aT Any wr (.agg #[.bool x.sig.iter,av,str x.sig.res,sv]) x.sig:=⟨_,_,rfl,mI,fe.mono λ_ _=>trivial,eE.mono λ_ _=>trivial⟩;have hd:=hE.out;rw[bp hkx] at hd;clear hE fe eE;rcases hn:isName x.name with _|_
     · have HX := zh (Mv.out (hd.trans (xY hn)))
       clear hd hkx;go_upto_region 10 with fail;refine dK (D:=Any) (w:=wr) 19 [(1,vP w.heap.size 0),(3,vI i)] [vP w.heap.size 4,vL b1 o1 ops.length c2,vI i,vP b1 (o1+i * 5),vP b1 (o1+i * 5),vT x.name,vN,vY,vY,vK,vK,vK,vK,vK,vK,vK,vK,vK,vK,vY] (aZ [(⟨w.heap.size,4,none⟩,.slice (some ⟨b1,o1,none⟩) ops.length c2),(⟨b1,o1+i * 5,none⟩,str x.name)]) (by kernel_rfl) rfl (λ_ _ h hb=>h.below hb) (by(iterate 2 refine b9 (by assumption) ?_);exact gy) ⟨rfl,rfl,trivial⟩ ?_ ?_
       · iterate 20
          refine And.intro ?_ ?_
          · first
            | exact dr (by kernel_rfl) rfl
            | exact oe rfl rfl (by kernel_rfl)
            | exact eX rfl (by kernel_rfl) (by kernel_rfl) rfl rfl
            | exact gN rfl (by kernel_rfl) rfl rfl (λw=>by simp[go_sem])
            | exact iC rfl (by kernel_rfl) rfl rfl rfl (λw=>by simp[go_sem,hlt])
            | exact gv rfl (by kernel_rfl) rfl rfl (λw hS=>by simp[go_sem,(hS.get 0 rfl),(hS.get 1 rfl)])
            | exact eW rfl (by kernel_rfl) rfl rfl rfl (λw=>by simp[go_sem])
            | exact er (s1:=.eq (str x.name)) rfl (enters_of Tryz.func87 (by kernel_rfl) rfl) (by kernel_rfl) rfl (by kernel_rfl) (λv wx hS h1=>by rw[show v=str x.name from h1];exact(aG x.name wx hxl).mono (by rintro e w' ⟨rfl,hb⟩;exact⟨_,rfl,(show Value.bool (isName x.name)=.bool false by rw[hn]),hb⟩))
         exact trivial
       · intro aE wc mo fM _
         simp only[pq,pz,pw];go_wp2_with fail;go_ret;exact⟨by rw[HX.out];rfl,hb.trans (af fM hb.size)⟩
     · rcases zB : cZ x.sig pP with _ | _
       · have HX := zh (Mv.out (hd.trans (xZ zB)))
         clear hd hkx;go_upto_region 10 with fail;refine dK (D:=Any) (w:=wr) 19 [(1,vP w.heap.size 0),(3,vI i)] [vP w.heap.size 4,vL b1 o1 ops.length c2,vI i,vP b1 (o1+i * 5),vP b1 (o1+i * 5),vT x.name,vY,vN,vN,vP w.heap.size 4,vL b1 o1 ops.length c2,vI i,vP b1 (o1+i * 5),vP b1 (o1+i * 5+1),.eq (.agg #[.bool x.sig.iter,av,str x.sig.res,sv]),vP w.heap.size 2,.eq (.bool pP),vN,vY,vY] (λw'=>aZ [(⟨w.heap.size,4,none⟩,.slice (some ⟨b1,o1,none⟩) ops.length c2),(⟨b1,o1+i * 5,none⟩,str x.name),(⟨w.heap.size,2,none⟩,.bool pP),(⟨b1,o1+i * 5+1,none⟩,.bool x.sig.iter),(⟨b1,o1+i * 5+2,none⟩,av),(⟨b1,o1+i * 5+3,none⟩,str x.sig.res),(⟨b1,o1+i * 5+4,none⟩,sv)] w'∧aT Any w' (.agg #[.bool x.sig.iter,av,str x.sig.res,sv]) x.sig) (by kernel_rfl) rfl (λ_ _ h hb=>⟨h.1.below hb,aT.below h.2 hb zr⟩) ⟨(by(iterate 7 refine b9 (by assumption) ?_);exact gy),aT.below wW ((zb wr).drew) zr⟩ ⟨rfl,rfl,trivial⟩ ?_ ?_
         · iterate 20
            refine And.intro ?_ ?_
            · first
              | exact dr (by kernel_rfl) rfl
              | exact oe rfl rfl (by kernel_rfl)
              | exact eX rfl (by kernel_rfl) (by kernel_rfl) rfl rfl
              | exact gN rfl (by kernel_rfl) rfl rfl (λw=>by simp[go_sem])
              | exact iC rfl (by kernel_rfl) rfl rfl rfl (λw=>by simp[go_sem,hlt])
              | exact gv rfl (by kernel_rfl) rfl rfl (λw hS=>by simp[go_sem,(hS.1.get 0 rfl),(hS.1.get 1 rfl),(hS.1.get 2 rfl),(hS.1.get 3 rfl),(hS.1.get 4 rfl),(hS.1.get 5 rfl),(hS.1.get 6 rfl)])
              | exact eW rfl (by kernel_rfl) rfl rfl rfl (λw=>by simp[go_sem])
              | exact er (s1:=.eq (str x.name)) rfl (enters_of Tryz.func87 (by kernel_rfl) rfl) (by kernel_rfl) rfl (by kernel_rfl) (λv wx hS h1=>by rw[show v=str x.name from h1];exact(aG x.name wx hxl).mono (by rintro e w' ⟨rfl,hb⟩;exact⟨_,rfl,(show Value.bool (isName x.name)=.bool true by rw[hn]),hb⟩))
              | exact gu (s1:=.eq (.agg #[.bool x.sig.iter,av,str x.sig.res,sv])) (s2:=.eq (.bool pP)) rfl (enters_of Tryz.func90 (by kernel_rfl) rfl) (by kernel_rfl) rfl (by kernel_rfl) (by kernel_rfl) (λv v2 wx hS h1 h2=>by rw[show v=.agg #[.bool x.sig.iter,av,str x.sig.res,sv] from h1,show v2=.bool pP from h2];exact(iI _ x.sig pP wx hS.2).mono (by rintro e w' ⟨rfl,hb⟩;exact⟨_,rfl,(show Value.bool (cZ x.sig pP)=.bool _ by rw[zB]),hb⟩))
           exact trivial
         · intro aE wc mo fM _
           simp only[pq,pz,pw];go_wp2_with fail;go_ret;exact⟨by rw[HX.out];rfl,hb.trans (af fM hb.size)⟩
       · have MA := zh (fun h => hd.trans (x8 (par := pP) (acc := (ops.take i).map (·.name)) (o := x) (l := ops.drop (i + 1)) h hn zB))
         have QC:=zh (λk y (hy:ops[k]? =some y) hk h=>Mv.out ((hd.trans (by rw[←bp hkx])).trans (Gg (par:=pP) hkx hy hk h)));have My:=zh (r6 hkx);have Ia:=zh (λh=>Gh (l:=ops) (i:=i) (x:=x) h);clear hd hkx;go_upto_region 10 with fail;refine dK (D:=Any) (w:=wr) 19 [(1,vP w.heap.size 0),(3,vI i)] [vP w.heap.size 4,vL b1 o1 ops.length c2,vI i,vP b1 (o1+i * 5),vP b1 (o1+i * 5),vT x.name,vY,vN,vN,vP w.heap.size 4,vL b1 o1 ops.length c2,vI i,vP b1 (o1+i * 5),vP b1 (o1+i * 5+1),.eq (.agg #[.bool x.sig.iter,av,str x.sig.res,sv]),vP w.heap.size 2,.eq (.bool pP),vY,vN,vN] (λw'=>aZ [(⟨w.heap.size,4,none⟩,.slice (some ⟨b1,o1,none⟩) ops.length c2),(⟨b1,o1+i * 5,none⟩,str x.name),(⟨w.heap.size,2,none⟩,.bool pP),(⟨b1,o1+i * 5+1,none⟩,.bool x.sig.iter),(⟨b1,o1+i * 5+2,none⟩,av),(⟨b1,o1+i * 5+3,none⟩,str x.sig.res),(⟨b1,o1+i * 5+4,none⟩,sv)] w'∧aT Any w' (.agg #[.bool x.sig.iter,av,str x.sig.res,sv]) x.sig) (by kernel_rfl) rfl (λ_ _ h hb=>⟨h.1.below hb,aT.below h.2 hb zr⟩) ⟨(by(iterate 7 refine b9 (by assumption) ?_);exact gy),aT.below wW ((zb wr).drew) zr⟩ ⟨rfl,rfl,trivial⟩ ?_ ?_
         · iterate 20
            refine And.intro ?_ ?_
            · first
              | exact dr (by kernel_rfl) rfl
              | exact oe rfl rfl (by kernel_rfl)
              | exact eX rfl (by kernel_rfl) (by kernel_rfl) rfl rfl
              | exact gN rfl (by kernel_rfl) rfl rfl (λw=>by simp[go_sem])
              | exact iC rfl (by kernel_rfl) rfl rfl rfl (λw=>by simp[go_sem,hlt])
              | exact gv rfl (by kernel_rfl) rfl rfl (λw hS=>by simp[go_sem,(hS.1.get 0 rfl),(hS.1.get 1 rfl),(hS.1.get 2 rfl),(hS.1.get 3 rfl),(hS.1.get 4 rfl),(hS.1.get 5 rfl),(hS.1.get 6 rfl)])
              | exact eW rfl (by kernel_rfl) rfl rfl rfl (λw=>by simp[go_sem])
              | exact er (s1:=.eq (str x.name)) rfl (enters_of Tryz.func87 (by kernel_rfl) rfl) (by kernel_rfl) rfl (by kernel_rfl) (λv wx hS h1=>by rw[show v=str x.name from h1];exact(aG x.name wx hxl).mono (by rintro e w' ⟨rfl,hb⟩;exact⟨_,rfl,(show Value.bool (isName x.name)=.bool true by rw[hn]),hb⟩))
              | exact gu (s1:=.eq (.agg #[.bool x.sig.iter,av,str x.sig.res,sv])) (s2:=.eq (.bool pP)) rfl (enters_of Tryz.func90 (by kernel_rfl) rfl) (by kernel_rfl) rfl (by kernel_rfl) (by kernel_rfl) (λv v2 wx hS h1 h2=>by rw[show v=.agg #[.bool x.sig.iter,av,str x.sig.res,sv] from h1,show v2=.bool pP from h2];exact(iI _ x.sig pP wx hS.2).mono (by rintro e w' ⟨rfl,hb⟩;exact⟨_,rfl,(show Value.bool (cZ x.sig pP)=.bool _ by rw[zB]),hb⟩))
           exact trivial
         · intro aE wc mo fM _
           simp only[pq,pz,pw];have hbb:=hb.trans (af fM hb.size);have e4:=Below.keep fM n4;have e2:=Below.keep fM n2;have f0:=Below.keep fM d0;clear fM n4 n2 hb d0 d1 d2 d3 d4 wW sG;go_wp2_with fail;go_loopw [4] (λa wx=>∃k:Nat,k≤i∧a=.int .i64 k∧Below w.heap.size w wx∧Hid (∀y∈ops.take k,y.name≠x.name)∧wx.cell? ⟨w.heap.size,4,none⟩=some (.slice (some ⟨b1,o1,none⟩) ops.length c2)∧wx.cell? ⟨w.heap.size,2,none⟩=some (.bool pP)∧wx.cell? ⟨b1,o1+i * 5,none⟩=some (str x.name)) (λa _=>i - (intOf a).toNat)
           case atStart=>exact⟨0,Nat.zero_le _,by go_num,hbb,(λy hy=>by simp at hy),e4,e2,f0⟩
           case round =>
            clear hbb e4 e2 f0;obtain⟨k,hk,rfl,hb,hA,n4,n2,d0⟩:=hrel
            by_cases hki:k<i
            case neg=>
             obtain rfl:k=i:=by omega
             have HX:=MA.out (Ia.out hA.out);rw[My.out] at HX;have HX:=zh HX;clear hA;go_wp2_with fail;exact⟨⟨k+1,hlt,by go_num,hb,HX,n4,n2⟩,by simp only[intOf];omega⟩
            case pos=>
             obtain⟨y,j8⟩:∃y,ops[k]? =some y:=⟨_,List.getElem?_eq_getElem (by omega)⟩
             obtain⟨b3,o3,_,_,e3,_,_,_,_,pZ,_⟩:=(O3.below hb zr).at j8;simp only[Option.some.injEq,Addr.mk.injEq,and_true] at e3;obtain⟨rfl,rfl⟩:=e3;have NU:k<ops.length:=by omega
             rcases heq:(y.name==x.name) with _|_
             · have Rt:Hid (∀z∈ops.take (k+1),z.name≠x.name):=by
                intro z hz;rw[List.take_add_one,j8] at hz;rcases List.mem_append.1 hz with h|h
                · exact hA.out z h
                · simp at h
                  rw[h]
                  simpa using heq
               clear hA j8;go_upto_region 15 with fail
               go_region
               go_wp2_with fail;exact⟨⟨k+1,hki,by go_num,hb.drew,Rt,n4,n2,d0⟩,by simp only[intOf];omega⟩
             · have HX:=zh (QC.out k y j8 hki (by simpa using heq))
               clear hA j8;go_upto_region 15 with fail
               go_region
               go_wp2_with fail;go_ret;exact⟨by rw[HX.out];rfl,hb.drew⟩
theorem Hw {D : Nat → Prop} (v : Value) (f : aA) (w : World) (hv : dO D w v f) :
 Calls Tryz.prog 39 #[v] w λe w'=>e=.returned (.int .i64 (iL f))∧Below w.heap.size w w':=by
 rcases hok:(isName f.name&&(decide (1≤f.kind)&&(decide (f.kind≤3)&&(aU f.ag&&(f.par||f.ag.isEmpty))))) with _|_
 · rw[Du hok]
   exact Aq v f w hv hok
 · have I2 : ∀ (hk : f.kind = 3 ∨ (f.kind ≠ 3 ∧ ∃ o, f.ops = [o] ∧ o.name = f.name ∧ o.sig.iter = decide (f.kind = 2))) (hl : 1 ≤ f.ops.length → iy f = true), Calls Tryz.prog 39 #[v] w fun e w' => e = .returned (.int .i64 (iL f)) ∧ Below w.heap.size w w' := by
    intro hk hl;have h:=EH v f w hv hok hk;rcases hb:(decide (1≤f.ops.length)&&decide (f.ops.length≤20)) with _|_
    · rw[s8 hb]
      rw[hb] at h;exact h
    · rw[hb] at h
      have h1:1≤f.ops.length:=by simp at hb;exact hb.1
      rcases ho:fu f.par [] f.ops with _|_
      · rw[lQ (by rw[ho];rfl)]
        rw[ho] at h;exact h
      · rw[Dv hok hb (by rw[ho,hl h1];rfl)]
        rw[ho] at h;exact h
   by_cases h1:1≤f.ops.length
   · rcases rB f h1 with⟨hk,hl⟩|⟨hk,hl,hn⟩|⟨hk,o,ho,⟨hx,hn⟩|⟨hx,hx2,hn⟩|⟨hx,hx2,hl⟩⟩
     · exact I2 (.inl hk) λ_=>hl
     · rw[lQ (by rw[hn];simp)]
       exact l8 v f w hv hok hk (.inl hl)
     · rw[lQ (by rw[hn];simp)]
       exact l8 v f w hv hok hk (.inr ⟨o,ho,.inl hx⟩)
     · rw[lQ (by rw[hn];simp)]
       exact l8 v f w hv hok hk (.inr ⟨o,ho,.inr ⟨hx,hx2⟩⟩)
     · exact I2 (.inr ⟨hk,o,ho,hx,hx2⟩) λ_=>hl
   · by_cases hk:f.kind=3
     · exact I2 (.inl hk) λh=>absurd h h1
     · rw[s8 (by simp[h1])]
       exact l8 v f w hv hok hk (.inl (by omega))
end Go.Proofs.YtakgjcfkdemipaaGreatDoor
