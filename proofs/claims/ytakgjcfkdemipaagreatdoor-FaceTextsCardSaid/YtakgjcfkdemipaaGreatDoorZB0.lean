/-
  Lemmas for the statement: the base of this seat's texts: words of the walk for strings that are given as lists of bytes. Conditions: bounds of lengths; the variable strings.asciiSpace.
-/
import Derived.BigQuiet
import Derived.Deep.RegionHeld3
import Derived.Laws.EntriesVeiled
import Derived.Lib.Hide
import Derived.StillTailTactics
import Derived.Test.YtakgjcfkdemipaaGreatDoorRows
import Derived.WalkLawsBesides
import Derived.WalkSpells
import Derived.Test.YtakgjcfkdemipaaGreatDoorZBn
set_option maxHeartbeats 800000
namespace Go.Proofs.YtakgjcfkdemipaaGreatDoor
section
open Go.RowKit
@[go_sem] theorem Jw (l:List UInt8) (k:Nat) (h:k<(⟨l.toArray⟩:ByteArray).size):(⟨l.toArray⟩:ByteArray)[k]'h=l[k]'h:=rfl
@[go_sem] theorem Fq (l : List UInt8) (a b : Nat) : (⟨l.toArray⟩ : ByteArray).extract a b = ⟨((l.take b).drop a).toArray⟩ := by
 apply ByteArray.ext
 simp[ByteArray.data_extract,List.extract_eq_take_drop,List.drop_take]
abbrev str (l:List UInt8):Value:=.string ⟨l.toArray⟩
theorem qg {k:IntKind} {a b:Int} (h:a=b):Ending.returned (.int k a)=.returned (.int k b):=by rw[h]
section
variable {P:Program} (w:World)
theorem fR (base:Nat) (t ty e:TypeId) (i:TypeInfo) (z:Value) (size bytes:Nat) (ht:P.underlying t=some (.slice e)) (hi:P.info? e=some i) (hz:i.zero=some z)
 (hsize:i.size=size) (hby:i.bytes=bytes) (hzs:z.cells.size=size) (hsz:0<size)
 (v:Value) (n:Nat) (xs:List Value) (hown:w.ownsRow base e size v n xs)
 (a:Addr) (m c:Nat) (news:List Value) (hl:news.length=m * size) (hnews:∀j u,news[j]? =some u→w.cell? (a.add j)=some u) (h1:∀u∈news,u.oneCell'=true)
 (hm:0<m) (h63:n+m≤maxLen) (hbytes:(n+m) * bytes≤140737488355328) (hbase:base≤w.heap.size):
 ∃v' w',(Builtin.append_ #[t,t] ty #[v,.slice (some a) m c]).run P w=.ok v' w'∧w'.ownsRow base e size v' (n+m) (xs++news)∧w.grownBy w' v.ownBlock∧
  (v'.ownBlock=v.ownBlock∨v'.ownBlock=some w.heap.size):=by
 obtain⟨v',w',hr,h2,h3,_⟩:=run_append_own (P:=P) w base t ty e i z size bytes ht hi hz hsize hby hzs hsz v n xs hown a m c news hl hnews h1 h63 hbytes hbase
 refine⟨v',w',hr,h2,h3,?_⟩
 subst hsize
 subst hby
 have hsmall:n+m≤9223372036854775807:=by simp only[maxLen] at h63;omega
 rcases hown.2 with⟨rfl,rfl⟩|⟨g,cap,cur,rfl,Uf,hg,hnc,hcm,hcs,PZ⟩
 · have hr2:=run_append_nil (P:=P) w t ty e i z ht hi hz a m c news hl hnews (by omega) (by omega) (by have hb:=hbytes;simp only[Nat.zero_add] at hb;omega)
   rw[hr] at hr2;injection hr2 with hv _;rw[hv];exact .inr rfl
 · by_cases hroom:n+m≤cap
   · have hfit:n * i.size+news.length≤cur.size:=by rw[hl,hcs,←Nat.add_mul];exact Nat.mul_le_mul_right _ hroom
     have hr2:=run_append_room (P:=P) w t ty e i ht hi g n cap cur hg a m c news hl hnews h1 hroom hfit;rw[hr] at hr2;injection hr2 with hv _;rw[hv];exact .inl rfl
   · have holds:∀j u,xs[j]? =some u→w.cell? ((⟨g,0,none⟩:Addr).add j)=some u:=hown.cells (g:=g) rfl
     have hr2:=run_append_grow (P:=P) w t ty e i z ht hi hz ⟨g,0,none⟩ n cap xs hown.1 holds a m c news hl hnews (by omega) (by omega) (growslice_fits (by omega) hbytes);rw[hr] at hr2;injection hr2 with hv _;rw[hv];exact .inr rfl
theorem bq {ops:Array Oper} {rest:List Oper} {o:Oper} {a:Act} {Q:Exit→Act→World→Prop} (hgd:o.guard=none) (s x:Operand) (t:TypeId)
 (ho:o.op=.call {callee:=.builtin .append,args:= #[s,x],argTypes:= #[t,t] })
 (base:Nat) (e:TypeId) (i:TypeInfo) (z:Value) (size bytes:Nat) (ht:P.underlying t=some (.slice e)) (hi:P.info? e=some i) (hz:i.zero=some z)
 (hsize:i.size=size) (hby:i.bytes=bytes) (hzs:z.cells.size=size) (hsz:0<size)
 (v:Value) (n:Nat) (xs:List Value) (hs:a.eval s=v) (hown:w.ownsRow base e size v n xs)
 (ad:Addr) (m c:Nat) (news:List Value) (hx:a.eval x=.slice (some ad) m c) (hl:news.length=m * size) (hnews:∀j u,news[j]? =some u→w.cell? (ad.add j)=some u) (h1:∀u∈news,u.oneCell'=true)
 (hm:0<m) (h63:n+m≤maxLen) (hbytes:(n+m) * bytes≤140737488355328) (hbase:base≤w.heap.size)
 (h:∀v' w',w'.ownsRow base e size v' (n+m) (xs++news)→w.grownBy w' v.ownBlock→(v'.ownBlock=v.ownBlock∨v'.ownBlock=some w.heap.size)→wpList P ops Q rest (a.put o.dst v') w'):wpList P ops Q (o::rest) a w:=by
 refine wpList_plain hgd λK hK=>?_
 obtain⟨v',w',hr,h2,h3,h4⟩:=fR (P:=P) w base t o.type e i z size bytes ht hi hz hsize hby hzs hsz v n xs hown ad m c news hl hnews h1 hm h63 hbytes hbase
 unfold Oper.wp execOp
 simp only[ho,resolve,invoke,builtin,Sem.run_bind,Sem.run_pure,Result.andThen_ok,List.map_toArray,List.map_cons,List.map_nil,hs,hx,hr]
 exact hK _ _ (h v' w' h2 h3 h4)
end
end
section
def eG (c:UInt8):Bool:=(decide (97≤c.toNat)&&decide (c.toNat≤122))||(decide (48≤c.toNat)&&decide (c.toNat≤57))
def aj (l:List UInt8):Nat:=(l.takeWhile eG).length
theorem bX (l:List UInt8):aj l≤l.length:=by
 unfold aj
 exact(List.takeWhile_sublist eG).length_le
theorem bh (c:UInt8) (l:List UInt8):aj (c::l)=if eG c then aj l+1 else 0:=by
 unfold aj
 rw[List.takeWhile_cons]
 split<;>simp
theorem lN:∀(k:Nat) (l:List UInt8),k≤aj l→(h:k<l.length)→eG l[k]=false→aj l=k
 | 0,[],_,h,_=>by simp at h
 | 0,c::l,_,_,ha=>by rw[bh];simp at ha;simp[ha]
 | k+1,[],_,h,_=>by simp at h
 | k+1,c::l,hk,h,ha=>by
  rw[bh] at hk ⊢;split at hk
  · rename_i hc
    rw[if_pos hc,lN k l (by omega) (by simpa using h) (by simpa using ha)]
  · omega
theorem lM:∀(k:Nat) (l:List UInt8),k≤aj l→(h:k<l.length)→eG l[k]=true→k+1≤aj l
 | 0,[],_,h,_=>by simp at h
 | 0,c::l,_,_,ha=>by rw[bh];simp at ha;simp[ha]
 | k+1,[],_,h,_=>by simp at h
 | k+1,c::l,hk,h,ha=>by
  rw[bh] at hk ⊢;split at hk
  · rename_i hc
    rw[if_pos hc];have:=lM k l (by omega) (by simpa using h) (by simpa using ha);omega
  · omega
theorem qE (k:Nat) (l:List UInt8) (h1:k≤aj l) (h2:¬k<l.length):aj l=k:=by
 have:=bX l;omega
theorem kT (c:UInt8):(eG c=true∧(((97:Int)≤(c.toNat:Int)∧(c.toNat:Int)≤122)∨((48:Int)≤(c.toNat:Int)∧(c.toNat:Int)≤57)))∨
 (eG c=false∧((c.toNat:Int)<48∨((57:Int)<(c.toNat:Int)∧(c.toNat:Int)<97)∨(122:Int)<(c.toNat:Int))):=by
 simp only[eG,Bool.or_eq_true,Bool.and_eq_true,decide_eq_true_eq,Bool.or_eq_false_iff,Bool.and_eq_false_iff,decide_eq_false_iff_not]
 omega
def dc:List (List UInt8):=[[97,110,100],[97,114,114,97,121],[98,101,103,105,110],[98,111,111,108],[98,114,101,97,107],[99,108,117,115,116,101,114],[100,111],[100,111,119,110],[101,108,115,101],[101,108,115,101,105,102],[101,110,100],[101,120,99,101,112,116],[102,97,108,115,101],[102,111,114],[104,97,115],[105,102],[105,110],[105,110,116],[105,115],[105,116,101,114],[109,111,100],[110,105,108],[110,111,116],[110,117,108,108],[111,110,101,111,102],[111,114],[111,116,104,101,114,115],[112,114,111,99],[112,117,116],[114,101,99,111,114,100],[114,101,112],[114,101,116,117,114,110],[114,101,116,117,114,110,115],[115,105,103,110,97,108],[115,105,103,110,97,108,115],[116,97,103],[116,97,103,99,97,115,101],[116,104,101,110],[116,114,117,101],[117,112],[118,97,114],[119,104,101,110],[119,104,101,114,101],[119,104,105,108,101],[121,105,101,108,100],[121,105,101,108,100,115]]
def isWord (l:List UInt8):Bool:=dc.contains l
def low (c:UInt8):Bool:=decide (97≤c.toNat)&&decide (c.toNat≤122)
def isName (l:List UInt8):Bool:=
 match l with
 | []=>false
 | c::r=>decide ((c::r).length≤12)&&low c&&decide (aj (c::r)=(c::r).length)&& !isWord (c::r)
def hasB (ss:List (List UInt8)) (s:List UInt8):Bool:=ss.contains s
theorem jO (x y:UInt8) (a b:List UInt8):Op.bytesLess (x::a) (y::b)=true↔x.toNat<y.toNat∨(x=y∧Op.bytesLess a b=true):=by
 rw[Op.bytesLess]
 simp only[Bool.or_eq_true,Bool.and_eq_true,decide_eq_true_eq,beq_iff_eq,UInt8.lt_iff_toNat_lt]
theorem Em (a:List UInt8):Op.bytesLess a []=false:=by cases a<;>rfl
theorem gH:∀(a b:List UInt8),Op.bytesLess a b=false→(Op.bytesLess b a||b==a)=true
 | [],[],_=>rfl
 | [],y::b,h=>by simp[Op.bytesLess] at h
 | x::a,[],_=>by simp[Op.bytesLess]
 | x::a,y::b,h=>by
  have h1:¬(x.toNat<y.toNat∨(x=y∧Op.bytesLess a b=true)):=λhh=>by rw[(jO x y a b).2 hh] at h;simp at h
  simp only[not_or,not_and,Nat.not_lt] at h1;rw[Bool.or_eq_true,jO]
  by_cases e:x=y
  · subst e
    have h2:=h1.2 rfl;have h3:=gH a b (by simpa using h2);rw[Bool.or_eq_true] at h3;rcases h3 with h3|h3
    · exact .inl (.inr ⟨rfl,h3⟩)
    · exact .inr (by simpa using h3)
  · refine .inl (.inl ?_)
    have:x.toNat≠y.toNat:=λh=>e (UInt8.toNat_inj.1 h)
    omega
theorem iR:∀(a b:List UInt8),Op.bytesLess a b=true→Op.bytesLess b a=false
 | [],[],h=>by simp[Op.bytesLess] at h
 | [],y::b,_=>rfl
 | x::a,[],h=>by simp[Op.bytesLess] at h
 | x::a,y::b,h=>by
  rw[jO] at h;rw[←Bool.not_eq_true,jO];intro h';rcases h with h|⟨rfl,h⟩
  · rcases h' with h'|⟨rfl,_⟩
    · omega
    · omega
  · rcases h' with h'|⟨_,h'⟩
    · omega
    · rw[iR a b h] at h';simp at h'
theorem lz (a:List UInt8):Op.bytesLess a a=false:=by
 cases h:Op.bytesLess a a
 · rfl
 · rw[←h,iR a a h]
theorem rz (a b:List UInt8) (h:Op.bytesLess a b=true):(Op.bytesLess b a||b==a)=false:=by
 rw[iR a b h,Bool.false_or,beq_eq_false_iff_ne]
 rintro rfl
 rw[lz] at h;simp at h
theorem fT:∀(a b c:List UInt8),Op.bytesLess a b=true→Op.bytesLess b c=true→Op.bytesLess a c=true
 | _,_,[],_,h=>by rw[Em] at h;simp at h
 | [],_,z::c,_,_=>rfl
 | x::a,[],z::c,h,_=>by simp[Op.bytesLess] at h
 | x::a,y::b,z::c,h,h'=>by
  rw[jO] at *;rcases h with h|⟨rfl,h⟩
  · rcases h' with h'|⟨rfl,_⟩
    · exact .inl (by omega)
    · exact .inl h
  · rcases h' with h'|⟨rfl,h'⟩
    · exact .inl h'
    · exact .inr ⟨rfl,fT a b c h h'⟩
end
section
open Go.RowKit
def Sl (w:World) (v:Value) (n:Nat) (xs:List Value):Prop:=
 (v=.slice none 0 0∧n=0∧xs=[])∨
 ∃b o cap,v=.slice (some ⟨b,o,none⟩) n cap∧n≤maxLen∧(n=0→xs=[])∧∀j u,xs[j]? =some u→w.cell? ⟨b,o+j,none⟩=some u
theorem Sl.nil (w:World):Sl w (.slice none 0 0) 0 []:=.inl ⟨rfl,rfl,rfl⟩
theorem Sl.below {B:Nat} {w w':World} {v:Value} {n:Nat} {xs:List Value} (h:Sl w v n xs) (hb:Below B w w') (hB:w.heap.size≤B):Sl w' v n xs:=by
 rcases h with h|⟨b,o,cap,rfl,h1,h2,h3⟩
 · exact .inl h
 · refine .inr ⟨b,o,cap,rfl,h1,h2,λj u hj=>?_⟩
   have:=h3 j u hj;rw[hb.cell (by have:=World.block_lt_of_cell? _ _ this;simp at this ⊢;omega)];exact this
theorem Sl.bH {w:World} {base:Nat} {e:TypeId} {size n:Nat} {v:Value} {xs:List Value} (h:w.ownsRow base e size v n xs):Sl w v n xs:=by
 have hl:=h.1
 rcases h.2 with⟨rfl,rfl⟩|⟨g,cap,cur,rfl,hg,hh,h1,h2,h3,h4⟩
 · refine .inl ⟨rfl,rfl,?_⟩
   rw[Nat.zero_mul] at hl;exact List.length_eq_zero_iff.1 hl
 · refine .inr ⟨g,0,cap,rfl,Nat.le_trans h1 h2,λh0=>?_,λj u hj=>?_⟩
   · subst h0;rw[Nat.zero_mul] at hl;exact List.length_eq_zero_iff.1 hl
   · have:=h.cells (g:=g) rfl j u hj
     rwa [show(⟨g,0,none⟩:Addr).add j=⟨g,0+j,none⟩ from by unfold Addr.add;simp;omega] at this
theorem Jj (w:World) (xs:List Value) (t:TypeId) (z:Nat×Nat) (cap:Nat) (h:xs.length≤maxLen):Sl (w.alloc (.cells xs.toArray t z)) (.slice (some ⟨w.heap.size,0,none⟩) xs.length cap) xs.length xs:=by
 refine .inr ⟨w.heap.size,0,cap,rfl,h,λh0=>List.length_eq_zero_iff.1 h0,λj u hj=>?_⟩
 have:(w.alloc (.cells xs.toArray t z)).heap[w.heap.size]? =some (.cells xs.toArray t z):=heap_alloc_new w _
 show World.cell? _ _=_
 unfold World.cell?
 rw[this]
 simpa using hj
def aB (ss:List (List UInt8)):List Value:=ss.map str
theorem iJ (ss:List (List UInt8)) (j:Nat) (h:j<ss.length):(aB ss)[j]? =some (str ss[j]):=by simp[aB,h]
def Strs (w:World) (v:Value) (ss:List (List UInt8)):Prop:=Sl w v ss.length (aB ss)
theorem E5 (w:World) (ss:List (List UInt8)) (t:TypeId) (z:Nat×Nat) (cap:Nat) (h:ss.length≤maxLen):Strs (w.alloc (.cells (aB ss).toArray t z)) (.slice (some ⟨w.heap.size,0,none⟩) ss.length cap) ss:=by
 have:=Jj w (aB ss) t z cap (by simpa[aB] using h)
 simpa[aB,Strs] using this
theorem Strs.below {B:Nat} {w w':World} {v:Value} {ss:List (List UInt8)} (h:Strs w v ss) (hb:Below B w w') (hB:w.heap.size≤B):Strs w' v ss:=Sl.below h hb hB
theorem Strs.shape {w:World} {v:Value} {ss:List (List UInt8)} (h:Strs w v ss):
 (v=.slice none 0 0∧ss=[])∨∃b o cap,v=.slice (some ⟨b,o,none⟩) ss.length cap∧ss.length≤maxLen∧∀j (hj:j<ss.length),w.cell? ⟨b,o+j,none⟩=some (str ss[j]):=by
 rcases h with⟨rfl,h,_⟩|⟨b,o,cap,rfl,h1,h2,h3⟩
 · exact .inl ⟨rfl,List.length_eq_zero_iff.1 h⟩
 · exact .inr ⟨b,o,cap,rfl,h1,λj hj=>h3 j _ (iJ ss j hj)⟩
theorem kZ (ss:List (List UInt8)) (s:List UInt8) (k:Nat) (hk:k<ss.length) (h:hasB (ss.take k) s=false) (h2:(ss[k]==s)=false):hasB (ss.take (k+1)) s=false:=by
 unfold hasB at *
 rw[List.take_succ_eq_append_getElem hk]
 simp only[List.contains_eq_any_beq,List.any_append,List.any_cons,List.any_nil,Bool.or_false] at h ⊢
 rw[h]
 simp at h2 ⊢
 exact λe=>h2 e.symm
theorem wY (ss:List (List UInt8)) (s:List UInt8) (k:Nat) (hk:k<ss.length) (h2:(ss[k]==s)=true):hasB ss s=true:=by
 unfold hasB
 have:ss[k]=s:=by simpa using h2
 rw[List.contains_iff_mem];rw[←this];exact List.getElem_mem hk
theorem wX (ss:List (List UInt8)) (s:List UInt8) (k:Nat) (hk:¬k<ss.length) (h:hasB (ss.take k) s=false):hasB ss s=false:=by
 rwa [List.take_of_length_le (by omega)] at h
theorem tF (ss:List (List UInt8)) (s:List UInt8):hasB (ss.take 0) s=false:=rfl
theorem bI {a b:Bool} (h:a=b):Ending.returned (.bool a)=.returned (.bool b):=by rw[h]
theorem aX (l:List UInt8) (w:World) (hl:l.length≤maxLen):
 Calls Tryz.prog 162 #[str l] w λe w'=>e=.returned (.int .i64 (aj l))∧w=w':=by
 unfold maxLen at hl
 go_enter Tryz.func162,Tryz.ntmps162
 go_wp2
 go_loop [3] (λi=>∃k:Nat,k≤l.length∧k≤aj l∧i=.int .i64 k) (λi=>l.length - (intOf i).toNat)
 case atStart=>exact⟨0,by omega,by omega,rfl⟩
 case round =>
  obtain⟨k,hk,hn,rfl⟩:=hrel
  by_cases hlt:k<l.length
  · have hs:=lN k l hn hlt
    have ht:=lM k l hn hlt;rcases kT l[k] with⟨ha,hc⟩|⟨ha,hc⟩
    · have Hn:=ht ha
      clear ht hs ha;rcases hc with⟨h1,h2⟩|⟨h1,h2⟩
      all_goals
       go_wp2_with fail
       go_round
       case rel=>exact⟨k+1,by omega,by omega,by go_num⟩
       case measure=>simp[intOf];omega
    · have Hn:Hid _:=hs ha
      clear ht hs ha;rcases hc with h1|⟨h1,h2⟩|h1
      all_goals
       go_wp2_with fail;go_ret;exact⟨qg (by rw[Hn.out]),rfl⟩
  · have Hn:Hid _:=qE k l hn hlt
    go_wp2_with fail;go_ret;exact⟨qg (by rw[Hn.out]),rfl⟩
theorem Bq (l:List UInt8) (w:World) (hl:l.length≤maxLen):
 Calls Tryz.prog 142 #[str l] w λe w'=>e=.returned (.int .i64 (aj l))∧w=w':=by
 unfold maxLen at hl
 go_enter Tryz.func142,Tryz.ntmps142
 go_wp2
 go_loop [3] (λi=>∃k:Nat,k≤l.length∧k≤aj l∧i=.int .i64 k) (λi=>l.length - (intOf i).toNat)
 case atStart=>exact⟨0,by omega,by omega,rfl⟩
 case round =>
  obtain⟨k,hk,hn,rfl⟩:=hrel
  by_cases hlt:k<l.length
  · have hs:=lN k l hn hlt
    have ht:=lM k l hn hlt;rcases kT l[k] with⟨ha,hc⟩|⟨ha,hc⟩
    · have Hn:=ht ha
      clear ht hs ha;rcases hc with⟨h1,h2⟩|⟨h1,h2⟩
      all_goals
       go_wp2
       go_round
       case rel=>exact⟨k+1,by omega,by omega,by go_num⟩
       case measure=>simp[intOf];omega
    · have Hn:Hid _:=hs ha
      clear ht hs ha;rcases hc with h1|⟨h1,h2⟩|h1
      all_goals
       go_wp2
       go_ret;exact⟨qg (by rw[Hn.out]),rfl⟩
  · have Hn:Hid _:=qE k l hn hlt
    go_wp2
    go_ret;exact⟨qg (by rw[Hn.out]),rfl⟩
theorem Fl (l:List UInt8) (b:Nat) (w:World) (hl:l.length≤maxLen) (hc:w.cell? ⟨b,0,none⟩=some (str l)) (hf:w.frozen? ⟨b,0,none⟩=false):
 Calls Tryz.prog 254 #[.pointer (some ⟨b,0,none⟩)] w λe w'=>e=.returned (str (l.take (aj l)))∧w'=w.setCell ⟨b,0,none⟩ (str (l.drop (aj l))):=by
 unfold maxLen at hl
 go_enter Tryz.func254,Tryz.ntmps254
 go_wp2
 go_loop [3] (λi=>∃k:Nat,k≤l.length∧k≤aj l∧i=.int .i64 k) (λi=>l.length - (intOf i).toNat)
 case atStart=>exact⟨0,by omega,by omega,rfl⟩
 case round =>
  obtain⟨k,hk,hn,rfl⟩:=hrel
  by_cases hlt:k<l.length
  · have hs:=lN k l hn hlt
    have ht:=lM k l hn hlt;rcases kT l[k] with⟨ha,hc⟩|⟨ha,hc⟩
    · have Hn:=ht ha
      clear ht hs ha;rcases hc with⟨h1,h2⟩|⟨h1,h2⟩
      all_goals
       go_wp2_with fail
       go_round
       case rel=>exact⟨k+1,by omega,by omega,by go_num⟩
       case measure=>simp[intOf];omega
    · have Hn:Hid _:=hs ha
      clear ht hs ha;rcases hc with h1|⟨h1,h2⟩|h1
      all_goals
       go_wp2_with fail;go_ret;rw[Hn.out];exact⟨rfl,rfl⟩
  · have Hn:Hid _:=qE k l hn hlt
    go_wp2_with fail;go_ret;rw[Hn.out];exact⟨rfl,rfl⟩
end
section
inductive Fo where
 | nil
 | cons (pn:List UInt8) (k:Nat) (n:List UInt8) (sub rest:Fo)
structure Tr where
 k:Nat
 n:List UInt8
 sub:Fo
namespace Fo
def len:Fo→Nat
 | nil=>0
 | cons _ _ _ _ rest=>rest.len+1
def level:Fo→Nat
 | nil=>0
 | cons _ _ _ sub rest=>max (sub.level+1) rest.level
end Fo
def Tr.level (t:Tr):Nat:=t.sub.level+1
def Fo.one (t:Tr):Fo:=.cons [] t.k t.n t.sub .nil
def mA:List UInt8:=[105,110,116]
def gC:List UInt8:=[98,111,111,108]
def jT:List UInt8:=[110,117,108,108]
def eB:List UInt8:=[97,114,114,97,121]
def eu:List UInt8:=[114,101,99,111,114,100]
def fK:List UInt8:=[111,110,101,111,102]
def bW (w:List UInt8):Nat:=if w=mA then 1 else if w=gC then 2 else if w=jT then 3 else 0
def aW (w:List UInt8):Nat:=if w=eB then 4 else if w=eu then 5 else if w=fK then 6 else 0
def pA : Nat → Option (List UInt8) → List UInt8 → Option (Fo × List UInt8)
 | 0,_,_=>none
 | f + 1, none, s =>
  match s with
  | 63::116::r=>some (.cons [] 8 [] .nil .nil,r)
  | _=>
   let w:=s.take (aj s)
   let s1:=s.drop (aj s)
   if bW w≠0 then some (.cons [] (bW w) [] .nil .nil,s1)
   else if aW w=5∨aW w=6 then
    match s1 with
    | 91::s2=>match pA f (some []) s2 with
     | some (fo,93::r)=>if fo.len≤6 then some (.cons [] (aW w) w fo .nil,r) else none
     | _=>none
    | _=>none
   else if aW w=4∨isName w=true then
    match s1 with
    | 91::s2=>match pA f none s2 with
     | some (fo,93::r)=>some (.cons [] (if aW w=4 then 4 else 7) w fo .nil,r)
     | _=>none
    | _=>if aW w=4 then none else some (.cons [] 7 w .nil .nil,s1)
   else none
 | f + 1, some b, s =>
  let w:=s.take (aj s)
  if isName w = true ∧ Op.bytesLess b w = true then
   match s.drop (aj s) with
   | 58::s2=>match pA f none s2 with
    | some (.cons _ k n sub _,r)=>match r with
     | 44::r2=>match pA f (some w) r2 with
      | some (fo,r3)=>some (.cons w k n sub fo,r3)
      | none=>none
     | _=>some (.cons w k n sub .nil,r)
    | _=>none
   | _=>none
  else none
theorem gY (f:Nat) (r:List UInt8):pA (f+1) none (63::116::r)=some (.cons [] 8 [] .nil .nil,r):=by simp[pA]
def cV (s:List UInt8):Prop:=∀r,s≠63::116::r
def pW (f:Nat) (w s1:List UInt8):Option (Fo×List UInt8):=
 if bW w≠0 then some (.cons [] (bW w) [] .nil .nil,s1)
 else if aW w=5∨aW w=6 then
  match s1 with
  | 91::s2=>match pA f (some []) s2 with
   | some (fo,93::r)=>if fo.len≤6 then some (.cons [] (aW w) w fo .nil,r) else none
   | _=>none
  | _=>none
 else if aW w=4∨isName w=true then
  match s1 with
  | 91::s2=>match pA f none s2 with
   | some (fo,93::r)=>some (.cons [] (if aW w=4 then 4 else 7) w fo .nil,r)
   | _=>none
  | _=>if aW w=4 then none else some (.cons [] 7 w .nil .nil,s1)
 else none
theorem jq (f:Nat) (s:List UInt8) (h:cV s):pA (f+1) none s=pW f (s.take (aj s)) (s.drop (aj s)):=by
 rw[pA]
 · rfl
 · exact λr e=>h r e
def pV (f : Nat) (w s1 : List UInt8) : Option (Fo × List UInt8) :=
 match s1 with
 | 58::s2=>match pA f none s2 with
  | some (.cons _ k n sub _,r)=>match r with
   | 44::r2=>match pA f (some w) r2 with
    | some (fo,r3)=>some (.cons w k n sub fo,r3)
    | none=>none
   | _=>some (.cons w k n sub .nil,r)
  | _=>none
 | _=>none
theorem gR (f:Nat) (b s:List UInt8):pA (f+1) (some b) s=if isName (s.take (aj s))=true∧Op.bytesLess b (s.take (aj s))=true then pV f (s.take (aj s)) (s.drop (aj s)) else none:=rfl
theorem Eu : ∀ (f : Nat) (tag : Option (List UInt8)) (s : List UInt8) (fo : Fo) (r : List UInt8), pA f tag s = some (fo, r) → r.length < s.length := by
 intro f
 induction f with
 | zero=>intro tag s fo r h;simp[pA] at h
 | succ f ih =>
  intro tag s fo r h;have hc:=bX s;have hd:(s.drop (aj s)).length=s.length - aj s:=by simp
  have hw:∀w,s.take (aj s)=w→w.length=aj s:=by intro w e;rw[←e];simp;omega
  cases tag with
  | none =>
   by_cases hp:cV s
   · rw [jq f s hp] at h
     generalize s.drop (aj s)=s1 at h hd;generalize s.take (aj s)=w at h hw;have hw:=hw w rfl;unfold pW at h;split at h
     · rename_i h0
       have:0<w.length:=by
        cases w with
        | nil=>exact absurd rfl h0
        | cons=>simp
       simp only[Option.some.injEq,Prod.mk.injEq] at h;obtain⟨_,rfl⟩:=h;omega
     · split at h
       · split at h
         · rename_i s2
           split at h
           · rename_i JG r2 e2
             split at h
             · have:=ih _ _ _ _ e2
               simp only[Option.some.injEq,Prod.mk.injEq] at h;obtain⟨_,rfl⟩:=h;simp at hd this;omega
             · simp at h
           · simp at h
         · simp at h
       · split at h
         · rename_i hk
           split at h
           · rename_i s2
             split at h
             · rename_i JG r2 e2
               have:=ih _ _ _ _ e2;simp only[Option.some.injEq,Prod.mk.injEq] at h;obtain⟨_,rfl⟩:=h;simp at hd this;omega
             · simp at h
           · split at h
             · simp at h
             · rename_i h4
               have hn:isName w=true:=hk.resolve_left h4;have:0<w.length:=by
                cases w with
                | nil=>simp[isName] at hn
                | cons=>simp
               simp only[Option.some.injEq,Prod.mk.injEq] at h;obtain⟨_,rfl⟩:=h;omega
         · simp at h
   · unfold cV at hp
     simp only[ne_eq,Classical.not_forall,Decidable.not_not] at hp;obtain⟨r',rfl⟩:=hp;rw[gY] at h;simp only[Option.some.injEq,Prod.mk.injEq] at h;obtain⟨_,rfl⟩:=h;simp;omega
  | some b =>
   rw[gR] at h;split at h
   · generalize s.drop (aj s)=s1 at h hd
     unfold pV at h;split at h
     · rename_i s2
       split at h
       · rename_i k n sub _ r1 e1
         have:=ih _ _ _ _ e1;split at h
         · split at h
           · rename_i e2
             have:=ih _ _ _ _ e2;simp only[Option.some.injEq,Prod.mk.injEq] at h;obtain⟨_,rfl⟩:=h;simp at hd this;simp at *;omega
           · simp at h
         · simp only[Option.some.injEq,Prod.mk.injEq] at h
           obtain⟨_,rfl⟩:=h;simp at hd;omega
       · simp at h
     · simp at h
   · simp at h
theorem Bj : ∀ (f g : Nat) (tag : Option (List UInt8)) (s : List UInt8), s.length < f → s.length < g → pA f tag s = pA g tag s := by
 intro f
 induction f with
 | zero=>intro g tag s h;omega
 | succ f ih =>
  intro g tag s hf hg;cases g with
  | zero=>omega
  | succ g=>
   have hc:=bX s;have hd:(s.drop (aj s)).length=s.length - aj s:=by simp
   cases tag with
   | none =>
    by_cases hp:cV s
    · rw [jq f s hp, jq g s hp]
      generalize s.drop (aj s)=s1 at hd;generalize s.take (aj s)=w;unfold pW;split
      · rfl
      · split
        · split
          · rename_i s2
            simp at hd;rw[ih g (some []) s2 (by omega) (by omega)]
          · rfl
        · split
          · split
            · rename_i s2
              simp at hd;rw[ih g none s2 (by omega) (by omega)]
            · rfl
          · rfl
    · unfold cV at hp
      simp only[ne_eq,Classical.not_forall,Decidable.not_not] at hp;obtain⟨r',rfl⟩:=hp;rw[gY,gY]
   | some b =>
    rw[gR,gR];split
    · generalize s.drop (aj s)=s1 at hd
      unfold pV;split
      · rename_i s2
        simp at hd;rw[ih g none s2 (by omega) (by omega)];split
        · rename_i k n sub _ r1 e1
          have:=Eu _ _ _ _ _ e1;split
          · rename_i r2
            simp at this;rw[ih g (some _) r2 (by omega) (by omega)]
          · rfl
        · rfl
      · rfl
    · rfl
theorem I5 (f : Nat) (s : List UInt8) (fo : Fo) (r : List UInt8) (h : pA f none s = some (fo, r)) : ∃ t : Tr, fo = .one t := by
 cases f with
 | zero=>simp[pA] at h
 | succ f =>
  by_cases hp:cV s
  · rw [jq f s hp] at h
    generalize s.drop (aj s)=s1 at h;generalize s.take (aj s)=w at h;unfold pW at h;split at h
    · simp only[Option.some.injEq,Prod.mk.injEq] at h
      exact⟨⟨_,_,_⟩,h.1.symm⟩
    · split at h
      · split at h
        · split at h
          · split at h
            · simp only[Option.some.injEq,Prod.mk.injEq] at h
              exact⟨⟨_,_,_⟩,h.1.symm⟩
            · simp at h
          · simp at h
        · simp at h
      · split at h
        · split at h
          · split at h
            · simp only[Option.some.injEq,Prod.mk.injEq] at h
              exact⟨⟨_,_,_⟩,h.1.symm⟩
            · simp at h
          · split at h
            · simp at h
            · simp only[Option.some.injEq,Prod.mk.injEq] at h
              exact⟨⟨_,_,_⟩,h.1.symm⟩
        · simp at h
  · unfold cV at hp
    simp only[ne_eq,Classical.not_forall,Decidable.not_not] at hp;obtain⟨r',rfl⟩:=hp;rw[gY] at h;simp only[Option.some.injEq,Prod.mk.injEq] at h;exact⟨⟨_,_,_⟩,h.1.symm⟩
def A6:Option (Fo×List UInt8)→Option (Tr×List UInt8)
 | some (.cons _ k n sub _,r)=>some (⟨k,n,sub⟩,r)
 | _=>none
def aM (s:List UInt8):Option (Tr×List UInt8):=A6 (pA (s.length+1) none s)
def bU (b s:List UInt8):Option (Fo×List UInt8):=pA (s.length+1) (some b) s
theorem um {f:Nat} {b s:List UInt8} (h:s.length<f):pA f (some b) s=bU b s:=Bj _ _ _ _ h (by omega)
theorem gK {f:Nat} {s:List UInt8} (h:s.length<f):pA f none s=(aM s).map λx=>(Fo.one x.1,x.2):=by
 rw[Bj f (s.length+1) none s h (by omega)]
 unfold aM
 cases hx:pA (s.length+1) none s with
 | none=>rfl
 | some x=>
  obtain⟨fo,r⟩:=x;obtain⟨t,rfl⟩:=I5 _ _ _ _ hx
  rfl
theorem gM {s r:List UInt8} {t:Tr} (h:aM s=some (t,r)):r.length<s.length:=by
 refine Eu (s.length+1) none s (.one t) r ?_
 rw[gK (by omega),h];rfl
theorem Cz {b s r:List UInt8} {fo:Fo} (h:bU b s=some (fo,r)):r.length<s.length:=Eu _ _ _ _ _ h
theorem kz (r:List UInt8):aM (63::116::r)=some (⟨8,[],.nil⟩,r):=by
 unfold aM;rw[gY];rfl
theorem fA (s:List UInt8) (h:cV s):aM s=A6 (pW s.length (s.take (aj s)) (s.drop (aj s))):=by
 unfold aM;rw[jq _ _ h]
section
variable {s:List UInt8} (hp:cV s)
include hp
theorem lC (h0:bW (s.take (aj s))≠0):aM s=some (⟨bW (s.take (aj s)),[],.nil⟩,s.drop (aj s)):=by
 rw[fA s hp];unfold pW;rw[if_pos h0];rfl
theorem gT (h0:bW (s.take (aj s))=0) (hk:aW (s.take (aj s))=5∨aW (s.take (aj s))=6) (hb:∀r,s.drop (aj s)≠91::r):aM s=none:=by
 rw[fA s hp];unfold pW;rw[if_neg (by simpa using h0),if_pos hk]
 split
 · rename_i e;exact absurd e (hb _)
 · rfl
theorem nj (h0:bW (s.take (aj s))=0) (hk:aW (s.take (aj s))=5∨aW (s.take (aj s))=6) {s2:List UInt8} (hb:s.drop (aj s)=91::s2):
 aM s=match bU [] s2 with
  | some (fo,93::r)=>if fo.len≤6 then some (⟨aW (s.take (aj s)),s.take (aj s),fo⟩,r) else none
  | _=>none:=by
 have hl:s2.length<s.length:=by
  have:(s.drop (aj s)).length=s.length - aj s:=by simp
  rw[hb] at this;simp at this;omega
 rw[fA s hp];unfold pW;rw[if_neg (by simpa using h0),if_pos hk,hb]
 simp only
 rw[um hl]
 rcases bU [] s2 with _|⟨fo,r⟩
 · rfl
 · split
   · split<;>simp_all[A6]
   · rfl
theorem iY (h0:bW (s.take (aj s))=0) (hk:aW (s.take (aj s))=4∨(aW (s.take (aj s))=0∧isName (s.take (aj s))=true)) {s2:List UInt8} (hb:s.drop (aj s)=91::s2):
 aM s=match aM s2 with
  | some (t,93::r)=>some (⟨if aW (s.take (aj s))=4 then 4 else 7,s.take (aj s),.one t⟩,r)
  | _=>none:=by
 have hl:s2.length<s.length:=by
  have:(s.drop (aj s)).length=s.length - aj s:=by simp
  rw[hb] at this;simp at this;omega
 rw[fA s hp];unfold pW;rw[if_neg (by simpa using h0),if_neg (by omega),if_pos (by rcases hk with hk|hk;exact .inl hk;exact .inr hk.2),hb]
 simp only
 rw[gK hl]
 rcases aM s2 with _|⟨fo,r⟩
 · rfl
 · simp only[Option.map_some]
   split
   · simp_all[A6]
   · split
     · simp_all
     · rfl
theorem jB (h0:bW (s.take (aj s))=0) (hk:aW (s.take (aj s))=4) (hb:∀r,s.drop (aj s)≠91::r):aM s=none:=by
 rw[fA s hp];unfold pW;rw[if_neg (by simpa using h0),if_neg (by omega),if_pos (.inl hk)]
 split
 · rename_i e;exact absurd e (hb _)
 · rw[if_pos hk];rfl
theorem jr (h0:bW (s.take (aj s))=0) (hk:aW (s.take (aj s))=0) (hn:isName (s.take (aj s))=true) (hb:∀r,s.drop (aj s)≠91::r):
 aM s=some (⟨7,s.take (aj s),.nil⟩,s.drop (aj s)):=by
 rw[fA s hp];unfold pW;rw[if_neg (by simpa using h0),if_neg (by omega),if_pos (.inr hn)]
 split
 · rename_i e;exact absurd e (hb _)
 · rw[if_neg (by omega)];rfl
theorem rJ (h0:bW (s.take (aj s))=0) (hk:aW (s.take (aj s))=0) (hn:isName (s.take (aj s))=false):aM s=none:=by
 rw[fA s hp];unfold pW;rw[if_neg (by simpa using h0),if_neg (by omega),if_neg (by simp[hn];omega)];rfl
end
theorem ni {b s:List UInt8} (h:¬(isName (s.take (aj s))=true∧Op.bytesLess b (s.take (aj s))=true)):bU b s=none:=by
 unfold bU;rw[gR,if_neg h]
theorem ku {b s:List UInt8} (h:∀r,s.drop (aj s)≠58::r):bU b s=none:=by
 unfold bU;rw[gR]
 split
 · unfold pV
   split
   · rename_i e;exact absurd e (h _)
   · rfl
 · rfl
theorem l6 {b s s2:List UInt8} (h1:isName (s.take (aj s))=true) (h2:Op.bytesLess b (s.take (aj s))=true) (hb:s.drop (aj s)=58::s2):
 bU b s=match aM s2 with
  | some (t,r)=>match r with
   | 44::r2=>match bU (s.take (aj s)) r2 with
    | some (fo,r3)=>some (.cons (s.take (aj s)) t.k t.n t.sub fo,r3)
    | none=>none
   | _=>some (.cons (s.take (aj s)) t.k t.n t.sub .nil,r)
  | none=>none:=by
 have hl:s2.length<s.length:=by
  have:(s.drop (aj s)).length=s.length - aj s:=by simp
  rw[hb] at this;simp at this;omega
 unfold bU
 rw[gR,if_pos ⟨h1,h2⟩,hb]
 unfold pV
 simp only
 rw[gK hl]
 rcases hx:aM s2 with _|⟨t,r⟩
 · rfl
 · simp only[Option.map_some]
   have hr:=gM hx;rw[show Fo.one t=.cons [] t.k t.n t.sub .nil from rfl];dsimp only;split
   · rename_i r2
     rw[um (by simp at hr;omega)]
     rfl
   · rfl
theorem I6 : ∀ (f : Nat) (tag : Option (List UInt8)) (s : List UInt8) (fo : Fo) (r : List UInt8), pA f tag s = some (fo, r) → r <:+ s := by
 intro f
 induction f with
 | zero=>intro tag s fo r h;simp[pA] at h
 | succ f ih =>
  intro tag s fo r h;have hd:s.drop (aj s)<:+s:=List.drop_suffix _ _;cases tag with
  | none =>
   by_cases hp:cV s
   · rw [jq f s hp] at h
     generalize s.drop (aj s)=s1 at h hd;generalize s.take (aj s)=w at h;unfold pW at h;split at h
     · simp only[Option.some.injEq,Prod.mk.injEq] at h
       obtain⟨_,rfl⟩:=h;exact hd
     · split at h
       · split at h
         · rename_i s2
           split at h
           · rename_i JG r2 e2
             split at h
             · have:=ih _ _ _ _ e2
               simp only[Option.some.injEq,Prod.mk.injEq] at h;obtain⟨_,rfl⟩:=h;exact(List.suffix_cons _ _).trans (this.trans ((List.suffix_cons _ _).trans hd))
             · simp at h
           · simp at h
         · simp at h
       · split at h
         · split at h
           · rename_i s2
             split at h
             · rename_i JG r2 e2
               have:=ih _ _ _ _ e2;simp only[Option.some.injEq,Prod.mk.injEq] at h;obtain⟨_,rfl⟩:=h;exact(List.suffix_cons _ _).trans (this.trans ((List.suffix_cons _ _).trans hd))
             · simp at h
           · split at h
             · simp at h
             · simp only[Option.some.injEq,Prod.mk.injEq] at h
               obtain⟨_,rfl⟩:=h;exact hd
         · simp at h
   · unfold cV at hp
     simp only[ne_eq,Classical.not_forall,Decidable.not_not] at hp;obtain⟨r',rfl⟩:=hp;rw[gY] at h;simp only[Option.some.injEq,Prod.mk.injEq] at h;obtain⟨_,rfl⟩:=h;exact(List.suffix_cons _ _).trans (List.suffix_cons _ _)
  | some b =>
   rw[gR] at h;split at h
   · generalize s.drop (aj s)=s1 at h hd
     unfold pV at h;split at h
     · rename_i s2
       split at h
       · rename_i k n sub _ r1 e1
         have h1:=ih _ _ _ _ e1;split at h
         · split at h
           · rename_i e2
             have h2:=ih _ _ _ _ e2;simp only[Option.some.injEq,Prod.mk.injEq] at h;obtain⟨_,rfl⟩:=h;exact h2.trans ((List.suffix_cons _ _).trans (h1.trans ((List.suffix_cons _ _).trans hd)))
           · simp at h
         · simp only[Option.some.injEq,Prod.mk.injEq] at h
           obtain⟨_,rfl⟩:=h;exact h1.trans ((List.suffix_cons _ _).trans hd)
       · simp at h
     · simp at h
   · simp at h
theorem Ak {s r:List UInt8} {t:Tr} (h:aM s=some (t,r)):r<:+s:=by
 refine I6 (s.length+1) none s (.one t) r ?_
 rw[gK (by omega),h];rfl
theorem E7 {r s:List UInt8} (h:r<:+s):s.drop (s.length - r.length)=r:=by
 obtain⟨p,rfl⟩:=h
 simp
theorem pF {s r:List UInt8} {t:Tr} (h:aM s=some (t,r)):s.drop (s.length - r.length)=r:=E7 (Ak h)
theorem Aj {b s r:List UInt8} {fo:Fo} (h:bU b s=some (fo,r)):1≤fo.len:=by
 unfold bU at h
 rw[gR] at h
 split at h
 · unfold pV at h
   split at h
   · split at h
     · split at h
       · split at h
         · simp only[Option.some.injEq,Prod.mk.injEq] at h
           rw[←h.1];simp[Fo.len]
         · simp at h
       · simp only[Option.some.injEq,Prod.mk.injEq] at h
         rw[←h.1];simp[Fo.len]
     · simp at h
   · simp at h
 · simp at h
theorem qI : ∀ (f : Nat) (tag : Option (List UInt8)) (s : List UInt8) (fo : Fo) (r : List UInt8), pA f tag s = some (fo, r) → fo.level + r.length ≤ s.length := by
 intro f
 induction f with
 | zero=>intro tag s fo r h;simp[pA] at h
 | succ f ih =>
  intro tag s fo r h;have hc:=bX s;have hd:(s.drop (aj s)).length=s.length - aj s:=by simp
  have hw:∀w,s.take (aj s)=w→w.length=aj s:=by intro w e;rw[←e];simp;omega
  cases tag with
  | none =>
   by_cases hp:cV s
   · rw [jq f s hp] at h
     generalize s.drop (aj s)=s1 at h hd;generalize s.take (aj s)=w at h hw;have hw:=hw w rfl;unfold pW at h;split at h
     · rename_i h0
       have:0<w.length:=by
        cases w with
        | nil=>exact absurd rfl h0
        | cons=>simp
       simp only[Option.some.injEq,Prod.mk.injEq] at h;obtain⟨rfl,rfl⟩:=h;simp[Fo.level];omega
     · split at h
       · split at h
         · split at h
           · rename_i e2
             split at h
             · have:=ih _ _ _ _ e2
               simp only[Option.some.injEq,Prod.mk.injEq] at h;obtain⟨rfl,rfl⟩:=h;simp[Fo.level] at hd this ⊢;omega
             · simp at h
           · simp at h
         · simp at h
       · split at h
         · rename_i hk
           split at h
           · split at h
             · rename_i e2
               have:=ih _ _ _ _ e2;simp only[Option.some.injEq,Prod.mk.injEq] at h;obtain⟨rfl,rfl⟩:=h;simp[Fo.level] at hd this ⊢;omega
             · simp at h
           · split at h
             · simp at h
             · rename_i h4
               have hn:isName w=true:=hk.resolve_left h4;have:0<w.length:=by
                cases w with
                | nil=>simp[isName] at hn
                | cons=>simp
               simp only[Option.some.injEq,Prod.mk.injEq] at h;obtain⟨rfl,rfl⟩:=h;simp[Fo.level];omega
         · simp at h
   · unfold cV at hp
     simp only[ne_eq,Classical.not_forall,Decidable.not_not] at hp;obtain⟨r',rfl⟩:=hp;rw[gY] at h;simp only[Option.some.injEq,Prod.mk.injEq] at h;obtain⟨rfl,rfl⟩:=h;simp[Fo.level];omega
  | some b =>
   rw[gR] at h;split at h
   · generalize s.drop (aj s)=s1 at h hd
     unfold pV at h;split at h
     · split at h
       · rename_i e1
         have h1:=ih _ _ _ _ e1;split at h
         · split at h
           · rename_i e2
             have h2:=ih _ _ _ _ e2;simp only[Option.some.injEq,Prod.mk.injEq] at h;obtain⟨rfl,rfl⟩:=h;simp[Fo.level] at hd h1 h2 ⊢;omega
           · simp at h
         · simp only[Option.some.injEq,Prod.mk.injEq] at h
           obtain⟨rfl,rfl⟩:=h;simp[Fo.level] at hd h1 ⊢;omega
       · simp at h
     · simp at h
   · simp at h
structure bP where
 iter:Bool
 args:List (List UInt8)
 res:List UInt8
 sigs:List (List UInt8)
structure aL where
 name:List UInt8
 sig:bP
structure aA where
 name:List UInt8
 kind:Nat
 par:Bool
 ag:List aL
 ops:List aL
def bP.zero:bP:=⟨false,[],[],[]⟩
def pK (a b:bP):Bool:=decide (a.iter=b.iter)&&decide (a.res=b.res)&&decide (a.args=b.args)&&decide (a.sigs=b.sigs)
def aQ (s:bP):List (List UInt8):=s.args++if s.res=[] then [] else [s.res]
end
section
open Go.RowKit
theorem ak {w:World} {b:Nat} {cs:Array Value} {t:TypeId} {z:Nat×Nat} (h:w.heap[b]? =some (.cells cs t z)) (j:Nat):w.cell? ⟨b,j,none⟩=cs[j]? :=by
 unfold World.cell?
 rw[h]
 simp
theorem Below.keep {W w2:World} (hb:Below W.heap.size W w2) {a:Addr} {v:Value} (h:W.cell? a=some v):w2.cell? a=some v:=
 (hb.cell (World.block_lt_of_cell? _ _ h)).trans h
theorem af {B B':Nat} {a b:World} (h:Below B' a b) (hB:B≤B'):Below B a b:=⟨h.os,h.tape,h.output,h.size,λk hk=>h.block k (by omega)⟩
theorem aK {w:World} {base:Nat} {e:TypeId} {size n:Nat} {v:Value} {xs:List Value} (h:w.ownsRow base e size v n xs) {b:Nat} (hb:v.ownBlock=some b):b<w.heap.size:=(h.lt b hb).2
theorem cB {w w':World} {base:Nat} {e:TypeId} {size n:Nat} {v:Value} {xs:List Value} (h:w.ownsRow base e size v n xs) (hb:∀b,v.ownBlock=some b→w'.heap[b]? =w.heap[b]?):w'.ownsRow base e size v n xs:=by
 refine⟨h.1,?_⟩
 rcases h.2 with h2|⟨g,cap,cur,rfl,h3,h4,h5⟩
 · exact .inl h2
 · exact .inr ⟨g,cap,cur,rfl,h3,by rw[hb g rfl];exact h4,h5⟩
theorem ay {B:Nat} {w w':World} {base:Nat} {e:TypeId} {size n:Nat} {v:Value} {xs:List Value} (h:w.ownsRow base e size v n xs) (hb:Below B w w') (hB:w.heap.size≤B):w'.ownsRow base e size v n xs:=
 cB h λ_ e=>hb.block _ (Nat.lt_of_lt_of_le (aK h e) hB)
theorem aD {w:World} {k:Nat} {o':Obj} (o:Obj) (h:w.heap[k]? =some o'):(w.alloc o).heap[k]? =some o':=
 (((Below.refl w.heap.size w).alloc zr o).block k (Array.getElem?_eq_some_iff.1 h).1).trans h
theorem cI {w:World} {n:Nat} (hn:w.heap.size=n) (cs:Array Value) (t:TypeId):(w.alloc (.cells cs t)).heap[n]? =some (.cells cs t (0,0)):=hn▸heap_alloc_new w _
theorem az {w:World} {b:Nat} {cs:Array Value} {t:TypeId} (h:w.heap[b]? =some (.cells cs t (0,0))) (j:Nat):w.frozen? ⟨b,j,none⟩=false:=by
 unfold World.frozen?
 rw[h]
 simp
theorem aN {w:World} {b:Nat} {a0 a1 a2 a3:Value} {t:TypeId} (h:w.heap[b]? =some (.cells #[a0,a1,a2,a3] t (0,0))):
 (w.cell? ⟨b,0,none⟩=some a0∧w.cell? ⟨b,1,none⟩=some a1∧w.cell? ⟨b,2,none⟩=some a2∧w.cell? ⟨b,3,none⟩=some a3)∧
 (w.frozen? ⟨b,0,none⟩=false∧w.frozen? ⟨b,1,none⟩=false∧w.frozen? ⟨b,2,none⟩=false∧w.frozen? ⟨b,3,none⟩=false):=
 ⟨⟨(ak h 0).trans rfl,(ak h 1).trans rfl,(ak h 2).trans rfl,(ak h 3).trans rfl⟩,⟨az h 0,az h 1,az h 2,az h 3⟩⟩
theorem bz {w:World} {b:Nat} {a0 a1 a2 a3 a4:Value} {t:TypeId} (h:w.heap[b]? =some (.cells #[a0,a1,a2,a3,a4] t (0,0))):
 (w.cell? ⟨b,0,none⟩=some a0∧w.cell? ⟨b,1,none⟩=some a1∧w.cell? ⟨b,2,none⟩=some a2∧w.cell? ⟨b,3,none⟩=some a3∧w.cell? ⟨b,4,none⟩=some a4)∧
 (w.frozen? ⟨b,0,none⟩=false∧w.frozen? ⟨b,1,none⟩=false∧w.frozen? ⟨b,2,none⟩=false∧w.frozen? ⟨b,3,none⟩=false∧w.frozen? ⟨b,4,none⟩=false):=
 ⟨⟨(ak h 0).trans rfl,(ak h 1).trans rfl,(ak h 2).trans rfl,(ak h 3).trans rfl,(ak h 4).trans rfl⟩,⟨az h 0,az h 1,az h 2,az h 3,az h 4⟩⟩
theorem cG {w w':World} {b K:Nat} {o:Obj} (h:w.heap[b]? =some o) (hb:Below K w w') (hK:b<K):w'.heap[b]? =some o:=(hb.block b hK).trans h
theorem bA {w:World} {b:Nat} {o:Obj} (h:w.heap[b]? =some o):b<w.heap.size:=(Array.getElem?_eq_some_iff.1 h).1
theorem bu {w:World} {base:Nat} {e:TypeId} {size n:Nat} {v:Value} {xs:List Value} (h:w.ownsRow base e size v n xs):∃p c,v=.slice p n c:=by
 rcases h.2 with⟨rfl,rfl⟩|⟨g,cap,cur,rfl,_⟩
 · exact⟨none,0,rfl⟩
 · exact⟨some ⟨g,0,none⟩,cap,rfl⟩
theorem bp {α:Type} {l:List α} {k:Nat} {x:α} (h:l[k]? =some x):l.drop k=x::l.drop (k+1):=by
 obtain⟨hj,e⟩:=List.getElem?_eq_some_iff.1 h
 rw[List.drop_eq_getElem_cons hj,e]
def SS (D:Nat→Prop) (w:World) (v:Value) (ss:List (List UInt8)):Prop:=
 ∃p c,v=.slice p ss.length c∧ss.length≤c∧ss.length≤maxLen∧(∀s∈ss,s.length≤maxLen)∧(ss=[]∨∃b o,p=some ⟨b,o,none⟩∧D b∧b<w.heap.size∧∀j (h:j<ss.length),w.cell? ⟨b,o+j,none⟩=some (str ss[j]))
theorem SS.shape {D:Nat→Prop} {w:World} {v:Value} {ss:List (List UInt8)} (h:SS D w v ss):∃p c,v=.slice p ss.length c∧ss.length≤c∧ss.length≤maxLen∧∀s∈ss,s.length≤maxLen:=by
 obtain⟨p,c,h1,h2,h3,h4,_⟩:=h
 exact⟨p,c,h1,h2,h3,h4⟩
theorem SS.le {D:Nat→Prop} {w:World} {v:Value} {ss:List (List UInt8)} (h:SS D w v ss):∀s∈ss,s.length≤maxLen:=by
 obtain⟨p,c,_,_,_,h4,_⟩:=h
 exact h4
theorem SS.at {D:Nat→Prop} {w:World} {p:Option Addr} {n c:Nat} {ss:List (List UInt8)} (h:SS D w (.slice p n c) ss) {k:Nat} {x:List UInt8} (hk:ss[k]? =some x):∃b o,p=some ⟨b,o,none⟩∧D b∧w.cell? ⟨b,o+k,none⟩=some (str x):=by
 obtain⟨hj,e⟩:=List.getElem?_eq_some_iff.1 hk
 obtain⟨p',c',h1,_,_,_,h4⟩:=h
 injection h1 with h1
 subst h1
 rcases h4 with rfl|⟨b,o,e1,h5,_,h6⟩
 · simp at hj
 · exact⟨b,o,e1,h5,by rw[h6 k hj,e]⟩
theorem SS.below {D:Nat→Prop} {K:Nat} {w w':World} {v:Value} {ss:List (List UInt8)} (h:SS D w v ss) (hb:Below K w w') (hK:w.heap.size≤K):SS D w' v ss:=by
 obtain⟨p,c,h1,h2,h3,hl,h4⟩:=h
 refine⟨p,c,h1,h2,h3,hl,?_⟩
 rcases h4 with h4|⟨b,o,e1,h5,h6,h7⟩
 · exact .inl h4
 · exact .inr ⟨b,o,e1,h5,Nat.lt_of_lt_of_le h6 hb.size,λj hj=>by rw[hb.cell (by show b<K;omega)];exact h7 j hj⟩
theorem SS.mono {D D':Nat→Prop} {w:World} {v:Value} {ss:List (List UInt8)} (h:SS D w v ss) (hD:∀b,D b→D' b):SS D' w v ss:=by
 obtain⟨p,c,h1,h2,h3,hl,h4⟩:=h
 refine⟨p,c,h1,h2,h3,hl,?_⟩
 rcases h4 with h4|⟨b,o,e1,h5,h6,h7⟩
 · exact .inl h4
 · exact .inr ⟨b,o,e1,hD _ h5,h6,h7⟩
theorem SS.set {D:Nat→Prop} {w:World} {v:Value} {ss:List (List UInt8)} (h:SS D w v ss) {a:Addr} (ha:∀b,D b→b≠a.block) (u:Value):SS D (w.setCell a u) v ss:=by
 obtain⟨p,c,h1,h2,h3,hl,h4⟩:=h
 refine⟨p,c,h1,h2,h3,hl,?_⟩
 rcases h4 with h4|⟨b,o,e1,h5,h6,h7⟩
 · exact .inl h4
 · refine .inr ⟨b,o,e1,h5,by simpa[World.setCell] using h6,λj hj=>?_⟩
   rw[World.cell?_of_block (w:=w) (heap_setCell_other w a _ u (ha b h5))];exact h7 j hj
theorem xO {w w':World} {b:Nat} (h:w'.heap[b]? =w.heap[b]?) (hb:b<w.heap.size):b<w'.heap.size:=by
 rw[Array.getElem?_eq_getElem hb] at h
 exact(Array.getElem?_eq_some_iff.1 h).1
theorem SS.agree {D:Nat→Prop} {w w':World} {v:Value} {ss:List (List UInt8)} (h:SS D w v ss) (hk:∀b,D b→b<w.heap.size→w'.heap[b]? =w.heap[b]?):SS D w' v ss:=by
 obtain⟨p,c,h1,h2,h3,hl,h4⟩:=h
 refine⟨p,c,h1,h2,h3,hl,?_⟩
 rcases h4 with h4|⟨b,o,e1,h5,h6,h7⟩
 · exact .inl h4
 · refine .inr ⟨b,o,e1,h5,xO (hk b h5 h6) h6,λj hj=>?_⟩
   rw[World.cell?_of_block (w:=w) (a:=⟨b,o+j,none⟩) (hk b h5 h6)];exact h7 j hj
theorem SS.fresh {D:Nat→Prop} {w:World} {v:Value} {ss:List (List UInt8)} (h:SS D w v ss):SS (λb=>D b∧b<w.heap.size) w v ss:=by
 obtain⟨p,c,h1,h2,h3,hl,h4⟩:=h
 refine⟨p,c,h1,h2,h3,hl,?_⟩
 rcases h4 with h4|⟨b,o,e1,h5,h6,h7⟩
 · exact .inl h4
 · exact .inr ⟨b,o,e1,⟨h5,h6⟩,h6,h7⟩
theorem SS.nil (D:Nat→Prop) (w:World) (p:Option Addr) (c:Nat):SS D w (.slice p 0 c) []:=⟨p,c,rfl,Nat.zero_le _,Nat.zero_le _,(λ_ h=>by cases h),.inl rfl⟩
theorem SS.new (D:Nat→Prop) (w:World) (hB:D w.heap.size) (ss:List (List UInt8)) (t:TypeId) (z:Nat×Nat) (h:ss.length≤maxLen) (hl:∀s∈ss,s.length≤maxLen):SS D (w.alloc (.cells (aB ss).toArray t z)) (.slice (some ⟨w.heap.size,0,none⟩) ss.length ss.length) ss:=by
 refine⟨_,_,rfl,nl _,h,hl,.inr ⟨w.heap.size,0,rfl,hB,by simp,λj hj=>?_⟩⟩
 have hh:=heap_alloc_new w (.cells (aB ss).toArray t z)
 rw[Nat.zero_add]
 refine(ak hh j).trans ?_
 simp[aB,hj]
theorem SS.newAt {D:Nat→Prop} {n:Nat} {w:World} (hn:w.heap.size=n) (hB:D n) (ss:List (List UInt8)) (t:TypeId) (z:Nat×Nat) (h:ss.length≤maxLen) (hl:∀s∈ss,s.length≤maxLen):SS D (w.alloc (.cells (aB ss).toArray t z)) (.slice (some ⟨n,0,none⟩) ss.length ss.length) ss:=by
 subst hn
 exact SS.new D w hB ss t z h hl
theorem SS.bH {w:World} {base:Nat} {e:TypeId} {v:Value} {ss:List (List UInt8)} (h:w.ownsRow base e 1 v ss.length (aB ss)) (hl:∀s∈ss,s.length≤maxLen) {D:Nat→Prop} (hD:∀b,v.ownBlock=some b→D b):SS D w v ss:=by
 have hlt:=λb e=>aK h (b:=b) e
 rcases h.2 with⟨rfl,h0⟩|⟨g,cap,cur,rfl,hg,hh,h1,h2,h3,h4⟩
 · have e0:ss=[]:=List.length_eq_zero_iff.1 (by omega)
   subst e0;exact SS.nil _ _ _ _
 · refine⟨_,_,rfl,by omega,by omega,hl,.inr ⟨g,0,rfl,hD g rfl,hlt g rfl,λj hj=>?_⟩⟩
   have:=h.cells (g:=g) rfl j _ (iJ ss j hj)
   rwa [show(⟨g,0,none⟩:Addr).add j=⟨g,0+j,none⟩ from by unfold Addr.add;simp;omega] at this
def aT (D:Nat→Prop) (w:World) (v:Value) (x:bP):Prop:=
 ∃a s,v=.agg #[.bool x.iter,a,str x.res,s]∧x.res.length≤maxLen∧SS D w a x.args∧SS D w s x.sigs
theorem aT.below {D:Nat→Prop} {K:Nat} {w w':World} {v:Value} {x:bP} (h:aT D w v x) (hb:Below K w w') (hK:w.heap.size≤K):aT D w' v x:=by
 obtain⟨a,s,h1,h4,h2,h3⟩:=h
 exact⟨a,s,h1,h4,h2.below hb hK,h3.below hb hK⟩
theorem aT.mono {D D':Nat→Prop} {w:World} {v:Value} {x:bP} (h:aT D w v x) (hD:∀b,D b→D' b):aT D' w v x:=by
 obtain⟨a,s,h1,h4,h2,h3⟩:=h
 exact⟨a,s,h1,h4,h2.mono hD,h3.mono hD⟩
theorem aT.zero (D:Nat→Prop) (w:World):aT D w (.agg #[.bool false,.slice none 0 0,str [],.slice none 0 0]) .zero:=⟨_,_,rfl,Nat.zero_le _,SS.nil _ _ _ _,SS.nil _ _ _ _⟩
def qm (x:aL):Prop:=x.name.length≤maxLen∧x.sig.res.length≤maxLen
def aY (D:Nat→Prop) (w:World) (v:Value) (l:List aL):Prop:=
 ∃p c,v=.slice p l.length c∧l.length≤c∧l.length≤maxLen∧(∀x∈l,qm x)∧(l=[]∨∃b o,p=some ⟨b,o,none⟩∧D b∧b<w.heap.size∧∀j (h:j<l.length),∃a s,SS D w a l[j].sig.args∧SS D w s l[j].sig.sigs∧
  w.cell? ⟨b,o+j * 5,none⟩=some (str l[j].name)∧w.cell? ⟨b,o+j * 5+1,none⟩=some (.bool l[j].sig.iter)∧w.cell? ⟨b,o+j * 5+2,none⟩=some a∧w.cell? ⟨b,o+j * 5+3,none⟩=some (str l[j].sig.res)∧w.cell? ⟨b,o+j * 5+4,none⟩=some s)
theorem aY.shape {D:Nat→Prop} {w:World} {v:Value} {l:List aL} (h:aY D w v l):∃p c,v=.slice p l.length c∧l.length≤c∧l.length≤maxLen∧∀x∈l,qm x:=by
 obtain⟨p,c,h1,h2,h3,h4,_⟩:=h
 exact⟨p,c,h1,h2,h3,h4⟩
theorem aY.at {D:Nat→Prop} {w:World} {p:Option Addr} {n c:Nat} {l:List aL} (h:aY D w (.slice p n c) l) {k:Nat} {x:aL} (hk:l[k]? =some x):∃b o a s,p=some ⟨b,o,none⟩∧D b∧qm x∧SS D w a x.sig.args∧SS D w s x.sig.sigs∧
 w.cell? ⟨b,o+k * 5,none⟩=some (str x.name)∧w.cell? ⟨b,o+k * 5+1,none⟩=some (.bool x.sig.iter)∧w.cell? ⟨b,o+k * 5+2,none⟩=some a∧w.cell? ⟨b,o+k * 5+3,none⟩=some (str x.sig.res)∧w.cell? ⟨b,o+k * 5+4,none⟩=some s:=by
 obtain⟨hj,e⟩:=List.getElem?_eq_some_iff.1 hk
 obtain⟨p',c',h1,_,_,hl,h4⟩:=h
 have hx:=hl x (List.mem_of_getElem? hk)
 injection h1 with h1
 subst h1
 rcases h4 with rfl|⟨b,o,e1,h5,_,h6⟩
 · simp at hj
 · obtain⟨a,s,h7,h8,h9⟩:=h6 k hj
   rw[e] at h7 h8 h9;exact⟨b,o,a,s,e1,h5,hx,h7,h8,h9⟩
theorem aY.below {D:Nat→Prop} {K:Nat} {w w':World} {v:Value} {l:List aL} (h:aY D w v l) (hb:Below K w w') (hK:w.heap.size≤K):aY D w' v l:=by
 obtain⟨p,c,h1,h2,h3,hl,h4⟩:=h
 refine⟨p,c,h1,h2,h3,hl,?_⟩
 rcases h4 with h4|⟨b,o,e1,h5,h6,h7⟩
 · exact .inl h4
 · refine .inr ⟨b,o,e1,h5,Nat.lt_of_lt_of_le h6 hb.size,λj hj=>?_⟩
   obtain⟨a,s,k1,k2,k3⟩:=h7 j hj;have hc:∀i,w'.cell? ⟨b,i,none⟩=w.cell? ⟨b,i,none⟩:=λi=>hb.cell (by show b<K;omega)
   exact⟨a,s,k1.below hb hK,k2.below hb hK,by rw[hc,hc,hc,hc,hc];exact k3⟩
theorem aY.mono {D D':Nat→Prop} {w:World} {v:Value} {l:List aL} (h:aY D w v l) (hD:∀b,D b→D' b):aY D' w v l:=by
 obtain⟨p,c,h1,h2,h3,hl,h4⟩:=h
 refine⟨p,c,h1,h2,h3,hl,?_⟩
 rcases h4 with h4|⟨b,o,e1,h5,h6,h7⟩
 · exact .inl h4
 · refine .inr ⟨b,o,e1,hD _ h5,h6,λj hj=>?_⟩
   obtain⟨a,s,k1,k2,k3⟩:=h7 j hj;exact⟨a,s,k1.mono hD,k2.mono hD,k3⟩
theorem aY.agree {D:Nat→Prop} {w w':World} {v:Value} {l:List aL} (h:aY D w v l) (hk:∀b,D b→b<w.heap.size→w'.heap[b]? =w.heap[b]?):aY D w' v l:=by
 obtain⟨p,c,h1,h2,h3,hl,h4⟩:=h
 refine⟨p,c,h1,h2,h3,hl,?_⟩
 rcases h4 with h4|⟨b,o,e1,h5,h6,h7⟩
 · exact .inl h4
 · refine .inr ⟨b,o,e1,h5,xO (hk b h5 h6) h6,λj hj=>?_⟩
   obtain⟨x,s,k1,k2,k3⟩:=h7 j hj;have hc:∀i,w'.cell? ⟨b,i,none⟩=w.cell? ⟨b,i,none⟩:=λi=>World.cell?_of_block (w:=w) (a:=⟨b,i,none⟩) (hk b h5 h6)
   exact⟨x,s,k1.agree hk,k2.agree hk,by rw[hc,hc,hc,hc,hc];exact k3⟩
theorem aY.fresh {D:Nat→Prop} {w:World} {v:Value} {l:List aL} (h:aY D w v l):aY (λb=>D b∧b<w.heap.size) w v l:=by
 obtain⟨p,c,h1,h2,h3,hl,h4⟩:=h
 refine⟨p,c,h1,h2,h3,hl,?_⟩
 rcases h4 with h4|⟨b,o,e1,h5,h6,h7⟩
 · exact .inl h4
 · refine .inr ⟨b,o,e1,⟨h5,h6⟩,h6,λj hj=>?_⟩
   obtain⟨a,s,k1,k2,k3⟩:=h7 j hj;exact⟨a,s,k1.fresh,k2.fresh,k3⟩
theorem aY.set {D:Nat→Prop} {w:World} {v:Value} {l:List aL} (h:aY D w v l) {a:Addr} (ha:∀b,D b→b≠a.block) (u:Value):aY D (w.setCell a u) v l:=by
 obtain⟨p,c,h1,h2,h3,hl,h4⟩:=h
 refine⟨p,c,h1,h2,h3,hl,?_⟩
 rcases h4 with h4|⟨b,o,e1,h5,h6,h7⟩
 · exact .inl h4
 · refine .inr ⟨b,o,e1,h5,by simpa[World.setCell] using h6,λj hj=>?_⟩
   obtain⟨x,s,k1,k2,k3⟩:=h7 j hj;have hc:∀i,(w.setCell a u).cell? ⟨b,i,none⟩=w.cell? ⟨b,i,none⟩:=λi=>World.cell?_of_block (w:=w) (heap_setCell_other w a _ u (ha b h5))
   exact⟨x,s,k1.set ha u,k2.set ha u,by rw[hc,hc,hc,hc,hc];exact k3⟩
theorem aY.nil (D:Nat→Prop) (w:World) (p:Option Addr) (c:Nat):aY D w (.slice p 0 c) []:=⟨p,c,rfl,Nat.zero_le _,Nat.zero_le _,(λ_ h=>by cases h),.inl rfl⟩
def bl (D:Nat→Prop) (w:World):List Value→List aL→Prop
 | cs,[]=>cs=[]
 | cs,x::l=>∃a s r,cs=str x.name::.bool x.sig.iter::a::str x.sig.res::s::r∧qm x∧SS D w a x.sig.args∧SS D w s x.sig.sigs∧bl D w r l
theorem bl.below {D:Nat→Prop} {K:Nat} {w w':World} (hb:Below K w w') (hK:w.heap.size≤K):∀{l:List aL} {cs:List Value},bl D w cs l→bl D w' cs l
 | [],_,h=>h
 | _::_,_,⟨a,s,r,h1,h0,h2,h3,h4⟩=>⟨a,s,r,h1,h0,h2.below hb hK,h3.below hb hK,bl.below hb hK h4⟩
theorem bl.le {D:Nat→Prop} {w:World}:∀{l:List aL} {cs:List Value},bl D w cs l→∀x∈l,qm x
 | [],_,_=>λx h=>by cases h
 | y::l,_,⟨_,_,_,_,h0,_,_,h4⟩=>λx h=>by
  rcases List.mem_cons.1 h with rfl|h
  · exact h0
  · exact bl.le h4 x h
theorem bl.Hj {D D':Nat→Prop} {w:World} (hD:∀b,D b→D' b):∀{l:List aL} {cs:List Value},bl D w cs l→bl D' w cs l
 | [],_,h=>h
 | _::_,_,⟨a,s,r,h1,h0,h2,h3,h4⟩=>⟨a,s,r,h1,h0,h2.mono hD,h3.mono hD,bl.Hj hD h4⟩
theorem bl.mono {D D':Nat→Prop} {w:World} {l:List aL} {cs:List Value} (h:bl D w cs l) (hD:∀b,D b→D' b):bl D' w cs l:=bl.Hj hD h
theorem bl.get {D:Nat→Prop} {w:World}:∀{l:List aL} {cs:List Value},bl D w cs l→∀j (h:j<l.length),∃a s,SS D w a l[j].sig.args∧SS D w s l[j].sig.sigs∧
 cs[j * 5]? =some (str l[j].name)∧cs[j * 5+1]? =some (.bool l[j].sig.iter)∧cs[j * 5+2]? =some a∧cs[j * 5+3]? =some (str l[j].sig.res)∧cs[j * 5+4]? =some s
 | [],_,_=>λj h=>by simp at h
 | x::l,_,⟨a,s,r,h1,_,h2,h3,h4⟩=>λj h=>by
  subst h1;cases j with
  | zero=>exact⟨a,s,h2,h3,rfl,rfl,rfl,rfl,rfl⟩
  | succ j=>
   have hj:j<l.length:=by simpa using h
   obtain⟨a',s',k1,k2,k3,k4,k5,k6,k7⟩:=bl.get h4 j hj;have e:(j+1) * 5=j * 5+1+1+1+1+1:=by omega
   refine⟨a',s',k1,k2,?_⟩;rw[e];exact⟨by simpa using k3,by simpa using k4,by simpa using k5,by simpa using k6,by simpa using k7⟩
theorem bl.append {D:Nat→Prop} {w:World} {k:List aL} {ds:List Value} (hk:bl D w ds k):∀{l:List aL} {cs:List Value},bl D w cs l→bl D w (cs++ds) (l++k)
 | [],_,h=>by rw[show _=_ from h];exact hk
 | _::_,_,⟨a',s',r,h1,k0,k2,k3,k4⟩=>by subst h1;exact⟨a',s',_,rfl,k0,k2,k3,bl.append hk k4⟩
theorem aY.bH {w:World} {base:Nat} {e:TypeId} {v:Value} {l:List aL} {cs:List Value} (h:w.ownsRow base e 5 v l.length cs) {D:Nat→Prop} (hD:∀b,v.ownBlock=some b→D b) (hc:bl D w cs l):aY D w v l:=by
 have hlt:=λb e=>aK h (b:=b) e
 rcases h.2 with⟨rfl,h0⟩|⟨g,cap,cur,rfl,hg,hh,h1,h2,h3,h4⟩
 · have e0:l=[]:=List.length_eq_zero_iff.1 (by omega)
   subst e0;exact aY.nil _ _ _ _
 · refine⟨_,_,rfl,by omega,by omega,hc.le,.inr ⟨g,0,rfl,hD g rfl,hlt g rfl,λj hj=>?_⟩⟩
   obtain⟨a,s,k1,k2,k3,k4,k5,k6,k7⟩:=hc.get j hj;have hcell:∀i u,cs[i]? =some u→w.cell? ⟨g,0+i,none⟩=some u:=λi u hu=>by
    have:=h.cells (g:=g) rfl i u hu
    rwa [show(⟨g,0,none⟩:Addr).add i=⟨g,0+i,none⟩ from by unfold Addr.add;simp;omega] at this
   exact⟨a,s,k1,k2,hcell _ _ k3,hcell _ _ k4,hcell _ _ k5,hcell _ _ k6,hcell _ _ k7⟩
theorem aY.new {D:Nat→Prop} (w:World) (hB:D w.heap.size) {l:List aL} {cs:List Value} (t:TypeId) (z:Nat×Nat) (hm:l.length≤maxLen) (hc:bl D w cs l):aY D (w.alloc (.cells cs.toArray t z)) (.slice (some ⟨w.heap.size,0,none⟩) l.length l.length) l:=by
 have hb:=(zb w).alloc zr (.cells cs.toArray t z)
 refine⟨_,_,rfl,nl _,hm,hc.le,.inr ⟨w.heap.size,0,rfl,hB,by simp,λj hj=>?_⟩⟩
 obtain⟨a,s,k1,k2,k3,k4,k5,k6,k7⟩:=hc.get j hj
 have hh:=heap_alloc_new w (.cells cs.toArray t z)
 have hcell:∀i u,cs[i]? =some u→(w.alloc (.cells cs.toArray t z)).cell? ⟨w.heap.size,0+i,none⟩=some u:=λi u hu=>by
  rw[Nat.zero_add];refine(ak hh i).trans ?_
  simpa using hu
 exact⟨a,s,k1.below hb zr,k2.below hb zr,hcell _ _ k3,hcell _ _ k4,hcell _ _ k5,hcell _ _ k6,hcell _ _ k7⟩
def dO (D:Nat→Prop) (w:World) (v:Value) (f:aA):Prop:=
 ∃n o,v=.agg #[str f.name,.int .u8 f.kind,.bool f.par,n,o]∧f.name.length≤maxLen∧aY D w n f.ag∧aY D w o f.ops
theorem dO.below {D:Nat→Prop} {K:Nat} {w w':World} {v:Value} {f:aA} (h:dO D w v f) (hb:Below K w w') (hK:w.heap.size≤K):dO D w' v f:=by
 obtain⟨n,o,h1,h0,h2,h3⟩:=h
 exact⟨n,o,h1,h0,h2.below hb hK,h3.below hb hK⟩
theorem dO.mono {D D':Nat→Prop} {w:World} {v:Value} {f:aA} (h:dO D w v f) (hD:∀b,D b→D' b):dO D' w v f:=by
 obtain⟨n,o,h1,h0,h2,h3⟩:=h
 exact⟨n,o,h1,h0,h2.mono hD,h3.mono hD⟩
theorem dO.set {D:Nat→Prop} {w:World} {v:Value} {f:aA} (h:dO D w v f) {a:Addr} (ha:∀b,D b→b≠a.block) (u:Value):dO D (w.setCell a u) v f:=by
 obtain⟨n,o,h1,h0,h2,h3⟩:=h
 exact⟨n,o,h1,h0,h2.set ha u,h3.set ha u⟩
theorem dO.agree {D:Nat→Prop} {w w':World} {v:Value} {f:aA} (h:dO D w v f) (hk:∀b,D b→b<w.heap.size→w'.heap[b]? =w.heap[b]?):dO D w' v f:=by
 obtain⟨n,o,h1,h0,h2,h3⟩:=h
 exact⟨n,o,h1,h0,h2.agree hk,h3.agree hk⟩
theorem dO.fresh {D:Nat→Prop} {w:World} {v:Value} {f:aA} (h:dO D w v f):dO (λb=>D b∧b<w.heap.size) w v f:=by
 obtain⟨n,o,h1,h0,h2,h3⟩:=h
 exact⟨n,o,h1,h0,h2.fresh,h3.fresh⟩
def bG (D:Nat→Prop) (w:World) (v:Value) (l:List aA):Prop:=
 ∃p c,v=.slice p l.length c∧l.length≤c∧l.length≤maxLen∧(∀f∈l,f.name.length≤maxLen)∧(l=[]∨∃b o,p=some ⟨b,o,none⟩∧D b∧b<w.heap.size∧∀j (h:j<l.length),∃n q,aY D w n l[j].ag∧aY D w q l[j].ops∧
  w.cell? ⟨b,o+j * 5,none⟩=some (str l[j].name)∧w.cell? ⟨b,o+j * 5+1,none⟩=some (.int .u8 l[j].kind)∧w.cell? ⟨b,o+j * 5+2,none⟩=some (.bool l[j].par)∧w.cell? ⟨b,o+j * 5+3,none⟩=some n∧w.cell? ⟨b,o+j * 5+4,none⟩=some q)
theorem bG.shape {D:Nat→Prop} {w:World} {v:Value} {l:List aA} (h:bG D w v l):∃p c,v=.slice p l.length c∧l.length≤c∧l.length≤maxLen∧∀f∈l,f.name.length≤maxLen:=by
 obtain⟨p,c,h1,h2,h3,h4,_⟩:=h
 exact⟨p,c,h1,h2,h3,h4⟩
theorem bG.at {D:Nat→Prop} {w:World} {p:Option Addr} {n c:Nat} {l:List aA} (h:bG D w (.slice p n c) l) {k:Nat} {x:aA} (hk:l[k]? =some x):∃b o nv ov,p=some ⟨b,o,none⟩∧D b∧x.name.length≤maxLen∧aY D w nv x.ag∧aY D w ov x.ops∧
 w.cell? ⟨b,o+k * 5,none⟩=some (str x.name)∧w.cell? ⟨b,o+k * 5+1,none⟩=some (.int .u8 x.kind)∧w.cell? ⟨b,o+k * 5+2,none⟩=some (.bool x.par)∧w.cell? ⟨b,o+k * 5+3,none⟩=some nv∧w.cell? ⟨b,o+k * 5+4,none⟩=some ov:=by
 obtain⟨hj,e⟩:=List.getElem?_eq_some_iff.1 hk
 obtain⟨p',c',h1,_,_,hl,h4⟩:=h
 have hx:=hl x (List.mem_of_getElem? hk)
 injection h1 with h1
 subst h1
 rcases h4 with rfl|⟨b,o,e1,h5,_,h6⟩
 · simp at hj
 · obtain⟨a,s,h7,h8,h9⟩:=h6 k hj
   rw[e] at h7 h8 h9;exact⟨b,o,a,s,e1,h5,hx,h7,h8,h9⟩
theorem bG.below {D:Nat→Prop} {K:Nat} {w w':World} {v:Value} {l:List aA} (h:bG D w v l) (hb:Below K w w') (hK:w.heap.size≤K):bG D w' v l:=by
 obtain⟨p,c,h1,h2,h3,hl,h4⟩:=h
 refine⟨p,c,h1,h2,h3,hl,?_⟩
 rcases h4 with h4|⟨b,o,e1,h5,h6,h7⟩
 · exact .inl h4
 · refine .inr ⟨b,o,e1,h5,Nat.lt_of_lt_of_le h6 hb.size,λj hj=>?_⟩
   obtain⟨a,s,k1,k2,k3⟩:=h7 j hj;have hc:∀i,w'.cell? ⟨b,i,none⟩=w.cell? ⟨b,i,none⟩:=λi=>hb.cell (by show b<K;omega)
   exact⟨a,s,k1.below hb hK,k2.below hb hK,by rw[hc,hc,hc,hc,hc];exact k3⟩
theorem bG.nil (D:Nat→Prop) (w:World) (p:Option Addr) (c:Nat):bG D w (.slice p 0 c) []:=⟨p,c,rfl,Nat.zero_le _,Nat.zero_le _,(λ_ h=>by cases h),.inl rfl⟩
end
open Go.RowKit Go.Maps
theorem nk {H:Type} {P:Program} {e:TypeId} (he:P.underlying e=some .bool) {v:Value} {z:DataW H×List MemPlace} (h:plainElem P e v=some z):∃a,v=.bool a∧z=(.lit (.bool a),[]):=by
 unfold plainElem at h
 rw[he] at h
 cases v<;>simp at h
 exact⟨_,rfl,h.symm⟩
theorem qu (u z:DataW Unit) (k:Lit):∀(acc:List Lit) (m:DataW Unit),IsMap m→(∀x∈acc,WideAt.IsKeyLit x)→(acc.foldl (λm x=>m.put x u) m).atKey k z=if acc.any (λx=>x.sameKey k) then u else m.atKey k z
 | [],m,_,_=>by simp
 | x::acc,m,hm,h=>by
  have hx:=h x (by simp);rw[List.foldl_cons,qu u z k acc _ (hm.put x u) (λy hy=>h y (by simp[hy])),List.any_cons]
  by_cases hk:x.sameKey k=true
  · have e:=WideAt.sameKey_eq hk
    subst e;rw[atKey_put_same hm hx];simp[hk]
  · have hne:k≠x:=λe=>hk (by rw[e];exact WideAt.sameKey_self hx)
    rw[atKey_put_other hne];simp[hk]
def keysOf (acc:List (List UInt8)):List Lit:=acc.map Lit.string
theorem rj (acc:List (List UInt8)):∀x∈keysOf acc,WideAt.IsKeyLit x:=by
 intro x hx
 simp[keysOf] at hx
 obtain⟨a,_,rfl⟩:=hx
 trivial
theorem ri (acc:List (List UInt8)) (k:List UInt8):(keysOf acc).any (λx=>x.sameKey (.string k))=acc.contains k:=by
 induction acc with
 | nil=>rfl
 | cons a acc ih=>
  have hs:(Lit.string a).sameKey (.string k)=(k==a):=by
   by_cases h:a=k
   · subst h;simp[Lit.sameKey]
   · rw[sameKey_ne (by simpa using h)];simp[Ne.symm h]
  rw[keysOf,List.map_cons,List.any_cons,←keysOf,ih,List.contains_cons,hs]
def aS (w:World) (b:Nat) (acc:List (List UInt8)):Prop:=
 w.ownsMap Tryz.prog 9 (plainElem (H:=Unit) Tryz.prog 4) b acc.length (setOf (.lit (.bool true)) (keysOf acc))
theorem aS.made (w:World):aS (w.alloc (.map #[] 0)) w.heap.size []:=World.ownsMap_made w _ _ _
theorem aS.kept {w w':World} {b:Nat} {acc:List (List UInt8)} {row:Option Nat} (h:aS w b acc) (hg:w.grownBy w' row) (hne:some b≠row):aS w' b acc:=World.ownsMap.kept h hg hne
theorem aS.lt {w:World} {b:Nat} {acc:List (List UInt8)} (h:aS w b acc):b<w.heap.size:=World.ownsMap.lt h
theorem aS.of_block {w w':World} {b:Nat} {acc:List (List UInt8)} (h:aS w b acc) (hb:w'.heap[b]? =w.heap[b]?):aS w' b acc:=by
 obtain⟨es,clock,h1,rest⟩:=h
 exact⟨es,clock,hb.trans h1,rest⟩
theorem Fm (w:World):(zeroValue 4).run Tryz.prog w=.ok (.bool false) w:=by kernel_rfl
theorem aS.look {w:World} {b:Nat} {acc:List (List UInt8)} (h:aS w b acc) {k:List UInt8} (hk:k.length≤maxLen):
 (Instr.lookup 112 (.map (some b)) (str k) false).run Tryz.prog w=.ok (.bool (hasB acc k)) w:=by
 obtain⟨v,ps,hrun,hv⟩:=World.ownsMap.lookup h (string_keyed Tryz.underlying9) Tryz.underlying112 (Fm w) (plainElem_bool Tryz.underlying4 false) (WideMaps.keyOf_string_mk (s:=⟨k.toArray⟩) Tryz.underlying9 (by simpa[ByteArray.size] using hk))
 obtain⟨a,rfl,hz⟩:=nk Tryz.underlying4 hv
 simp only[Prod.mk.injEq] at hz
 have h1:=hz.1
 simp only[setOf] at h1
 rw[qu _ _ _ _ _ isMap_empty (rj acc),ri] at h1
 rw[hrun]
 unfold hasB
 cases hc:acc.contains k<;>(rw[hc] at h1;simp[DataW.atKey] at h1;rw[h1])
theorem jb (w:World) {ops:Array Oper} {rest:List Oper} {o:Oper} {a:Act} {Q:Exit→Act→World→Prop}
 (hg:o.guard=none) (m x v:Operand) (hop:o.op=Op.mapUpdate 112 m x v) (b:Nat) (acc:List (List UInt8))
 (hm:a.eval m=.map (some b)) (hown:aS w b acc) (hn:acc.length<maxLen) (k:List UInt8) (hx:a.eval x=str k) (hv:a.eval v=.bool true) (hk:k.length≤maxLen)
 (hK:∀w',aS w' b (acc++[k])→w.grownBy w' (some b)→wpList Tryz.prog ops Q rest (a.put o.dst undef) w'):
 wpList Tryz.prog ops Q (o::rest) a w:=by
 refine wpList_mapUpdate_own w hg m x v _ hop _ _ (string_keyed Tryz.underlying9) Tryz.underlying112 _ b acc.length _ hm hown hn _ _ _ hx hv (WideMaps.keyOf_string_mk (s:=⟨k.toArray⟩) Tryz.underlying9 (by simpa[ByteArray.size] using hk)) (.lit (.bool true)) [] (plainElem_bool Tryz.underlying4 true) ?_
 intro w' h1 h2
 refine hK w' ?_ h2
 unfold aS
 rw[show keysOf (acc++[k])=keysOf acc++[Lit.string k] from by simp[keysOf],setOf_snoc,List.length_append]
 exact h1
end Go.Proofs.YtakgjcfkdemipaaGreatDoor
