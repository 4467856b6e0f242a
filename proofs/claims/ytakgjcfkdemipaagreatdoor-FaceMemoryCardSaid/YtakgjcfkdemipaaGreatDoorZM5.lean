/-
  Lemmas: contracts: the reference's list, arg, SameParts, has (argusref03). Conditions: bounds of lengths; the variable strings.asciiSpace.
-/
import Derived.Test.YtakgjcfkdemipaaGreatDoorZB12
import Derived.Test.YtakgjcfkdemipaaGreatDoorZBn
import Derived.Test.YtakgjcfkdemipaaGreatDoorZM0
set_option maxHeartbeats 6400000
set_option maxRecDepth 8000
namespace Go.Proofs.YtakgjcfkdemipaaGreatDoor
open Go.RowKit
theorem y6.start {k:Nat} {n:List UInt8} {fo:Fo} (h:(Tr.mk k n fo).ok) (hk:k=5∨k=6):y6 (Tr.txt ⟨k,n,fo⟩) fo (aj (Tr.txt ⟨k,n,fo⟩)+1) []:=by
 have h':Wf none (.cons [] k n fo .nil):=h
 have e:(Tr.mk k n fo).txt=(Fo.cons [] k n fo .nil).tx:=by rw[Tr.eA];rfl
 have hw:=mh h' (by omega)
 rw[e,Fo.cN,qD _ hw _ (qw _)]
 clear h e
 cases h' with
 | par=>simp at hk
 | word _ h3=>omega
 | arr=>simp at hk
 | nam=>simp at hk
 | app=>simp at hk
 | rcd _ _ _ hk2 h hl=>
  rw[Fo.ji h.ne];refine⟨fo,by simp,by simp,.inr ⟨[],h,?_⟩⟩;rw[←List.drop_drop,List.drop_left];rfl
set_option maxRecDepth 100000 in
theorem veb (t:Tr) (h:t.ok) (hk:t.k=5∨t.k=6) (hl:t.txt.length≤100) (hf:t.sub.len≤6) (w:World):
 Calls Tryz.prog 200 #[str t.txt] w λe w'=>∃v,e=.returned v∧Dd w' v t.sub.pts∧Below w.heap.size w w':=by
 have hS:=y6.start (k:=t.k) (n:=t.n) (fo:=t.sub) h hk
 have hc0:=bX t.txt
 obtain⟨i0,gw,hz0,hz1,hz2⟩:=info_parts IY
 change y6 t.txt t.sub (aj t.txt+1) [] at hS
 have hb0:aj t.txt+1≤t.txt.length:=by obtain⟨_,_,h,_⟩:=hS;exact h
 generalize t.txt=s at *
 generalize t.sub=fo at *
 have HS:=zh hS
 clear hS h hk
 go_enter Tryz.func200,Tryz.ntmps200
 go_wp2_with (go_at_call 162;refine(aX _ _ (by unfold maxLen;omega)).mono ?_;rintro e w1 ⟨rfl,rfl⟩)
 go_loopw [3,4] (λo y wr=>∃(i:Nat) (ps:List (List UInt8×List UInt8)),i≤s.length∧y=.int .i64 i∧ps.length≤6∧wr.ownsRow w.heap.size 155 2 o ps.length (p5 ps)∧Hid (y6 s fo i ps)∧Below w.heap.size w wr) (λ_ y _=>s.length - (intOf y).toNat)
 case atStart=>exact⟨aj s+1,[],hb0,by go_num,by simp,by simpa[p5] using World.ownsRow_nil _ _ _ _,HS,zb _⟩
 case round =>
  obtain⟨i,ps,hi,rfl,vo0,hown,HL,hb⟩:=hrel;obtain⟨po,co,rfl⟩:=bu hown;rcases HL.out.cases with⟨rfl,hz⟩|⟨n,m,a,b,hlt,hn,ha,hm,hbb,hle,hnx,hpl⟩
  · obtain rfl:fo.pts=ps:=hz
    go_wp2_with fail;go_ret;exact⟨_,rfl,Dd.bH hown,hb⟩
  · have hK:=λW=>aX (s.drop i) W (by simp;unfold maxLen;omega)
    have hR:=λW=>yt (s.drop (i+n+1)) 0 W (Int.le_refl _) (by simp;omega)
    rw[hn] at hK;rw[hm] at hR;generalize iZ (s.drop (i+n+1))=L at hR;have HA:=zh ha;have vlr:=zh hbb;have vh8:=zh hnx;clear ha hbb hnx hn hm HL;go_upto_region 6 with(first
     | (go_at_call 162;refine(hK _).mono ?_;clear hK;rintro e w1 ⟨rfl,rfl⟩)
     | (go_at_call 140;refine(hR _).mono ?_;clear hR;rintro e w2 ⟨rfl,aC⟩))
    have aH:=hb.trans (af aC hb.size);have aP:=ay hown aC zr;have s1:IntKind.i64.wrap ((i:Int)+(n:Int))=(i:Int)+(n:Int):=by rw[IntKind.wrap_i64];omega
    have s2:IntKind.i64.wrap ((i:Int)+(n:Int)+1)=(i:Int)+(n:Int)+1:=by rw[IntKind.wrap_i64];omega
    have s3:IntKind.i64.wrap ((i:Int)+(n:Int)+1+(m:Int))=(i:Int)+(n:Int)+1+(m:Int):=by rw[IntKind.wrap_i64];omega
    have t1:((i:Int)+(n:Int)).toNat=i+n:=by omega
    have t2:((i:Int)+(n:Int)+1).toNat=i+n+1:=by omega
    have t3:((i:Int)+(n:Int)+1+(m:Int)).toNat=i+n+1+m:=by omega
    have u1:(i:Int)≤(i:Int)+(n:Int):=by omega
    have u2:(i:Int)+(n:Int)≤(s.length:Int):=by omega
    have u3:(i:Int)+(n:Int)+1≤(i:Int)+(n:Int)+1+(m:Int):=by omega
    have u4:(i:Int)+(n:Int)+1+(m:Int)≤(s.length:Int):=by omega
    have u5:(0:Int)≤(i:Int)+(n:Int)+1:=by omega
    refine wp_region_held_drew (S:=(λ_=>True)) (by kernel_rfl) ?_ (λdg=>?_)
    · trivial
    refine aF 0 29 (v:=?_) (λ_ _=>?_) ?_;rotate_left
    · go_simp
      try with_reducible rfl
    try simp only[pz,pw]
    refine aF 1 30 (v:=?_) (λ_ _=>?_) ?_;rotate_left
    · go_simp
      try with_reducible rfl
    try simp only[pz,pw]
    refine aF 2 31 (v:=?_) (λ_ _=>?_) ?_;rotate_left
    · go_simp
      try with_reducible rfl
    try simp only[pz,pw]
    refine aF 3 32 (v:=?_) (λ_ _=>?_) ?_;rotate_left
    · go_simp
      try with_reducible rfl
    try simp only[pz,pw]
    refine aF 4 33 (v:=?_) (λ_ _=>?_) ?_;rotate_left
    · go_simp
      try with_reducible rfl
    try simp only[pz,pw]
    refine aF 5 34 (v:=?_) (λ_ _=>?_) ?_;rotate_left
    · go_simp
      try with_reducible rfl
    try simp only[pz,pw]
    refine aF 6 35 (v:=?_) (λ_ _=>?_) ?_;rotate_left
    · go_simp
      try with_reducible rfl
    try simp only[pz,pw]
    refine aF 7 36 (v:=?_) (λ_ _=>?_) ?_;rotate_left
    · go_simp
      try with_reducible rfl
    try simp only[pz,pw]
    refine aF 8 37 (v:=?_) (λ_ _=>?_) ?_;rotate_left
    · go_simp
      try with_reducible rfl
    try simp only[pz,pw]
    refine aF 9 38 (v:=?_) (λ_ _=>?_) ?_;rotate_left
    · go_simp
      try with_reducible rfl
    try simp only[pz,pw]
    refine aF 10 39 (v:=?_) (λ_ _=>?_) ?_;rotate_left
    · go_simp
      try with_reducible rfl
    try simp only[pz,pw]
    refine aF 11 40 (v:=?_) (λ_ _=>?_) ?_;rotate_left
    · go_simp
      try with_reducible rfl
    try simp only[pz,pw]
    refine aF 12 41 (v:=?_) (λ_ _=>?_) ?_;rotate_left
    · go_simp
      try with_reducible rfl
    try simp only[pz,pw]
    refine aF 13 42 (v:=?_) (λ_ _=>?_) ?_;rotate_left
    · go_simp
      try with_reducible rfl
    try simp only[pz,pw]
    refine aF 14 43 (v:=?_) (λ_ _=>?_) ?_;rotate_left
    · go_simp
      try with_reducible rfl
    try simp only[pz,pw]
    refine aF 15 44 (v:=?_) (λ_ _=>?_) ?_;rotate_left
    · go_simp
      try with_reducible rfl
    try simp only[pz,pw]
    refine aF 16 45 (v:=?_) (λ_ _=>?_) ?_;rotate_left
    · go_simp
      try with_reducible rfl
    try simp only[pz,pw]
    refine aF 17 46 (v:=?_) (λ_ _=>?_) ?_;rotate_left
    · go_simp
      try with_reducible rfl
    try simp only[pz,pw]
    refine aF 18 47 (v:=?_) (λ_ _=>?_) ?_;rotate_left
    · go_simp
      try with_reducible rfl
    try simp only[pz,pw]
    refine aF 19 48 (v:=?_) (λ_ _=>?_) ?_;rotate_left
    · go_simp
      try with_reducible rfl
    try simp only[pz,pw]
    refine wpAnyH_ready (rs:=[20]) (by kernel_rfl) (by simp) ?_;refine AllReadyH.cons rfl (λK hK=>?_) AllReadyH.nil;go_simp;go_wp2_with (fail);refine hK.out _ _ ?_ (λdg=>?_)
    · trivial
    clear hK K;try simp only[pz,pw]
    refine wpAnyH_ready (rs:=[21]) (by kernel_rfl) (by simp) ?_;refine AllReadyH.cons rfl (λK hK=>?_) AllReadyH.nil;refine wp_append_own _ _ _ 151 rfl w.heap.size 155 i0 (.agg #[.string ⟨#[]⟩,.string ⟨#[]⟩]) 2 32 Fb gw hz0 hz1 hz2 rfl (by decide) (.slice po ps.length co) ps.length (p5 ps) rfl (by exact aP.alloc _) ⟨w2.heap.size,0,none⟩ 1 1 [str (List.drop i (List.take (i+n) s)),str (List.drop (i+n+1) (List.take (i+n+1+m) s))] rfl rfl (λj u h=>cell_two_new w2 _ _ _ j u h) (λx hx=>by simp at hx;rcases hx with rfl|rfl<;>rfl) (by unfold maxLen;omega) (by omega) (by have:=aH.size;simp;omega) ?_;intro v' w5 bB hgr _;refine hK.out _ _ trivial (λdg=>?_);clear hK K;try simp only[Act.put,List.setIfInBounds_toArray]
    refine wpAnyH_ready (rs:=[22]) (by kernel_rfl) (by simp) ?_;refine AllReadyH.cons rfl (λK hK=>?_) AllReadyH.nil;go_simp;refine hK.out _ _ trivial (λdg=>?_);clear hK K;refine wpAnyH_done (by kernel_rfl) ?_ _;have iu:Below w.heap.size w w5:=((aH.alloc aH.size (.cells #[str (List.drop i (List.take (i+n) s)),str (List.drop (i+n+1) (List.take (i+n+1+m) s))] 155)).drew).grown hgr (by have:=aH.size;simp;omega) (λb e=>(aP.lt b e).1);clear s1 s2 s3 t1 t2 t3 u1 u2 u3 u4 u5;go_wp2_with fail;refine⟨⟨i+n+m+2,ps++[(a,b)],hle,by go_num,by simp only[List.length_append,List.length_cons,List.length_nil];omega,?_,vh8.out,iu⟩,by simp only[intOf];omega⟩;rw[List.length_append,CD,←HA.out,←vlr.out];exact bB
theorem vce {s:List UInt8} {l:List Nat} {T:Tr} (h:aq s=(0,T)) (hk:l.contains T.k=true):mz s l=(0,T):=by unfold mz;rw[h];simp only[if_true];rw[hk];rfl
theorem vd5 {s:List UInt8} {l:List Nat} {T:Tr} (h:aq s=(0,T)) (hk:l.contains T.k=false):mz s l=(30,⟨0,[],.nil⟩):=by unfold mz;rw[h];simp only[if_true];rw[hk];rfl
theorem vcd {s:List UInt8} {l:List Nat} {T:Tr} {c:Nat} (h:aq s=(c,T)) (hc:c≠0):mz s l=(c,⟨0,[],.nil⟩):=by unfold mz;rw[h];simp only;rw[if_neg hc,(mP h hc).2]
theorem vdj {T:Tr} (h:T.ok) (hk:T.k=4∨T.k=7):(T.sub.len=0∧aj T.txt=T.txt.length)∨
 (T.sub.len≠0∧aj T.txt+2≤T.txt.length∧List.drop (aj T.txt+1) (List.take (T.txt.length - 1) T.txt)=T.sub.first.txt∧T.sub.first.txt≠[]):=by
 obtain⟨k,n,sub⟩:=T
 have h':Wf none (.cons [] k n sub .nil):=h
 have hw:=mh h' (by simp only at hk;omega)
 simp only at hk ⊢
 rw[Tr.eA,Fo.one,Fo.cN,qD _ hw _ (qw _)]
 have key:∀a:Fo,Wf none a→sub=a→sub.len≠0∧(b8 k n).length+2≤(b8 k n++sub.br).length∧List.drop ((b8 k n).length+1) (List.take ((b8 k n++sub.br).length - 1) (b8 k n++sub.br))=sub.first.txt∧sub.first.txt≠[]:=by
  intro a ha e;subst e;obtain⟨A,rfl⟩:=ha.one;have hp:0<A.txt.length:=by
   have:=gM (Tr.ok.reads' (t:=A) ha)
   simpa using this
  have hf:(Fo.one A).first=A:=rfl
  rw[Fo.ji (by simp[Fo.one]),hf,←Tr.eA];refine⟨by simp[Fo.one,Fo.len],by simp,?_,λh=>by rw[h] at hp;simp at hp⟩;rw[show b8 k n++91::(A.txt++[93])=(b8 k n++91::A.txt)++[93] from by simp];have e2:((b8 k n++91::A.txt)++[93]).length - 1=(b8 k n++91::A.txt).length:=by rw[List.length_append];simp
  rw[e2,List.take_left,←List.drop_drop,List.drop_left]
  rfl
 clear h
 cases h' with
 | par=>simp at hk
 | word _ h3=>omega
 | arr _ h=>exact .inr (key _ h rfl)
 | rcd _ _ _ hk2=>omega
 | nam n hn=>exact .inl ⟨rfl,by simp[Fo.br]⟩
 | app _ _ _ h=>exact .inr (key _ h rfl)
theorem ve7 (T:Tr) (h:T.ok) (hk:T.k=4∨T.k=7) (hm:T.txt.length≤100) (w:World):
 Calls Tryz.prog 199 #[str T.txt] w λe w'=>e=.returned (str (if T.sub.len=0 then [] else T.sub.first.txt))∧w=w':=by
 have hc:=vdj h hk
 have hC:=λW=>aX T.txt W (by unfold maxLen;omega)
 generalize T.txt=s at *
 generalize T.sub.first.txt=f at *
 have hle:=bX s
 generalize aj s=n at *
 generalize T.sub.len=N at *
 clear h hk
 rcases hc with⟨h0,h1⟩|⟨h0,h1,h2,h3⟩
 · rw[if_pos h0]
   have g:((n:Int)==(s.length:Int))=true:=by rw[h1];simp
   clear h0 h1;go_enter Tryz.func199,Tryz.ntmps199;go_wp2_with (go_at_call 162;refine(hC _).mono ?_;clear hC;rintro e w1 ⟨rfl,rfl⟩);go_ret;exact⟨rfl,rfl⟩
 · rw[if_neg h0]
   have g:((n:Int)==(s.length:Int))=false:=by rw[beq_eq_false_iff_ne];omega
   have H2:=zh h2;have hs1:1≤s.length:=by omega
   clear h0 h2 h3;go_enter Tryz.func199,Tryz.ntmps199;go_wp2_with (go_at_call 162;refine(hC _).mono ?_;clear hC;rintro e w1 ⟨rfl,rfl⟩);go_ret;rw[H2.out];exact⟨rfl,rfl⟩
theorem vdi {s:List UInt8} {T:Tr} (h:aq s=(0,T)):T.ok∧T.txt=s∧s.length≤100∧mJ s=T.k:=by
 obtain⟨h1,h2,h3,_⟩:=bC h
 exact⟨h1,h2,h3,by rw[←h2,h1.mJ]⟩
theorem vbp (s : List UInt8) (hm : s.length ≤ maxLen) (w : World) : Calls Tryz.prog 130 #[str s] w fun e w' => e = .returned (.tuple #[str (bQ s).1, .bool (bQ s).2.1, .int .i64 (bQ s).2.2]) ∧ Below w.heap.size w w' := by
 have hC:=λW=>nw s hm W
 have hK:=λW=>Jb s hm W
 unfold bQ
 rcases hq:aq s with⟨c,T⟩
 rw[hq] at hC
 by_cases h0:c=0
 · subst h0
   obtain⟨o1,e1,l1,k1⟩:=vdi hq;rw[k1] at hK
   by_cases hk:T.k=4∨T.k=7
   · have hA:=λW=>ve7 T o1 hk (by rw[e1];exact l1) W
     rw[e1] at hA;have ha:=vdj o1 hk;rw[vce hq (by rcases hk with h|h<;>rw[h]<;>rfl)];simp only;rcases ha with⟨n0,_⟩|⟨n0,_,_,n1⟩
     · rw[if_neg (by rw[n0];simp)]
       rw[if_pos n0] at hA;rcases hk with hk|hk
       all_goals
        rw[hk] at hK;clear hq o1 e1 l1 k1 hk n0;go_enter Tryz.func130,Tryz.ntmps130;go_wp2_with (first
         | (go_at_call 84;refine(hC _).mono ?_;clear hC;rintro e w1 ⟨rfl,au⟩)
         | (go_at_call 164;refine(hK _).mono ?_;clear hK;rintro e w2 ⟨rfl,rfl⟩)
         | (go_at_call 199;refine(hA _).mono ?_;clear hA;rintro e w3 ⟨rfl,rfl⟩))
        go_ret3
        exact⟨rfl,au⟩
     · rw[if_pos ⟨trivial,n0⟩]
       rw[if_neg n0] at hA;generalize T.sub.first.txt=F at hA n1 ⊢
       have g:(F==[])=false:=by simpa using n1
       rcases hk with hk|hk
       all_goals
        rw[hk] at hK;clear hq o1 e1 l1 k1 hk n0 n1;go_enter Tryz.func130,Tryz.ntmps130;go_wp2_with (first
         | (go_at_call 84;refine(hC _).mono ?_;clear hC;rintro e w1 ⟨rfl,au⟩)
         | (go_at_call 164;refine(hK _).mono ?_;clear hK;rintro e w2 ⟨rfl,rfl⟩)
         | (go_at_call 199;refine(hA _).mono ?_;clear hA;rintro e w3 ⟨rfl,rfl⟩))
        go_ret3
        exact⟨rfl,au⟩
   · have vh4:T.k≠4:=λh=>hk (.inl h)
     have uX:T.k≠7:=λh=>hk (.inr h)
     rw[vd5 hq (by simp[vh4,uX])];simp only;rw[if_neg (by simp)];generalize T.k=K at hK vh4 uX;have g1:((K:Int) != 4)=true:=by rw[bne_iff_ne];omega
     have g2:((K:Int) != 7)=true:=by rw[bne_iff_ne];omega
     clear hq o1 e1 l1 k1 hk vh4 uX;go_enter Tryz.func130,Tryz.ntmps130;go_wp2_with (first
      | (go_at_call 84;refine(hC _).mono ?_;clear hC;rintro e w1 ⟨rfl,au⟩)
      | (go_at_call 164;refine(hK _).mono ?_;clear hK;rintro e w2 ⟨rfl,rfl⟩))
     go_ret3
     exact⟨rfl,au⟩
 · rw[vcd hq h0]
   simp only;rw[if_neg (by simp[h0])];obtain⟨g1,g2⟩:=bK h0;clear hq h0 hK;go_enter Tryz.func130,Tryz.ntmps130;go_wp2_with (go_at_call 84;refine(hC _).mono ?_;clear hC;rintro e w1 ⟨rfl,au⟩)
   go_ret3
   exact⟨rfl,au⟩
theorem vdx {T:Tr} (h:T.ok) (hk:T.k=7):List.take (aj T.txt) T.txt=T.n:=by
 obtain⟨k,n,sub⟩:=T
 obtain rfl:k=7:=hk
 have h':Wf none (.cons [] 7 n sub .nil):=h
 rw[Tr.eA,Fo.one,Fo.cN]
 exact(fE (mh h' (by decide)) (qw _)).1
theorem vc0 (s:List UInt8) (hm:s.length≤maxLen) (w:World):Calls Tryz.prog 129 #[str s] w λe w'=>e=.returned (.tuple #[str (eH s).1,.int .i64 (eH s).2])∧Below w.heap.size w w':=by
 have hC:=λW=>nw s hm W
 have hK:=λW=>Jb s hm W
 have hT:=λW=>aX s W hm
 unfold eH
 rcases hq:aq s with⟨c,T⟩
 rw[hq] at hC
 by_cases h0:c=0
 · subst h0
   obtain⟨o1,e1,l1,k1⟩:=vdi hq;rw[k1] at hK
   by_cases hk:T.k=7
   · have hn:=vdx o1 hk
     rw[e1] at hn;have HN:=zh hn;have hle:=bX s;rw[vce hq (by rw[hk];rfl)];simp only;rw[hk] at hK;clear hq o1 e1 k1 hk hn;go_enter Tryz.func129,Tryz.ntmps129;go_wp2_with (first
      | (go_at_call 84;refine(hC _).mono ?_;clear hC;rintro e w1 ⟨rfl,au⟩)
      | (go_at_call 164;refine(hK _).mono ?_;clear hK;rintro e w2 ⟨rfl,rfl⟩)
      | (go_at_call 162;refine(hT _).mono ?_;clear hT;rintro e w3 ⟨rfl,rfl⟩))
     go_ret2;rw[←HN.out];exact⟨rfl,au⟩
   · rw[vd5 hq (by simp[hk])]
     generalize T.k=K at hK hk;have g1:((K:Int) != 7)=true:=by rw[bne_iff_ne];omega
     clear hq o1 e1 l1 k1 hk hT;go_enter Tryz.func129,Tryz.ntmps129;go_wp2_with (first
      | (go_at_call 84;refine(hC _).mono ?_;clear hC;rintro e w1 ⟨rfl,au⟩)
      | (go_at_call 164;refine(hK _).mono ?_;clear hK;rintro e w2 ⟨rfl,rfl⟩))
     go_ret2;exact⟨rfl,au⟩
 · rw[vcd hq h0]
   obtain⟨g1,g2⟩:=bK h0;clear hq h0 hK hT;go_enter Tryz.func129,Tryz.ntmps129;go_wp2_with (go_at_call 84;refine(hC _).mono ?_;clear hC;rintro e w1 ⟨rfl,au⟩);go_ret2;exact⟨rfl,au⟩
theorem vbq (s:List UInt8) (hm:s.length≤maxLen) (w:World):Calls Tryz.prog 134 #[str s] w λe w'=>∃v,e=.returned (.tuple #[v,.int .i64 (dJ s).2])∧Dd w' v (dJ s).1∧Below w.heap.size w w':=by
 have hC:=λW=>nw s hm W
 have hK:=λW=>Jb s hm W
 unfold dJ
 rcases hq:aq s with⟨c,T⟩
 rw[hq] at hC
 by_cases h0:c=0
 · subst h0
   obtain⟨o1,e1,l1,k1⟩:=vdi hq;rw[k1] at hK
   by_cases hk:T.k=5∨T.k=6
   · have hA:=λW=>veb T o1 hk (by rw[e1];exact l1) (Bp o1 hk) W
     rw[e1] at hA;rw[vce hq (by rcases hk with h|h<;>rw[h]<;>rfl)];simp only[if_true];rcases hk with hk|hk
     all_goals
      rw[hk] at hK;clear hq o1 e1 l1 k1 hk;go_enter Tryz.func134,Tryz.ntmps134;go_wp2_with (first
       | (go_at_call 84;refine(hC _).mono ?_;clear hC;rintro e w1 ⟨rfl,au⟩)
       | (go_at_call 164;refine(hK _).mono ?_;clear hK;rintro e w2 ⟨rfl,rfl⟩)
       | (go_at_call 200;refine(hA _).mono ?_;clear hA;rintro e w3 ⟨v,rfl,hv,aH⟩;obtain⟨p,cc,rfl⟩:=hv.shape))
      go_ret2;exact⟨_,rfl,hv,au.trans (af aH au.size)⟩
   · have vh4:T.k≠5:=λh=>hk (.inl h)
     have uX:T.k≠6:=λh=>hk (.inr h)
     rw[vd5 hq (by simp[vh4,uX])];simp only;rw[if_neg (by simp)];generalize T.k=K at hK vh4 uX;have g1:((K:Int) != 5)=true:=by rw[bne_iff_ne];omega
     have g2:((K:Int) != 6)=true:=by rw[bne_iff_ne];omega
     clear hq o1 e1 l1 k1 hk vh4 uX;go_enter Tryz.func134,Tryz.ntmps134;go_wp2_with (first
      | (go_at_call 84;refine(hC _).mono ?_;clear hC;rintro e w1 ⟨rfl,au⟩)
      | (go_at_call 164;refine(hK _).mono ?_;clear hK;rintro e w2 ⟨rfl,rfl⟩))
     go_ret2;exact⟨_,rfl,.inl ⟨rfl,rfl⟩,au⟩
 · rw[vcd hq h0]
   simp only;rw[if_neg h0];obtain⟨g1,g2⟩:=bK h0;clear hq h0 hK;go_enter Tryz.func134,Tryz.ntmps134;go_wp2_with (go_at_call 84;refine(hC _).mono ?_;clear hC;rintro e w1 ⟨rfl,au⟩);go_ret2;exact⟨_,rfl,.inl ⟨rfl,rfl⟩,au⟩
