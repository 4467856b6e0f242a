/-
  A region that draws its order, told by the specifications of its values: each operation by one lemma. No condition.
  Contracts: of the law: short, sig, wanted, few, proc. No condition.
  Contracts: of the law: wanted, few, proc. No condition.
  Contract: of the law: few. No condition.
  A region that draws its order, told shortly: short names for specifications; one lemma for the operations that only pass a value on. No condition.
-/
import Derived.Test.YtakgjcfkdemipaaGreatDoorYn
import Derived.Test.YtakgjcfkdemipaaGreatDoorY1
import Derived.Test.YtakgjcfkdemipaaGreatDoorY3
import Derived.Test.YtakgjcfkdemipaaGreatDoorY4
namespace Go.Proofs.YtakgjcfkdemipaaGreatDoor
open Go Go.RowKit
inductive VS where
 | skip
 | eq (v : Value)
 | ss (L : List (List UInt8))
 | sig (s : SigP)
 | op (o : OpP)
 | ops (l : List OpP)
 | faces (l : List FaceP)
def VS.holds (D : Nat → Prop) (w : World) (v : Value) : VS → Prop
 | .skip => v = undef
 | .eq u => v = u
 | .ss L => SS D w v L
 | .sig s => SigV D w v s
 | .op o => OpV D w v o
 | .ops l => OpsM D w v l
 | .faces l => FacesM D w v l
theorem VS.holds.below {D : Nat → Prop} {w w' : World} {v : Value} {s : VS} (h : s.holds D w v) (hb : Below w.heap.size w w') : s.holds D w' v := by
 cases s with
 | skip => exact h
 | eq u => exact h
 | ss L => exact SS.below (show SS D w v L from h) hb (nl _)
 | sig x => exact SigV.below (show SigV D w v x from h) hb (nl _)
 | op x => exact OpV.below (show OpV D w v x from h) hb (nl _)
 | ops l => exact OpsM.below (show OpsM D w v l from h) hb (nl _)
 | faces l => exact FacesM.below (show FacesM D w v l from h) hb (nl _)
def edgeB (o : Oper) (j : Nat) : Bool := o.after.toList.any fun e => decide (e.on = j) && Region.binds .any e
def specOf (ops : Array Oper) (h : Nat) (V : List VS) (E : List (Nat × VS)) (o : Oper) : Operand → Option VS
 | .const v => some (.eq v)
 | .tmp d => match (ops.toList.take h).findIdx? (fun p => decide (p.dst = some d)) with
  | some j => if edgeB o j then V[j]? else none
  | none => (E.find? fun p => decide (p.1 = d)).map (·.2)
 | _ => none
def wantV (ops : Array Oper) (h : Nat) (V : List VS) (o : Oper) : Option Bool :=
 match o.guard with
 | none => some true
 | some (g, b) => if edgeB o g && decide (g < h) && ((ops[g]?).bind (·.dst)).isSome then
  match V[g]? with
  | some (.eq (.bool c)) => some (c == b)
  | some .skip => some false
  | _ => none
  else none
def famV (D : Nat → Prop) (V : List VS) (j : Nat) (v : Value) (w : World) : Prop := ∀ s, V[j]? = some s → s.holds D w v
section
variable {D : Nat → Prop} {P : Program} {ops : Array Oper} {h : Nat} {V : List VS} {E : List (Nat × VS)} {a0 : Act} {S : World → Prop}
def InS (D : Nat → Prop) (S : World → Prop) (E : List (Nat × VS)) (a0 : Act) (w : World) : Prop := S w ∧ ∀ p ∈ E, p.2.holds D w (a0.eval (.tmp p.1))
theorem edge_mem {o : Oper} {j : Nat} (he : edgeB o j = true) : ∃ e ∈ o.after, Region.binds .any e = true ∧ e.on = j := by
 unfold edgeB at he
 rw [List.any_eq_true] at he
 obtain ⟨e, he1, he2⟩ := he
 simp only [Bool.and_eq_true, decide_eq_true_eq] at he2
 exact ⟨e, by simpa using he1, he2.2, he2.1⟩
theorem spec_holds {o : Oper} {x : Operand} {s : VS} (hs : specOf ops h V E o x = some s) {a : Act} {w : World} (hS : InS D S E a0 w)
 (hd : ∀ e ∈ o.after, Region.binds .any e = true → ∀ ok d, ops[e.on]? = some ok → ok.dst = some d → famV D V e.on (a.eval (.tmp d)) w) (ho : ∀ s, OutH ops h s → a.eval (.tmp s) = a0.eval (.tmp s)) : s.holds D w (a.eval x) := by
 cases x with
 | const v => unfold specOf at hs; cases hs; rfl
 | tmp d =>
  unfold specOf at hs;simp only at hs;split at hs
  · rename_i j hj
    split at hs
    · rename_i he
      obtain ⟨e, he1, he2, rfl⟩ := edge_mem he;rw [List.findIdx?_eq_some_iff_getElem] at hj;obtain ⟨hlt, hdst, _⟩ := hj;have hlt2 : e.on < ops.size := by simp at hlt; omega
      refine hd e he1 he2 ops[e.on] d (Array.getElem?_eq_getElem hlt2) ?_ s hs
      simpa using hdst
    · cases hs
  · rename_i hj
    rw [List.findIdx?_eq_none_iff] at hj;rw [ho d fun j p hjh hjp e => by
     have hm : p ∈ ops.toList.take h := List.mem_of_getElem? (i := j) (by rw [List.getElem?_take_of_lt hjh, Array.getElem?_toList]; exact hjp);have := hj p hm;simp [e] at this]
    rw [Option.map_eq_some_iff] at hs;obtain ⟨p, hp, rfl⟩ := hs;have := hS.2 p (List.mem_of_find?_eq_some hp);have hpd : p.1 = d := by simpa using List.find?_some hp
    rwa [hpd] at this
 | global g => unfold specOf at hs; cases hs
 | func f => unfold specOf at hs; cases hs
theorem want_is {o : Oper} {c : Bool} (hw : wantV ops h V o = some c) {a : Act} {w : World}
 (hd : ∀ e ∈ o.after, Region.binds .any e = true → ∀ ok d, ops[e.on]? = some ok → ok.dst = some d → famV D V e.on (a.eval (.tmp d)) w) : Region.wanted o (yielded ops a.tmps) = c := by
 unfold wantV at hw
 rcases hg : o.guard with _ | ⟨g, b⟩
 · rw [hg] at hw
   cases hw;simp [Region.wanted, hg]
 · rw [hg] at hw
   simp only at hw;split at hw
   · rename_i hc
     rw [Bool.and_eq_true, Bool.and_eq_true] at hc;obtain ⟨e, he1, he2, rfl⟩ := edge_mem hc.1.1;rcases hop : ops[e.on]? with _ | og
     · rw [hop] at hc; simp at hc
     · rw [hop] at hc
       rcases hdst : og.dst with _ | d
       · simp [hdst] at hc
       · have hf := hd e he1 he2 og d hop hdst
         have hy : ∀ v, a.eval (.tmp d) = v → yielded ops a.tmps e.on = (match v with | .bool x => some x | _ => none) := by
          intro v hv;have hv : a.tmps[d]?.getD undef = v := ev_at hv;unfold yielded;rw [hop];simp only [Option.bind_some, hdst];rcases hq : a.tmps[d]? with _ | u
          · rw [hq] at hv; simp at hv; rw [← hv]; rfl
          · rw [hq] at hv; simp at hv; subst hv; cases u <;> rfl
         split at hw
         · rename_i x hx
           cases hw;have := hy _ (hf _ hx);simp only [Region.wanted, hg, this];cases x <;> cases b <;> rfl
         · rename_i hx
           cases hw;have := hy _ (hf _ hx);simp only [Region.wanted, hg, this]
           rfl
         · cases hw
   · cases hw
def StepR (D : Nat → Prop) (P : Program) (S : World → Prop) (o : Oper) (ins : List (Operand × VS)) (s : VS) : Prop :=
 ∀ (a : Act) (w : World) (Q : Exit → Act → World → Prop), S w → (∀ p ∈ ins, p.2.holds D w (a.eval p.1)) → ∀ next : Act → World → Prop, (∀ v w', s.holds D w' v → Below w.heap.size w w' → next (a.put o.dst v) w') → o.wp P a w next Q
def StepAt (D : Nat → Prop) (P : Program) (S : World → Prop) (ops : Array Oper) (h : Nat) (V : List VS) (E : List (Nat × VS)) (k : Nat) (o : Oper) : Prop :=
 ∃ s, V[k]? = some s ∧ ((wantV ops h V o = some false ∧ s = .skip) ∨ (wantV ops h V o = some true ∧ ∃ ins, (∀ p ∈ ins, specOf ops h V E o p.1 = some p.2) ∧ StepR D P S o ins s))
def StepsAt (D : Nat → Prop) (P : Program) (S : World → Prop) (ops : Array Oper) (h : Nat) (V : List VS) (E : List (Nat × VS)) : Nat → List Oper → Prop
 | _, [] => True
 | k, o :: l => StepAt D P S ops h V E k o ∧ StepsAt D P S ops h V E (k + 1) l
theorem step_of {Q : Exit → Act → World → Prop} {k : Nat} {o : Oper} {S' : World → Prop} (hSS : ∀ w, S' w → S w) (hs : StepAt D P S ops h V E k o) : StepG P .any ops Q (InS D S' E a0) (famV D V) a0 h k o := by
 intro a w hS hd ho next hn
 obtain ⟨s, h1, ⟨h2, rfl⟩ | ⟨h2, ins, h3, h4⟩⟩ := hs
 · rw [want_is h2 hd, if_neg (by simp)]
   exact hn undef w (fun s' hs' => by rw [h1] at hs'; cases hs'; rfl) (Below.refl _ _)
 · rw [want_is h2 hd, if_pos rfl]
   exact .inl (h4 a w Q (hSS w hS.1) (fun p hp => spec_holds (h3 p hp) hS hd ho) next fun v w' hv hb => hn v w' (fun s' hs' => by rw [h1] at hs'; cases hs'; exact hv) hb)
theorem steps_get2 : ∀ (l : List Oper) (k : Nat), StepsAt D P S ops h V E k l → ∀ i o, l[i]? = some o → StepAt D P S ops h V E (k + i) o
 | [], _, _, i, o, ho => by simp at ho
 | x :: l, k, hs, 0, o, ho => by
  simp only [List.getElem?_cons_zero, Option.some.injEq] at ho;subst ho;exact hs.1
 | x :: l, k, hs, i + 1, o, ho => by
  rw [List.getElem?_cons_succ] at ho;have := steps_get2 l (k + 1) hs.2 i o ho
  rwa [show k + 1 + i = k + (i + 1) by omega] at this
theorem wp_region_spec {Q : Exit → Act → World → Prop} {id : Nat} {w : World} (h : Nat) (E : List (Nat × VS)) (V : List VS) (S : World → Prop) (hm : P.follows .mixedOrders = true) (hsz : ops.size = h + 1) (hf : fwdB .any ops = true) (hb : headB .any ops h = true) (hd : dstG ops a0.tmps.size = true)
 (hSs : ∀ w w', S w → Below w.heap.size w w' → S w') (hS : S w.drew) (hE : ∀ p ∈ E, p.2.holds D w.drew (a0.eval (.tmp p.1))) (hst : StepsAt D P S ops h V E 0 ops.toList)
 (hend : ∀ a v w', S w' → Below w.heap.size w w' → a = putsOf a (ops.toList.take h) a0 → (∀ (j : Nat) (s : VS) (d : Nat), j < h → V[j]? = some s → (ops[j]?).bind (·.dst) = some d → s.holds D w' (a.tmps.getD d undef)) → (∀ s, V[h]? = some s → s.holds D w' v) → Q .normal (a.put ((ops[h]?).bind (·.dst)) v) w') :
 (Code.region id ops true).wp P Q a0 w := by
 refine wp_region_G (S := InS D (fun w' => S w' ∧ Below w.heap.size w w') E a0) (A := famV D V) h hm hsz hf hb hd (fun j v w1 w2 h hb s hs => (h s hs).below hb) (fun w1 w2 h hb => ⟨⟨hSs _ _ h.1.1 hb, h.1.2.trans (below_less hb h.1.2.size)⟩, fun p hp => (h.2 p hp).below hb⟩) ⟨⟨hS, (Below.refl _ w).drew⟩, hE⟩ (fun i o ho => step_of (fun w h => h.1) ?_) ?_
 · have := steps_get2 _ 0 hst i o (by rw [Array.getElem?_toList]; exact ho)
   rwa [Nat.zero_add] at this
 · intro a w1 v w' o h1 h2 h3 h4 h5 ho hv hbw
   have hq := hend a v w' (hSs _ _ h4.1.1 hbw) (h4.1.2.trans (below_less hbw h4.1.2.size)) (act_putsH h1 h2 h3) (fun j s d hj hs hjd => by
    rw [Option.bind_eq_some_iff] at hjd;obtain ⟨oj, hoj, hod⟩ := hjd;exact (h5 j oj d hj hoj hod s hs).below hbw) hv
   rwa [ho] at hq
theorem stSkip {k : Nat} {o : Oper} (hw : wantV ops h V o = some false) (hk : V[k]? = some .skip) : StepAt D P S ops h V E k o := ⟨_, hk, .inl ⟨hw, rfl⟩⟩
theorem stOf {k : Nat} {o : Oper} {s : VS} (ins : List (Operand × VS)) (hw : wantV ops h V o = some true) (hk : V[k]? = some s) (hi : ins.map (fun p => specOf ops h V E o p.1) = ins.map fun p => some p.2) (hs : StepR D P S o ins s) : StepAt D P S ops h V E k o :=
 ⟨s, hk, .inr ⟨hw, ins, fun p hp => List.map_inj_left.1 hi p hp, hs⟩⟩
theorem stA {k : Nat} {o : Oper} {x : Operand} {s : VS} (ho : o.op = .assign x ∨ o.op = .move x) (hw : wantV ops h V o = some true) (hk : V[k]? = some s) (hx : specOf ops h V E o x = some s) : StepAt D P S ops h V E k o := by
 refine ⟨s, hk, .inr ⟨hw, [(x, s)], by simpa using hx, fun a w Q hS hi next hn => ?_⟩⟩
 have hxv := hi (x, s) (by simp)
 unfold Oper.wp
 have hrun : (execOp a.eval o).run P w = .ok (.value (a.eval x)) w := by
  unfold execOp;rcases ho with ho | ho <;> simp [ho]
 rw [hrun]
 exact hn _ _ hxv (Below.refl _ _)
theorem stP {k : Nat} {o : Oper} {r : Value} (ins : List (Operand × Value)) (hw : wantV ops h V o = some true) (hk : V[k]? = some (.eq r)) (hi : ins.map (fun p => specOf ops h V E o p.1) = ins.map fun p => some (.eq p.2))
 (hrun : ∀ (a : Act) (w : World), S w → (∀ p ∈ ins, a.eval p.1 = p.2) → (execOp a.eval o).run P w = .ok (.value r) w) : StepAt D P S ops h V E k o := by
 refine ⟨_, hk, .inr ⟨hw, ins.map fun p => (p.1, .eq p.2), ?_, fun a w Q hS hi2 next hn => ?_⟩⟩
 · intro p hp
   obtain ⟨q, hq, rfl⟩ := List.mem_map.1 hp;exact List.map_inj_left.1 hi q hq
 · unfold Oper.wp
   rw [hrun a w hS fun p hp => hi2 (p.1, .eq p.2) (List.mem_map_of_mem hp)];exact hn _ _ rfl (Below.refl _ _)
end
def CellsAt (L : List (Addr × Value)) (w : World) : Prop := ∀ p ∈ L, w.cell? p.1 = some p.2
theorem CellsAt.below {L : List (Addr × Value)} {w w' : World} (h : CellsAt L w) (hb : Below w.heap.size w w') : CellsAt L w' := fun p hp => Below.keep hb (h p hp)
theorem CellsAt.get {L : List (Addr × Value)} {w : World} (h : CellsAt L w) (k : Nat) {p : Addr × Value} (hk : L[k]? = some p) : w.cell? p.1 = some p.2 := h p (List.mem_of_getElem? hk)
section
variable {D : Nat → Prop} {ops : Array Oper} {h : Nat} {V : List VS} {E : List (Nat × VS)} {S : World → Prop} {k : Nat} {o : Oper}
theorem stP1 {r u : Value} (x : Operand) (hw : wantV ops h V o = some true) (hk : V[k]? = some (.eq r)) (hx : specOf ops h V E o x = some (.eq u))
 (hrun : ∀ (ev : Operand → Value) (w : World), S w → ev x = u → (execOp ev o).run Tryz.prog w = .ok (.value r) w) : StepAt D Tryz.prog S ops h V E k o :=
 stP [(x, u)] hw hk (by simp [hx]) fun a w hS hi => hrun a.eval w hS (hi (x, u) (by simp))
theorem stP2 {r u v : Value} (x y : Operand) (hw : wantV ops h V o = some true) (hk : V[k]? = some (.eq r)) (hx : specOf ops h V E o x = some (.eq u)) (hy : specOf ops h V E o y = some (.eq v))
 (hrun : ∀ (ev : Operand → Value) (w : World), S w → ev x = u → ev y = v → (execOp ev o).run Tryz.prog w = .ok (.value r) w) : StepAt D Tryz.prog S ops h V E k o :=
 stP [(x, u), (y, v)] hw hk (by simp [hx, hy]) fun a w hS hi => hrun a.eval w hS (hi (x, u) (by simp)) (hi (y, v) (by simp))
theorem stPick {r : Value} {c a b : Operand} {q : Bool} (ho : o.op = .pick c a b) (hw : wantV ops h V o = some true) (hk : V[k]? = some (.eq r)) (hc : specOf ops h V E o c = some (.eq (.bool q)))
 (hx : specOf ops h V E o (if q then a else b) = some (.eq r)) : StepAt D Tryz.prog S ops h V E k o :=
 stP [(c, .bool q), (if q then a else b, r)] hw hk (by simp [hc, hx]) fun ac w hS hi => by
  have h1 := hi (c, .bool q) (by simp);have h2 := hi (if q then a else b, r) (by simp);simp only at h1 h2;cases q <;> simp_all [execOp, asBool]
theorem stNot {x : Operand} {t : TypeId} {q r : Bool} (ho : o.op = .unOp .not t x) (hw : wantV ops h V o = some true) (hk : V[k]? = some (.eq (.bool r))) (hx : specOf ops h V E o x = some (.eq (.bool q))) (hq : (!q) = r) : StepAt D Tryz.prog S ops h V E k o :=
 stP1 x hw hk hx fun ev w hS h1 => by subst hq; simp [execOp, ho, h1, go_sem]
theorem stCall1 {f : FuncId} {x : Operand} {tys : Array TypeId} {s s1 : VS} (ho : o.op = .call { callee := .value (.func f), args := #[x], argTypes := tys }) (en : ∀ args w, (callFunc f args).run Tryz.prog w = .ok (.enter f args) w)
 (hw : wantV ops h V o = some true) (hk : V[k]? = some s) (hx : specOf ops h V E o x = some s1)
 (hc : ∀ (v : Value) (w : World), S w → s1.holds D w v → Calls Tryz.prog f #[v] w fun e w' => ∃ u, e = .returned u ∧ s.holds D w' u ∧ Below w.heap.size w w') : StepAt D Tryz.prog S ops h V E k o :=
 stOf [(x, s1)] hw hk (by simp [hx]) fun a w Q hS hi next hn => by
  have h1 := hi (x, s1) (by simp);have hrun : (execOp a.eval o).run Tryz.prog w = .ok (.enter f #[a.eval x]) w := by
   simp [execOp, ho, resolve, Deferred.ofValue, invoke, Act.eval, en]
  unfold Oper.wp;rw [hrun, Oper.upon_enter];refine (hc _ w hS h1).mono ?_;rintro e w' ⟨u, rfl, hu, hb⟩;exact hn u w' hu hb
theorem stCall2 {f : FuncId} {x y : Operand} {tys : Array TypeId} {s s1 s2 : VS} (ho : o.op = .call { callee := .value (.func f), args := #[x, y], argTypes := tys }) (en : ∀ args w, (callFunc f args).run Tryz.prog w = .ok (.enter f args) w)
 (hw : wantV ops h V o = some true) (hk : V[k]? = some s) (hx : specOf ops h V E o x = some s1) (hy : specOf ops h V E o y = some s2)
 (hc : ∀ (v v2 : Value) (w : World), S w → s1.holds D w v → s2.holds D w v2 → Calls Tryz.prog f #[v, v2] w fun e w' => ∃ u, e = .returned u ∧ s.holds D w' u ∧ Below w.heap.size w w') : StepAt D Tryz.prog S ops h V E k o :=
 stOf [(x, s1), (y, s2)] hw hk (by simp [hx, hy]) fun a w Q hS hi next hn => by
  have h1 := hi (x, s1) (by simp);have h2 := hi (y, s2) (by simp);have hrun : (execOp a.eval o).run Tryz.prog w = .ok (.enter f #[a.eval x, a.eval y]) w := by
   simp [execOp, ho, resolve, Deferred.ofValue, invoke, Act.eval, en]
  unfold Oper.wp;rw [hrun, Oper.upon_enter];refine (hc _ _ w hS h1 h2).mono ?_;rintro e w' ⟨u, rfl, hu, hb⟩;exact hn u w' hu hb
end
section
variable {D : Nat → Prop} {ops : Array Oper} {h : Nat} {V : List VS} {E : List (Nat × VS)} {S : World → Prop} {k : Nat} {o : Oper}
theorem stFA {t : TypeId} {x : Operand} {f : Nat} {a : Addr} {r : Value} (ho : o.op = .fieldAddr t x f) (hw : wantV ops h V o = some true) (hk : V[k]? = some (.eq r)) (hx : specOf ops h V E o x = some (.eq (.pointer (some a))))
 (hr : ∀ w, (Instr.fieldAt t (.pointer (some a)) f).run Tryz.prog w = .ok r w) : StepAt D Tryz.prog S ops h V E k o :=
 stP1 x hw hk hx fun ev w hS h1 => by unfold execOp; simp [ho, h1, hr]
theorem stIA {t : TypeId} {x i : Operand} {u v r : Value} (ho : o.op = .indexAddr t x i) (hw : wantV ops h V o = some true) (hk : V[k]? = some (.eq r)) (hx : specOf ops h V E o x = some (.eq u)) (hi : specOf ops h V E o i = some (.eq v))
 (hr : ∀ w, (Instr.indexAt t u v).run Tryz.prog w = .ok r w) : StepAt D Tryz.prog S ops h V E k o :=
 stP2 x i hw hk hx hi fun ev w hS h1 h2 => by unfold execOp; simp [ho, h1, h2, hr]
theorem stLd {t : TypeId} {x : Operand} {a : Addr} {r : Value} (ho : o.op = .load t x) (hw : wantV ops h V o = some true) (hk : V[k]? = some (.eq r)) (hx : specOf ops h V E o x = some (.eq (.pointer (some a))))
 (hr : ∀ w, S w → (Instr.loadAt t (.pointer (some a))).run Tryz.prog w = .ok r w) : StepAt D Tryz.prog S ops h V E k o :=
 stP1 x hw hk hx fun ev w hS h1 => by unfold execOp; simp [ho, h1, hr w hS]
theorem stBin {b : BinOp} {t t2 : TypeId} {x y : Operand} {u v r : Value} (ho : o.op = .binOp b t x y t2) (hw : wantV ops h V o = some true) (hk : V[k]? = some (.eq r)) (hx : specOf ops h V E o x = some (.eq u)) (hy : specOf ops h V E o y = some (.eq v))
 (hr : ∀ (w : World), (do eqGuard b t x y u v; Go.binOp b t u v : Sem Value).run Tryz.prog w = .ok r w) : StepAt D Tryz.prog S ops h V E k o :=
 stP2 x y hw hk hx hy fun ev w hS h1 h2 => by
  have := hr w;simp only [Sem.run_bind] at this;unfold execOp;simp only [ho, h1, h2, Sem.run_bind, Sem.run_pure];revert this;cases Sem.run Tryz.prog (eqGuard b t x y u v) w with
  | ok g w1 =>
   intro this;simp only [Result.andThen_ok] at this ⊢;rw [this]
   rfl
  | _ => intro this; simp [Result.andThen] at this
end
section
variable {D : Nat → Prop} {ops : Array Oper} {h : Nat} {V : List VS} {E : List (Nat × VS)} {S : World → Prop} {k : Nat} {o : Oper}
def isSlice : Option TypeDesc → Bool
 | some (.slice _) => true
 | _ => false
theorem stLen {t : TypeId} {x : Operand} {p : Option Addr} {n c : Nat} (ho : o.op = .call { callee := .builtin .len, args := #[x], argTypes := #[t] }) (ht : isSlice (Tryz.prog.underlying t) = true) (hw : wantV ops h V o = some true) (hk : V[k]? = some (.eq (.int .i64 n))) (hx : specOf ops h V E o x = some (.eq (.slice p n c))) : StepAt D Tryz.prog S ops h V E k o :=
 stP1 x hw hk hx fun ev w hS h1 => by
  unfold isSlice at ht;split at ht
  · rename_i e he
    unfold execOp;simp [ho, resolve, invoke, builtin, h1, Builtin.len_, run_underlying he]
    rfl
  · cases ht
theorem stSS2 {t : TypeId} {x y : Operand} {s u : List UInt8} (ho : o.op = .buildSlice t 2 #[(0, x), (1, y)]) (ht : t = 34) (hw : wantV ops h V o = some true) (hk : V[k]? = some (.ss [s, u])) (hx : specOf ops h V E o x = some (.eq (str s))) (hy : specOf ops h V E o y = some (.eq (str u))) (hl : s.length ≤ maxLen) (hl2 : u.length ≤ maxLen) (hD : ∀ w, S w → D w.heap.size) : StepAt D Tryz.prog S ops h V E k o :=
 stOf [(x, .eq (str s)), (y, .eq (str u))] hw hk (by simp [hx, hy]) fun a w Q hS hi next hn => by
  have h1 : a.eval x = str s := hi (x, .eq (str s)) (by simp);have h2 : a.eval y = str u := hi (y, .eq (str u)) (by simp);subst ht;unfold Oper.wp;have hrun : ∀ ev : Operand → Value, ev x = str s → ev y = str u → (execOp ev o).run Tryz.prog w = .ok (.value (.slice (some ⟨w.heap.size, 0, none⟩) 2 2)) (w.alloc (.cells #[str s, str u] 9)) := fun ev h1 h2 => by
   unfold execOp;simp [ho, h1, h2, go_sem]
  rw [hrun _ h1 h2];exact hn _ _ (SS.new D w (hD w hS) [s, u] 9 (0, 0) (by unfold maxLen; simp) (by
   intro z hz;rcases List.mem_cons.1 hz with rfl | hz
   · exact hl
   · rw [List.mem_singleton.1 hz]; exact hl2)) ((Below.refl _ w).alloc (nl _) _)
end
end Go.Proofs.YtakgjcfkdemipaaGreatDoor
namespace Go.Proofs.YtakgjcfkdemipaaGreatDoor
open Go.RowKit
def shortK (l : List (List UInt8)) : Bool := l.all fun s => decide (s.length ≤ 200)
def sigS (s : SigP) : Bool := decide (s.args.length ≤ 8) && decide (s.sigs.length ≤ 8) && shortK s.args && shortK s.sigs && shortK [s.res]
def opS (o : OpP) : Bool := shortK [o.name] && sigS o.sig
def wantedS (l : List OpP) : Bool := l.all opS && decide (l.length ≤ 6)
def headS (f : FaceP) : Bool := shortK [f.name] && wantedS f.needs && !(decide (8 < f.ops.length) && decide (f.ops.length ≤ 20)) && !decide (22 < f.ops.length)
def sizeS (n : Nat) : Bool := decide (n ≤ 8) || (decide (20 < n) && decide (n ≤ 23))
def fewS (l : List FaceP) : Bool := l.all (fun f => headS f && f.ops.all opS) && sizeS l.length
theorem all_drop_no {α : Type} {p : α → Bool} {l : List α} {k : Nat} {x : α} (hk : l[k]? = some x) (hx : p x = false) : (l.drop k).all p = false := by rw [fdrop_at hk, List.all_cons, hx]; rfl
theorem all_drop_yes {α : Type} {p : α → Bool} {l : List α} {k : Nat} {x : α} (hk : l[k]? = some x) (hx : p x = true) : (l.drop k).all p = (l.drop (k + 1)).all p := by rw [fdrop_at hk, List.all_cons, hx]; rfl
set_option maxRecDepth 4000 in
set_option maxHeartbeats 3200000 in
theorem lshort_any {D : Nat → Prop} (l : List (List UInt8)) (v : Value) (w : World) (hv : SS D w v l) :
 Calls Tryz.prog 17 #[v] w fun e w' => e = .returned (.bool (shortK l)) ∧ Below w.heap.size w w' := by
 obtain ⟨p, c, rfl, hc, hm, hle⟩ := hv.shape
 unfold maxLen at hm
 have hle := Lib.hid hle
 go_enter Tryz.func17, Tryz.ntmps17
 go_wp2_with fail
 go_loopw [3] (fun y wr => ∃ i : Nat, i ≤ l.length ∧ y = .int .i64 i ∧ Below w.heap.size w wr ∧ Hid (shortK l = (l.drop i).all fun s => decide (s.length ≤ 200))) (fun y _ => l.length - (intOf y).toNat)
 case atStart => exact ⟨0, Nat.zero_le _, by go_num, Below.refl _ _, rfl⟩
 case round =>
  obtain ⟨i, hi, rfl, hB, hA⟩ := hrel
  by_cases hlt : i < l.length
  case neg =>
   have HX := Lib.hid (show shortK l = true by rw [hA.out, List.drop_eq_nil_of_le (by omega)]; rfl);clear hA;go_wp2_with fail;go_ret;exact ⟨by rw [HX.out]; rfl, hB⟩
  case pos =>
   obtain ⟨t, ht⟩ : ∃ t, l[i]? = some t := ⟨_, List.getElem?_eq_getElem hlt⟩
   obtain ⟨b1, o1, rfl, _, hct⟩ := (hv.below hB (nl _)).at ht
   by_cases h2 : t.length ≤ 200
   · have HX := Lib.hid (hA.out.trans (all_drop_yes ht (decide_eq_true h2)))
     have g1 : ¬ 200 < t.length := by omega
     have g2 : ¬ (200 : Int) < (t.length : Int) := by omega
     clear hA ht;go_wp2_with fail;exact ⟨⟨i + 1, hlt, by go_num, hB, HX⟩, by simp only [intOf]; omega⟩
   · have HX := Lib.hid (hA.out.trans (all_drop_no ht (decide_eq_false h2)))
     have g1 : 200 < t.length := by omega
     have g2 : (200 : Int) < (t.length : Int) := by omega
     clear hA ht;go_wp2_with fail;go_ret;exact ⟨by rw [HX.out]; rfl, hB⟩
theorem ss_one (w : World) (s : List UInt8) (h : s.length ≤ maxLen) : SS Any (w.alloc (.cells #[str s] 9)) (.slice (some ⟨w.heap.size, 0, none⟩) 1 1) [s] :=
 SS.new Any w trivial [s] 9 (0, 0) (by simp [maxLen]) (by intro x hx; rw [List.mem_singleton.1 hx]; exact h)
set_option maxRecDepth 4000 in
set_option maxHeartbeats 6400000 in
theorem lsig_any {D : Nat → Prop} (s : SigP) (v : Value) (w : World) (hv : SigV D w v s) :
 Calls Tryz.prog 55 #[v] w fun e w' => e = .returned (.bool (sigS s)) ∧ Below w.heap.size w w' := by
 obtain ⟨a, g, rfl, hsl, hSa, hSg⟩ := hv
 have hA := (Below.refl _ w).alloc (nl _) (.cells #[.bool s.iter, a, str s.res, g] 36)
 have hbox := heap_alloc_new w (.cells #[.bool s.iter, a, str s.res, g] 36)
 have H1 := lshort_any s.args a _ (hSa.below hA (nl _))
 have H2 := fun W (hW : Below (w.alloc (.cells #[.bool s.iter, a, str s.res, g] 36)).heap.size (w.alloc (.cells #[.bool s.iter, a, str s.res, g] 36)) W) => lshort_any s.sigs g W ((hSg.below hA (nl _)).below hW (nl _))
 have H3 := fun W => lshort_any [s.res] _ _ (ss_one W s.res hsl)
 have bx := box4 hbox
 obtain ⟨pa, ca, rfl, _, ha1, _⟩ := hSa.shape
 obtain ⟨pg, cg, rfl, _, hg1, _⟩ := hSg.shape
 unfold maxLen at ha1 hg1
 have HS := Lib.hid (show sigS s = (decide (s.args.length ≤ 8) && decide (s.sigs.length ≤ 8) && shortK s.args && shortK s.sigs && shortK [s.res]) from rfl)
 generalize sigS s = SK at *
 generalize shortK s.args = r1 at *
 generalize shortK s.sigs = r2 at *
 generalize shortK [s.res] = r3 at *
 clear hSa hSg
 by_cases g1 : s.args.length ≤ 8
 case neg =>
  have HX := Lib.hid (show SK = false by rw [HS.out, decide_eq_false g1]; rfl);have g2 : ¬ (s.args.length : Int) ≤ 8 := by omega
  clear HS H1 H2 H3;go_enter Tryz.func55, Tryz.ntmps55;go_wp2_with fail;go_ret;exact ⟨by rw [HX.out]; first | done | rfl, hA⟩
 case pos =>
  have g2 : (s.args.length : Int) ≤ 8 := by omega
  by_cases g3 : s.sigs.length ≤ 8
  case neg =>
   have HX := Lib.hid (show SK = false by rw [HS.out, decide_eq_false g3]; simp);have g4 : ¬ (s.sigs.length : Int) ≤ 8 := by omega
   clear HS H1 H2 H3;go_enter Tryz.func55, Tryz.ntmps55;go_wp2_with fail;go_ret;exact ⟨by rw [HX.out]; first | done | rfl, hA⟩
  case pos =>
   have g4 : (s.sigs.length : Int) ≤ 8 := by omega
   have HS2 := Lib.hid (show SK = (r1 && r2 && r3) by rw [HS.out, decide_eq_true g1, decide_eq_true g3]; simp);clear HS;rcases r1 with _ | _
   · have HX := Lib.hid (show SK = false by rw [HS2.out]; rfl)
     clear HS2 H2 H3;go_enter Tryz.func55, Tryz.ntmps55;go_wp2_with (go_at_call 17; refine H1.mono ?_; clear H1; rintro e w1 ⟨rfl, hb1⟩);go_ret;exact ⟨by rw [HX.out]; first | done | rfl, hA.trans (below_less hb1 hA.size)⟩
   rcases r2 with _ | _
   · have HX := Lib.hid (show SK = false by rw [HS2.out]; rfl)
     clear HS2 H3;go_enter Tryz.func55, Tryz.ntmps55;go_wp2_with (first
      | (go_at_call 17; refine H1.mono ?_; clear H1; rintro e w1 ⟨rfl, hb1⟩; have H2 := H2 _ hb1; have hk := box4 (kept_call hbox hb1))
      | (go_at_call 17; refine H2.mono ?_; clear H2; rintro e w2 ⟨rfl, hb2⟩))
     go_ret;exact ⟨by rw [HX.out]; first | done | rfl, (hA.trans (below_less hb1 hA.size)).trans (below_less hb2 (by have := hb1.size; simp at this; omega))⟩
   · have HX := Lib.hid (show SK = r3 by rw [HS2.out]; rfl)
     clear HS2;go_enter Tryz.func55, Tryz.ntmps55;go_wp2_with (first
      | (go_at_call 17; refine H1.mono ?_; clear H1; rintro e w1 ⟨rfl, hb1⟩; have H2 := H2 _ hb1; have hk := box4 (kept_call hbox hb1))
      | (go_at_call 17; refine H2.mono ?_; clear H2; rintro e w2 ⟨rfl, hb2⟩; have hk2 := box4 (kept_call (kept_call hbox hb1) hb2))
      | (go_at_call 17; refine (H3 _).mono ?_; clear H3; rintro e w3 ⟨rfl, hb3⟩))
     go_ret;have hB1 := (hA.trans (below_less hb1 hA.size)).trans (below_less hb2 (by have := hb1.size; simp at this; omega));exact ⟨by rw [HX.out]; first | done | rfl, (hB1.alloc hB1.size _).trans (below_less hb3 (by have := hB1.size; simp; omega))⟩
end Go.Proofs.YtakgjcfkdemipaaGreatDoor
namespace Go.Proofs.YtakgjcfkdemipaaGreatDoor
open Go.RowKit
def faceS (f : FaceP) : Bool := headS f && f.ops.all opS
theorem fewS_eq (l : List FaceP) : fewS l = (l.all faceS && sizeS l.length) := rfl
set_option maxRecDepth 4000 in
set_option maxHeartbeats 6400000 in
theorem lwanted_any {D : Nat → Prop} (l : List OpP) (v : Value) (w : World) (hv : OpsM D w v l) :
 Calls Tryz.prog 16 #[v] w fun e w' => e = .returned (.bool (wantedS l)) ∧ Below w.heap.size w w' := by
 obtain ⟨p, c, rfl, hc, hm, hle⟩ := hv.shape
 unfold maxLen at hm
 clear hle
 go_enter Tryz.func16, Tryz.ntmps16
 go_wp2_with fail
 go_loopw [3] (fun y wr => ∃ i : Nat, i ≤ l.length ∧ y = .int .i64 i ∧ Below w.heap.size w wr ∧ Hid (wantedS l = ((l.drop i).all opS && decide (l.length ≤ 6)))) (fun y _ => l.length - (intOf y).toNat)
 case atStart => exact ⟨0, Nat.zero_le _, by go_num, Below.refl _ _, rfl⟩
 case round =>
  obtain ⟨i, hi, rfl, hB, hA⟩ := hrel
  by_cases hlt : i < l.length
  case neg =>
   have HX := Lib.hid (show wantedS l = decide (l.length ≤ 6) by rw [hA.out, List.drop_eq_nil_of_le (by omega)]; rfl);clear hA
   by_cases h6 : l.length ≤ 6
   all_goals
    have HX := Lib.hid (HX.out.trans (by first | exact decide_eq_true h6 | exact decide_eq_false h6));have h7 : (l.length : Int) ≤ 6 ↔ l.length ≤ 6 := by omega
    simp only [h6, iff_true, iff_false] at h7;go_wp2_with fail;go_ret;exact ⟨by rw [HX.out]; first | done | rfl, hB⟩
  case pos =>
   obtain ⟨x, hx⟩ : ∃ x, l[i]? = some x := ⟨_, List.getElem?_eq_getElem hlt⟩
   obtain ⟨b1, o1, av, sv, rfl, _, hxl, hSa, hSs, pc0, pc1, pc2, pc3, pc4⟩ := (hv.below hB (nl _)).at hx;have HSg := fun W (hW : Below wr.heap.size wr W) => lsig_any x.sig _ W ⟨av, sv, rfl, hxl.2, hSa.below hW (nl _), hSs.below hW (nl _)⟩
   obtain ⟨pa, ca, rfl, _⟩ := hSa.shape;obtain ⟨ps, cs, rfl, _⟩ := hSs.shape;have HS := lshort_any [x.name] _ _ (ss_one wr x.name hxl.1);have hE := (Below.refl _ wr).alloc (nl _) (.cells #[str x.name] 9);have HO := Lib.hid (show opS x = (shortK [x.name] && sigS x.sig) from rfl);have hA0 := Lib.hid hA.out;clear hSa hSs;generalize shortK [x.name] = q1 at *;generalize sigS x.sig = q2 at *;rcases q1 with _ | _
   · have HX := Lib.hid (show wantedS l = false by rw [hA0.out, all_drop_no hx (by rw [HO.out]; rfl)]; rfl)
     clear hA hA0 hx HO HSg;go_wp2_with (go_at_call 17; refine HS.mono ?_; clear HS; rintro e w1 ⟨rfl, hb1⟩);go_ret;exact ⟨by rw [HX.out]; first | done | rfl, hB.trans (below_less (hE.trans (below_less hb1 hE.size)) hB.size)⟩
   rcases q2 with _ | _
   · have HX := Lib.hid (show wantedS l = false by rw [hA0.out, all_drop_no hx (by rw [HO.out]; rfl)]; rfl)
     clear hA hA0 hx HO;go_wp2_with (first
      | (go_at_call 55; refine (HSg w1 hB1).mono ?_; clear HSg; rintro e w2 ⟨rfl, hb2⟩)
      | (go_at_call 17; refine HS.mono ?_; clear HS; rintro e w1 ⟨rfl, hb1⟩; have hB1 := hE.trans (below_less hb1 hE.size); have kc0 := Below.keep hB1 pc0; have kc1 := Below.keep hB1 pc1; have kc2 := Below.keep hB1 pc2; have kc3 := Below.keep hB1 pc3; have kc4 := Below.keep hB1 pc4))
     go_ret;exact ⟨by rw [HX.out]; first | done | rfl, hB.trans (below_less (hB1.trans (below_less hb2 hB1.size)) hB.size)⟩
   · have HX := Lib.hid (hA0.out.trans (by rw [all_drop_yes hx (by rw [HO.out]; rfl)]))
     clear hA hA0 hx HO;go_wp2_with (first
      | (go_at_call 55; refine (HSg w1 hB1).mono ?_; clear HSg; rintro e w2 ⟨rfl, hb2⟩)
      | (go_at_call 17; refine HS.mono ?_; clear HS; rintro e w1 ⟨rfl, hb1⟩; have hB1 := hE.trans (below_less hb1 hE.size); have kc0 := Below.keep hB1 pc0; have kc1 := Below.keep hB1 pc1; have kc2 := Below.keep hB1 pc2; have kc3 := Below.keep hB1 pc3; have kc4 := Below.keep hB1 pc4))
     exact ⟨⟨i + 1, hlt, by go_num, hB.trans (below_less (hB1.trans (below_less hb2 hB1.size)) hB.size), HX⟩, by simp only [intOf]; omega⟩
set_option maxHeartbeats 3200000 in
theorem proc_any (r : List UInt8) (v : Value) (w : World) (hv : ∃ p n c, v = .slice p n c) :
 Calls Tryz.prog 57 #[str r, v] w fun e w' => e = .returned (.agg #[.bool false, v, str r, .slice none 0 0]) ∧ Below w.heap.size w w' := by
 obtain ⟨p, n, c, rfl⟩ := hv
 go_enter Tryz.func57, Tryz.ntmps57
 go_wp2_with fail
 refine bodyPost_ret (v := .agg #[.bool false, .slice p n c, str r, .slice none 0 0]) (by simp [results, Tryz.results57, go_sem]) rfl ?_
 exact ⟨rfl, (Below.refl _ _).alloc (nl _) _⟩
end Go.Proofs.YtakgjcfkdemipaaGreatDoor
namespace Go.Proofs.YtakgjcfkdemipaaGreatDoor
open Go.RowKit
theorem headS_no1 {f : FaceP} (h : shortK [f.name] = false) : faceS f = false := by unfold faceS headS; rw [h]; rfl
theorem headS_no2 {f : FaceP} (h : wantedS f.needs = false) : faceS f = false := by unfold faceS headS; rw [h]; simp
theorem headS_no3 {f : FaceP} (h : 8 < f.ops.length) (h2 : f.ops.length ≤ 20) : faceS f = false := by unfold faceS headS; rw [decide_eq_true h, decide_eq_true h2]; simp
theorem headS_no4 {f : FaceP} (h : 22 < f.ops.length) : faceS f = false := by unfold faceS headS; rw [decide_eq_true h]; simp
theorem headS_yes {f : FaceP} (h1 : shortK [f.name] = true) (h2 : wantedS f.needs = true) (h3 : ¬ (8 < f.ops.length ∧ f.ops.length ≤ 20)) (h4 : ¬ 22 < f.ops.length) : faceS f = f.ops.all opS := by
 unfold faceS headS
 rw [h1, h2, decide_eq_false h4]
 have : (decide (8 < f.ops.length) && decide (f.ops.length ≤ 20)) = false := by
  rw [Bool.and_eq_false_iff, decide_eq_false_iff_not, decide_eq_false_iff_not];omega
 rw [this]
 rfl
set_option maxRecDepth 4000 in
set_option maxHeartbeats 6400000 in
theorem lfew_any {D : Nat → Prop} (l : List FaceP) (v : Value) (w : World) (hv : FacesM D w v l) :
 Calls Tryz.prog 15 #[v] w fun e w' => e = .returned (.bool (fewS l)) ∧ Below w.heap.size w w' := by
 obtain ⟨p, c, rfl, hc, hm, hle⟩ := hv.shape
 unfold maxLen at hm
 clear hle
 go_enter Tryz.func15, Tryz.ntmps15
 go_wp2_with fail
 go_loopw [3] (fun y wr => ∃ i : Nat, i ≤ l.length ∧ y = .int .i64 i ∧ Below w.heap.size w wr ∧ Hid (fewS l = ((l.drop i).all faceS && sizeS l.length))) (fun y _ => l.length - (intOf y).toNat)
 case atStart => exact ⟨0, Nat.zero_le _, by go_num, Below.refl _ _, rfl⟩
 case round =>
  obtain ⟨i, hi, rfl, hB, hA⟩ := hrel
  by_cases hlt : i < l.length
  case neg =>
   have HX := Lib.hid (show fewS l = sizeS l.length by rw [hA.out, List.drop_eq_nil_of_le (by omega)]; rfl);clear hA;have hz : (l.length ≤ 8 ∧ sizeS l.length = true) ∨ (¬ l.length ≤ 8 ∧ ¬ 20 < l.length ∧ sizeS l.length = false) ∨ (¬ l.length ≤ 8 ∧ 20 < l.length ∧ ¬ l.length ≤ 23 ∧ sizeS l.length = false) ∨ (¬ l.length ≤ 8 ∧ 20 < l.length ∧ l.length ≤ 23 ∧ sizeS l.length = true) := by
    unfold sizeS;simp only [Bool.or_eq_true, Bool.or_eq_false_iff, Bool.and_eq_true, Bool.and_eq_false_iff, decide_eq_true_eq, decide_eq_false_iff_not];omega
   rcases hz with ⟨z1, z⟩ | ⟨z1, z2, z⟩ | ⟨z1, z2, z3, z⟩ | ⟨z1, z2, z3, z⟩
   all_goals
    have HX := Lib.hid (HX.out.trans z);have y1 : (l.length : Int) ≤ 8 ↔ l.length ≤ 8 := by omega
    have y2 : (20 : Int) < (l.length : Int) ↔ 20 < l.length := by omega
    have y3 : (l.length : Int) ≤ 23 ↔ l.length ≤ 23 := by omega
    clear z;go_wp2_with fail;go_ret;exact ⟨by rw [HX.out]; first | done | rfl, hB⟩
  case pos =>
   obtain ⟨x, hx⟩ : ∃ x, l[i]? = some x := ⟨_, List.getElem?_eq_getElem hlt⟩
   obtain ⟨b1, o1, nv, ov, rfl, _, hxl, hN, hO, pc0, pc1, pc2, pc3, pc4⟩ := (hv.below hB (nl _)).at hx;have HW := fun W (hW : Below wr.heap.size wr W) => lwanted_any x.needs _ W (hN.below hW (nl _))
   have hOm := hO.shape;have hO0 := hO;obtain ⟨pn, cn, rfl, _⟩ := hN.shape;obtain ⟨po, co, rfl, _, hom, _⟩ := hO.shape;unfold maxLen at hom;have HS := lshort_any [x.name] _ _ (ss_one wr x.name hxl);have hE := (Below.refl _ wr).alloc (nl _) (.cells #[str x.name] 9);have hA0 := Lib.hid hA.out;clear hN hO hOm;rcases h1 : shortK [x.name] with _ | _
   · have HX := Lib.hid (show fewS l = false by rw [hA0.out, all_drop_no hx (headS_no1 h1)]; rfl)
     rw [h1] at HS;clear hA hA0 hx HW h1;go_wp2_with (go_at_call 17; refine HS.mono ?_; clear HS; rintro e w1 ⟨rfl, hb1⟩);go_ret;exact ⟨by rw [HX.out]; first | done | rfl, hB.trans (below_less (hE.trans (below_less hb1 hE.size)) hB.size)⟩
   rw [h1] at HS;rcases h2 : wantedS x.needs with _ | _
   · have HX := Lib.hid (show fewS l = false by rw [hA0.out, all_drop_no hx (headS_no2 h2)]; rfl)
     rw [h2] at HW;clear hA hA0 hx h1 h2;go_wp2_with (first
      | (go_at_call 16; refine (HW w1 hB1).mono ?_; clear HW; rintro e w2 ⟨rfl, hb2⟩)
      | (go_at_call 17; refine HS.mono ?_; clear HS; rintro e w1 ⟨rfl, hb1⟩; have hB1 := hE.trans (below_less hb1 hE.size); have kc3 := Below.keep hB1 pc3))
     go_ret;exact ⟨by rw [HX.out]; first | done | rfl, hB.trans (below_less (hB1.trans (below_less hb2 hB1.size)) hB.size)⟩
   rw [h2] at HW;have hz : (8 < x.ops.length ∧ x.ops.length ≤ 20 ∧ fewS l = false) ∨ (8 < x.ops.length ∧ ¬ x.ops.length ≤ 20 ∧ 22 < x.ops.length ∧ fewS l = false) ∨ (¬ (8 < x.ops.length ∧ x.ops.length ≤ 20) ∧ ¬ 22 < x.ops.length) := by
    by_cases k1 : 8 < x.ops.length ∧ x.ops.length ≤ 20
    · exact .inl ⟨k1.1, k1.2, by rw [hA0.out, all_drop_no hx (headS_no3 k1.1 k1.2)]; rfl⟩
    · by_cases k2 : 22 < x.ops.length
      · exact .inr (.inl ⟨by omega, by omega, k2, by rw [hA0.out, all_drop_no hx (headS_no4 k2)]; rfl⟩)
      · exact .inr (.inr ⟨k1, k2⟩)
   have y1 : (8 : Int) < (x.ops.length : Int) ↔ 8 < x.ops.length := by omega
   have y2 : (x.ops.length : Int) ≤ 20 ↔ x.ops.length ≤ 20 := by omega
   have y3 : (22 : Int) < (x.ops.length : Int) ↔ 22 < x.ops.length := by omega
   rcases hz with ⟨z1, z2, z⟩ | ⟨z1, z2, z3, z⟩ | ⟨z1, z3⟩
   · have HX := Lib.hid z
     clear z hA hA0 hx h1 h2;go_wp2_with (first
      | (go_at_call 16; refine (HW w1 hB1).mono ?_; clear HW; rintro e w2 ⟨rfl, hb2⟩; have hB2 := hB1.trans (below_less hb2 hB1.size); have kd4 := Below.keep hB2 pc4)
      | (go_at_call 17; refine HS.mono ?_; clear HS; rintro e w1 ⟨rfl, hb1⟩; have hB1 := hE.trans (below_less hb1 hE.size); have kc3 := Below.keep hB1 pc3))
     go_ret;exact ⟨by rw [HX.out]; first | done | rfl, hB.trans (below_less hB2 hB.size)⟩
   · have HX := Lib.hid z
     clear z hA hA0 hx h1 h2;go_wp2_with (first
      | (go_at_call 16; refine (HW w1 hB1).mono ?_; clear HW; rintro e w2 ⟨rfl, hb2⟩; have hB2 := hB1.trans (below_less hb2 hB1.size); have kd4 := Below.keep hB2 pc4)
      | (go_at_call 17; refine HS.mono ?_; clear HS; rintro e w1 ⟨rfl, hb1⟩; have hB1 := hE.trans (below_less hb1 hE.size); have kc3 := Below.keep hB1 pc3))
     go_ret;exact ⟨by rw [HX.out]; first | done | rfl, hB.trans (below_less hB2 hB.size)⟩
   have HX := Lib.hid (hA0.out.trans (by rw [fdrop_at hx, List.all_cons, headS_yes h1 h2 z1 z3]));have hz4 : (8 < x.ops.length ∧ ¬ x.ops.length ≤ 20) ∨ ¬ 8 < x.ops.length := by omega
   clear hA hA0 hx h1 h2 z1;rcases hz4 with ⟨z1, z2⟩ | z1
   all_goals
    go_wp2_with (first
     | (go_at_call 16; refine (HW w1 hB1).mono ?_; clear HW; rintro e w2 ⟨rfl, hb2⟩; have hB2 := hB1.trans (below_less hb2 hB1.size); have kd4 := Below.keep hB2 pc4)
     | (go_at_call 17; refine HS.mono ?_; clear HS; rintro e w1 ⟨rfl, hb1⟩; have hB1 := hE.trans (below_less hb1 hE.size); have kc3 := Below.keep hB1 pc3))
    have hO2 := hO0.below hB2 (nl _);have hBx := hB.trans (below_less hB2 hB.size);have kq4 := Lib.hid kd4;clear kd4 kc3 pc0 pc1 pc2 pc3 pc4 y1 y2 y3 hb1 hb2 hE hB1;go_loopw [4] (fun y wx => ∃ k : Nat, k ≤ x.ops.length ∧ y = .int .i64 k ∧ Below w2.heap.size w2 wx ∧ Hid (fewS l = ((x.ops.drop k).all opS && (l.drop (i + 1)).all faceS && sizeS l.length))) (fun y _ => x.ops.length - (intOf y).toNat)
    case atStart => exact ⟨0, Nat.zero_le _, by go_num, Below.refl _ _, HX⟩
    case round =>
     obtain ⟨k, hk, rfl, hB3, hA⟩ := hrel;have ke4 := Below.keep hB3 kq4.out;clear HX
     by_cases hlk : k < x.ops.length
     case neg =>
      have HX := Lib.hid (show fewS l = ((l.drop (i + 1)).all faceS && sizeS l.length) by rw [hA.out, List.drop_eq_nil_of_le (by omega)]; rfl);clear hA;go_wp2_with fail;exact ⟨⟨i + 1, hlt, by go_num, hBx.trans (below_less hB3 hBx.size), HX⟩, by simp only [intOf]; omega⟩
     case pos =>
      obtain ⟨y, hy⟩ : ∃ y, x.ops[k]? = some y := ⟨_, List.getElem?_eq_getElem hlk⟩
      obtain ⟨b2, o2, av, sv, hbe, _, hyl, hSa, hSs, qc0, qc1, qc2, qc3, qc4⟩ := (hO2.below hB3 (nl _)).at hy;subst hbe;have HSg := fun W (hW : Below wr.heap.size wr W) => lsig_any y.sig _ W ⟨av, sv, rfl, hyl.2, hSa.below hW (nl _), hSs.below hW (nl _)⟩
      obtain ⟨pa, ca, rfl, _⟩ := hSa.shape;obtain ⟨ps, cs, rfl, _⟩ := hSs.shape;have HS := lshort_any [y.name] _ _ (ss_one wr y.name hyl.1);have hE := (Below.refl _ wr).alloc (nl _) (.cells #[str y.name] 9);have HO := Lib.hid (show opS y = (shortK [y.name] && sigS y.sig) from rfl);have hA0 := Lib.hid hA.out;have hBw := hBx.trans (below_less hB3 hBx.size);clear hSa hSs hA;generalize shortK [y.name] = q1 at *;generalize sigS y.sig = q2 at *;rcases q1 with _ | _
      · have HX := Lib.hid (show fewS l = false by rw [hA0.out, all_drop_no hy (by rw [HO.out]; rfl)]; rfl)
        clear hA0 hy HO HSg;go_wp2_with (go_at_call 17; refine HS.mono ?_; clear HS; rintro e w3 ⟨rfl, hb3⟩);go_ret;exact ⟨by rw [HX.out]; first | done | rfl, hBw.trans (below_less (hE.trans (below_less hb3 hE.size)) hBw.size)⟩
      rcases q2 with _ | _
      · have HX := Lib.hid (show fewS l = false by rw [hA0.out, all_drop_no hy (by rw [HO.out]; rfl)]; rfl)
        clear hA0 hy HO;go_wp2_with (first
         | (go_at_call 55; refine (HSg w3 hB4).mono ?_; clear HSg; rintro e w4 ⟨rfl, hb4⟩)
         | (go_at_call 17; refine HS.mono ?_; clear HS; rintro e w3 ⟨rfl, hb3⟩; have hB4 := hE.trans (below_less hb3 hE.size); have kf4 := Below.keep hB4 ke4; have kc0 := Below.keep hB4 qc0; have kc1 := Below.keep hB4 qc1; have kc2 := Below.keep hB4 qc2; have kc3 := Below.keep hB4 qc3; have kc4 := Below.keep hB4 qc4))
        go_ret;exact ⟨by rw [HX.out]; first | done | rfl, hBw.trans (below_less (hB4.trans (below_less hb4 hB4.size)) hBw.size)⟩
      · have HX := Lib.hid (hA0.out.trans (by rw [all_drop_yes hy (by rw [HO.out]; rfl)]))
        clear hA0 hy HO;go_wp2_with (first
         | (go_at_call 55; refine (HSg w3 hB4).mono ?_; clear HSg; rintro e w4 ⟨rfl, hb4⟩)
         | (go_at_call 17; refine HS.mono ?_; clear HS; rintro e w3 ⟨rfl, hb3⟩; have hB4 := hE.trans (below_less hb3 hE.size); have kf4 := Below.keep hB4 ke4; have kc0 := Below.keep hB4 qc0; have kc1 := Below.keep hB4 qc1; have kc2 := Below.keep hB4 qc2; have kc3 := Below.keep hB4 qc3; have kc4 := Below.keep hB4 qc4))
        exact ⟨⟨k + 1, hlk, by go_num, hB3.trans (below_less (hB4.trans (below_less hb4 hB4.size)) hB3.size), HX⟩, by simp only [intOf]; omega⟩
end Go.Proofs.YtakgjcfkdemipaaGreatDoor
namespace Go.Proofs.YtakgjcfkdemipaaGreatDoor
open Go Go.RowKit
abbrev vP (b o : Nat) : VS := .eq (.pointer (some ⟨b, o, none⟩))
abbrev vL (b o n c : Nat) : VS := .eq (.slice (some ⟨b, o, none⟩) n c)
abbrev vI (n : Int) : VS := .eq (.int .i64 n)
abbrev vY : VS := .eq (.bool true)
abbrev vN : VS := .eq (.bool false)
abbrev cA (b o : Nat) (v : Value) : Addr × Value := (⟨b, o, none⟩, v)
def passV (ops : Array Oper) (h : Nat) (V : List VS) (E : List (Nat × VS)) (o : Oper) : Option VS :=
 match wantV ops h V o with
 | some false => some .skip
 | some true => match o.op with
  | .assign x => specOf ops h V E o x
  | .move x => specOf ops h V E o x
  | .pick c a b => match specOf ops h V E o c with
   | some (.eq (.bool q)) => match specOf ops h V E o (if q then a else b) with
    | some (.eq r) => some (.eq r)
    | _ => none
   | _ => none
  | .unOp .not _ x => match specOf ops h V E o x with
   | some (.eq (.bool q)) => some (.eq (.bool (!q)))
   | _ => none
  | _ => none
 | none => none
def isPass : Op → Bool
 | .assign _ => true
 | .move _ => true
 | .pick _ _ _ => true
 | .unOp .not _ _ => true
 | _ => false
section
variable {D : Nat → Prop} {ops : Array Oper} {h : Nat} {V : List VS} {E : List (Nat × VS)} {S : World → Prop}
theorem st0 {k : Nat} {o : Oper} {s : VS} (_ : isPass o.op = true) (hk : V[k]? = some s) (hp : passV ops h V E o = some s) : StepAt D Tryz.prog S ops h V E k o := by
 unfold passV at hp
 split at hp
 · cases hp
   exact stSkip ‹_› hk
 · rename_i hw
   split at hp
   · rename_i ho; exact stA (.inl ho) hw hk hp
   · rename_i ho; exact stA (.inr ho) hw hk hp
   · rename_i ho
     split at hp
     · rename_i hc
       split at hp
       · rename_i hx
         cases hp;exact stPick ho hw hk hc hx
       · cases hp
     · cases hp
   · rename_i ho
     split at hp
     · rename_i hx
       cases hp;exact stNot ho hw hk hx rfl
     · cases hp
   · cases hp
 · cases hp
end
def HoldE (D : Nat → Prop) (w : World) (a : Act) : List (Nat × VS) → Prop
 | [] => True
 | p :: l => p.2.holds D w (a.eval (.tmp p.1)) ∧ HoldE D w a l
theorem HoldE.all {D : Nat → Prop} {w : World} {a : Act} : ∀ {E : List (Nat × VS)}, HoldE D w a E → ∀ p ∈ E, p.2.holds D w (a.eval (.tmp p.1))
 | [], _, p, hp => by cases hp
 | q :: l, hE, p, hp => by
  rcases List.mem_cons.1 hp with rfl | hp
  · exact hE.1
  · exact HoldE.all hE.2 p hp
def regOk (P : Program) (ops : Array Oper) (h n : Nat) : Bool := P.follows .mixedOrders && (decide (ops.size = h + 1) && (fwdB .any ops && (headB .any ops h && dstG ops n)))
theorem wp_reg {D : Nat → Prop} {P : Program} {ops : Array Oper} {a0 : Act} {Q : Exit → Act → World → Prop} {id : Nat} {w : World} {v : Value} (h : Nat) (E : List (Nat × VS)) (V : List VS) (S : World → Prop) (hok : regOk P ops h a0.tmps.size = true) (hl : V[h]? = some (.eq v))
 (hSs : ∀ w w', S w → Below w.heap.size w w' → S w') (hS : S w.drew) (hE : HoldE D w.drew a0 E) (hst : StepsAt D P S ops h V E 0 ops.toList)
 (hend : ∀ a w', S w' → Below w.heap.size w w' → (∀ (j : Nat) (s : VS) (d : Nat), j < h → V[j]? = some s → (ops[j]?).bind (·.dst) = some d → s.holds D w' (a.tmps.getD d undef)) → Q .normal ((putsOf a (ops.toList.take h) a0).put ((ops[h]?).bind (·.dst)) v) w') :
 (Code.region id ops true).wp P Q a0 w := by
 unfold regOk at hok
 simp only [Bool.and_eq_true, decide_eq_true_eq] at hok
 obtain ⟨h1, h2, h3, h4, h5⟩ := hok
 refine wp_region_spec h E V S h1 h2 h3 h4 h5 hSs hS hE.all hst fun a u w' hS' hb ha hf hv => ?_
 obtain rfl : u = v := hv _ hl
 have := hend a w' hS' hb hf
 rwa [← ha] at this
theorem pq : (∀ {α : Type} (a : α) (l : List α) (n : Nat), (a :: l).take (n + 1) = a :: l.take n) ∧ (∀ {α : Type} (l : List α), l.take 0 = []) ∧ (∀ (a b : Act), putsOf a [] b = b) ∧ (∀ (a b : Act) (o : Oper) (l : List Oper), putsOf a (o :: l) b = putsOf a l (b.put o.dst (match o.dst with | some d => a.tmps.getD d undef | none => undef))) := ⟨fun _ _ _ => rfl, fun _ => rfl, fun _ _ => rfl, fun _ _ _ _ => rfl⟩
theorem cnil {w : World} : CellsAt [] w := fun p hp => by cases hp
theorem ccons {w : World} {b o : Nat} {v : Value} {L : List (Addr × Value)} (h : w.cell? ⟨b, o, none⟩ = some v) (hL : CellsAt L w) : CellsAt (cA b o v :: L) w := fun p hp => by
 rcases List.mem_cons.1 hp with rfl | hp
 · exact h
 · exact hL p hp
end Go.Proofs.YtakgjcfkdemipaaGreatDoor
