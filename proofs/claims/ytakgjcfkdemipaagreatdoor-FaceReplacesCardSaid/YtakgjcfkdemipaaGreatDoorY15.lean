/-
  Contract: kind.read.
  Contract: kind.checked: the answer's number and the type.
-/
import Derived.Test.YtakgjcfkdemipaaGreatDoorYn
import Derived.Test.YtakgjcfkdemipaaGreatDoorY1
import Derived.Test.YtakgjcfkdemipaaGreatDoorY9
import Derived.Test.YtakgjcfkdemipaaGreatDoorY14
namespace Go.Proofs.YtakgjcfkdemipaaGreatDoor
open Go.RowKit
section
variable {P : Program} {ops : Array Oper} {Q : Exit → Act → World → Prop} {md : Region.Mode} {S : World → Prop}
theorem takeD {i : Nat} {oi : Oper} {d : Option Nat} {v : Value} {fuel : Nat} {listed : Array Bool} {a : Act} {w : World} (hi : ops[i]? = some oi) (hd : oi.dst = d)
 (hs : Region.noSelect ops = true) (hf : Region.free md ops listed i = true) (hr : (Region.ready md ops listed).contains i = true)
 (hQ : ∀ c a w, Q (.panic c) (a.put d v) w → Q (.panic c) a w) (hS : S w) (hw : Region.wanted oi (yielded ops a.tmps) = true) (hy : ∀ w, S w → (execOp a.eval oi).run P w = .ok (.value v) w)
 (h : wpAnyH P md ops Q S fuel (listed.setIfInBounds i true) (a.put d v) w) : wpAnyH P md ops Q S (fuel + 1) listed a w := by
 subst hd
 exact wpAnyH_take hi hs hf hr hQ (.inl ⟨hw, hy⟩) hS h
theorem leaves_same {fn : Func} {t t' : Array Value} {R : Ending → World → Prop} (he : results fn t = results fn t') : ∀ (ds : List Deferred) (u : FrameMode) (w : World), Leaves P fn t R ds u w → Leaves P fn t' R ds u w := by
 intro ds
 induction ds with
 | nil =>
  intro u w h;cases u with
  | returning => unfold Leaves at h ⊢; rw [← he]; exact h
  | panicking => exact h
  | run => exact h
 | cons d ds ih =>
  intro u w h;obtain ⟨h1, fv, cap, f, args, h2, h3, h4⟩ := h;refine ⟨h1, fv, cap, f, args, h2, h3, h4.mono ?_⟩;intro e u' w' hp;cases e with
  | returned => exact ih _ _ hp
  | panicked => exact ih _ _ hp
  | outgrown => exact hp
theorem put_kread {R : Ending → World → Prop} {K : Act → World → Prop} (v : Value) (d : Nat) (hd : 4 ≤ d) : ∀ c (a : Act) w, Exit.then K (bodyPostD Tryz.prog Tryz.f211 R) (.panic c) (a.put (some d) v) w → Exit.then K (bodyPostD Tryz.prog Tryz.f211 R) (.panic c) a w := by
 intro c a w h
 refine leaves_same ?_ _ _ _ h
 have h2 : (a.tmps.setIfInBounds d v)[2]? = a.tmps[2]? := Array.getElem?_setIfInBounds_ne (by omega)
 have h3 : (a.tmps.setIfInBounds d v)[3]? = a.tmps[3]? := Array.getElem?_setIfInBounds_ne (by omega)
 simp [results, Tryz.results211, Act.put, Array.getD_eq_getD_getElem?, h2, h3]
end
def ReadPost (w : World) (s : List UInt8) (e : Ending) (w' : World) : Prop :=
 (match parseT s with
  | some (t, []) => ∃ v, e = .returned (.tuple #[.agg #[.int .u8 t.k, str t.n, v], .bool true]) ∧ FoV w' (fun b => w.heap.size ≤ b) t.sub v
  | _ => e = .returned (.tuple #[.agg #[.int .u8 0, str [], .slice none 0 0], .bool false])) ∧ Below w.heap.size w w'
def K6 (w : World) (s : List UInt8) : World :=
 (((((w.alloc (.cells #[.int .u8 0, .string ⟨#[]⟩, .slice none 0 0] 174)).alloc (.cells #[.bool false] 4)).alloc (.cells #[.func (.func 251) #[] #[]] 252)).alloc (.cells #[str s] 257)).alloc (.cells #[.pointer (some ⟨w.heap.size + 1 + 1 + 1, 0, none⟩)] 253)).alloc
  (.cells #[.func (.func 252) #[] #[.pointer (some ⟨w.heap.size + 1 + 1 + 1 + 1, 0, none⟩), .pointer (some ⟨w.heap.size + 1 + 1, 0, none⟩), .pointer (some ⟨w.heap.size + 1 + 1 + 1 + 1 + 1, 0, none⟩)]] 258)
theorem heap_old {w : World} {k : Nat} {o' : Obj} (o : Obj) (h : w.heap[k]? = some o') : (w.alloc o).heap[k]? = some o' :=
 (((Below.refl w.heap.size w).alloc (nl _) o).block k (Array.getElem?_eq_some_iff.1 h).1).trans h
theorem heap_at {w : World} {n : Nat} (hn : w.heap.size = n) (cs : Array Value) (t : TypeId) : (w.alloc (.cells cs t)).heap[n]? = some (.cells cs t (0, 0)) := hn ▸ heap_alloc_new w _
theorem Tab.lt {w : World} (h : Tab w) : 1 < w.heap.size := by
 unfold Tab Lib.TabIs World.var? at h
 rw [gTab] at h
 simp only [Option.bind_some] at h
 rcases hk : w.heap[1]? with _ | o
 · rw [hk] at h; simp at h
 · exact (Array.getElem?_eq_some_iff.1 hk).1
structure K6Ok (w : World) (s : List UInt8) (W : World) : Prop where
 env : Env W (w.heap.size + 1 + 1 + 1 + 1) (w.heap.size + 1 + 1) (w.heap.size + 1 + 1 + 1 + 1 + 1) (w.heap.size + 1 + 1 + 1)
 rest : Rest W (w.heap.size + 1 + 1 + 1) s
 tab : Tab W
 bel : Below w.heap.size w W
 res : W.heap[w.heap.size]? = some (.cells #[.int .u8 0, .string ⟨#[]⟩, .slice none 0 0] 174 (0, 0))
 ok : W.heap[w.heap.size + 1]? = some (.cells #[.bool false] 4 (0, 0))
 size : W.heap.size = w.heap.size + 1 + 1 + 1 + 1 + 1 + 1
theorem k6 (w : World) (s : List UInt8) (ht : Tab w) : K6Ok w s (K6 w s) := by
 have hl := ht.lt
 have hb : Below w.heap.size w (K6 w s) := by
  unfold K6;exact ((((((Below.refl _ w).alloc (nl _) _).alloc (by simp) _).alloc (by simp; omega) _).alloc (by simp; omega) _).alloc (by simp; omega) _).alloc (by simp; omega) _
 have hsz : (K6 w s).heap.size = w.heap.size + 1 + 1 + 1 + 1 + 1 + 1 := by simp [K6]
 have htab := ht.kept (b := w.heap.size) (Kept.of_below hb (nl _)) (by omega)
 have e1 := heap_at (w := w) rfl #[.int .u8 0, .string ⟨#[]⟩, .slice none 0 0] 174
 unfold K6 at hb hsz htab ⊢
 generalize w.alloc (.cells #[.int .u8 0, .string ⟨#[]⟩, .slice none 0 0] 174) = w1 at *
 have z1 : w1.heap.size = w.heap.size + 1 := by simp at hsz; omega
 have e2 := heap_at z1 #[.bool false] 4
 replace e1 := heap_old (.cells #[.bool false] 4) e1
 generalize w1.alloc (.cells #[.bool false] 4) = w2 at *
 have z2 : w2.heap.size = w.heap.size + 1 + 1 := by simp at hsz; omega
 have e3 := heap_at z2 #[.func (.func 251) #[] #[]] 252
 replace e1 := heap_old (.cells #[.func (.func 251) #[] #[]] 252) e1
 replace e2 := heap_old (.cells #[.func (.func 251) #[] #[]] 252) e2
 generalize w2.alloc (.cells #[.func (.func 251) #[] #[]] 252) = w3 at *
 have z3 : w3.heap.size = w.heap.size + 1 + 1 + 1 := by simp at hsz; omega
 have e4 := heap_at z3 #[str s] 257
 replace e1 := heap_old (.cells #[str s] 257) e1
 replace e2 := heap_old (.cells #[str s] 257) e2
 replace e3 := heap_old (.cells #[str s] 257) e3
 generalize w3.alloc (.cells #[str s] 257) = w4 at *
 have z4 : w4.heap.size = w.heap.size + 1 + 1 + 1 + 1 := by simp at hsz; omega
 have e5 := heap_at z4 #[.pointer (some ⟨w.heap.size + 1 + 1 + 1, 0, none⟩)] 253
 replace e1 := heap_old (.cells #[.pointer (some ⟨w.heap.size + 1 + 1 + 1, 0, none⟩)] 253) e1
 replace e2 := heap_old (.cells #[.pointer (some ⟨w.heap.size + 1 + 1 + 1, 0, none⟩)] 253) e2
 replace e3 := heap_old (.cells #[.pointer (some ⟨w.heap.size + 1 + 1 + 1, 0, none⟩)] 253) e3
 replace e4 := heap_old (.cells #[.pointer (some ⟨w.heap.size + 1 + 1 + 1, 0, none⟩)] 253) e4
 generalize w4.alloc (.cells #[.pointer (some ⟨w.heap.size + 1 + 1 + 1, 0, none⟩)] 253) = w5 at *
 have z5 : w5.heap.size = w.heap.size + 1 + 1 + 1 + 1 + 1 := by simp at hsz; omega
 have e6 := heap_at z5 #[.func (.func 252) #[] #[.pointer (some ⟨w.heap.size + 1 + 1 + 1 + 1, 0, none⟩), .pointer (some ⟨w.heap.size + 1 + 1, 0, none⟩), .pointer (some ⟨w.heap.size + 1 + 1 + 1 + 1 + 1, 0, none⟩)]] 258
 replace e1 := heap_old (.cells #[.func (.func 252) #[] #[.pointer (some ⟨w.heap.size + 1 + 1 + 1 + 1, 0, none⟩), .pointer (some ⟨w.heap.size + 1 + 1, 0, none⟩), .pointer (some ⟨w.heap.size + 1 + 1 + 1 + 1 + 1, 0, none⟩)]] 258) e1
 replace e2 := heap_old (.cells #[.func (.func 252) #[] #[.pointer (some ⟨w.heap.size + 1 + 1 + 1 + 1, 0, none⟩), .pointer (some ⟨w.heap.size + 1 + 1, 0, none⟩), .pointer (some ⟨w.heap.size + 1 + 1 + 1 + 1 + 1, 0, none⟩)]] 258) e2
 replace e3 := heap_old (.cells #[.func (.func 252) #[] #[.pointer (some ⟨w.heap.size + 1 + 1 + 1 + 1, 0, none⟩), .pointer (some ⟨w.heap.size + 1 + 1, 0, none⟩), .pointer (some ⟨w.heap.size + 1 + 1 + 1 + 1 + 1, 0, none⟩)]] 258) e3
 replace e4 := heap_old (.cells #[.func (.func 252) #[] #[.pointer (some ⟨w.heap.size + 1 + 1 + 1 + 1, 0, none⟩), .pointer (some ⟨w.heap.size + 1 + 1, 0, none⟩), .pointer (some ⟨w.heap.size + 1 + 1 + 1 + 1 + 1, 0, none⟩)]] 258) e4
 replace e5 := heap_old (.cells #[.func (.func 252) #[] #[.pointer (some ⟨w.heap.size + 1 + 1 + 1 + 1, 0, none⟩), .pointer (some ⟨w.heap.size + 1 + 1, 0, none⟩), .pointer (some ⟨w.heap.size + 1 + 1 + 1 + 1 + 1, 0, none⟩)]] 258) e5
 exact ⟨⟨(cells_at e5 0).trans rfl, (cells_at e3 0).trans rfl, (cells_at e6 0).trans rfl, by omega, by omega, by omega, by omega⟩, ⟨(cells_at e4 0).trans rfl, free_at e4 0⟩, htab, hb, e1, e2, hsz⟩
theorem catch_cells {w1 : World} {pb qb : Nat} {x0 x1 x2 y : Value} {tq : TypeId} (h1 : w1.heap[pb]? = some (.cells #[x0, x1, x2] 174 (0, 0))) (h2 : w1.heap[qb]? = some (.cells #[y] tq (0, 0))) (hne : pb ≠ qb) (o : Obj) :
 (((((w1.setCell ⟨pb, 0, none⟩ (.int .u8 0)).setCell ⟨pb, 1, none⟩ (str [])).setCell ⟨pb, 2, none⟩ (.slice none 0 0)).setCell ⟨qb, 0, none⟩ (.bool false)).alloc o).heap[pb]? = some (.cells #[.int .u8 0, str [], .slice none 0 0] 174 (0, 0)) ∧
 (((((w1.setCell ⟨pb, 0, none⟩ (.int .u8 0)).setCell ⟨pb, 1, none⟩ (str [])).setCell ⟨pb, 2, none⟩ (.slice none 0 0)).setCell ⟨qb, 0, none⟩ (.bool false)).alloc o).heap[qb]? = some (.cells #[.bool false] tq (0, 0)) := by
 have a1 := set_row (set_row (set_row h1 0 (.int .u8 0)) 1 (str [])) 2 (.slice none 0 0)
 have b1 : (((w1.setCell ⟨pb, 0, none⟩ (.int .u8 0)).setCell ⟨pb, 1, none⟩ (str [])).setCell ⟨pb, 2, none⟩ (.slice none 0 0)).heap[qb]? = some (.cells #[y] tq (0, 0)) := by
  rw [Below.heap_setCell _ _ _ _ (Ne.symm hne), Below.heap_setCell _ _ _ _ (Ne.symm hne), Below.heap_setCell _ _ _ _ (Ne.symm hne)]; exact h2
 refine ⟨heap_old o ?_, heap_old o (set_row b1 0 (.bool false))⟩
 rw [Below.heap_setCell _ _ _ _ hne]
 exact a1
theorem put_cells {w1 : World} {pb qb : Nat} {x0 x1 x2 y : Value} {tq : TypeId} (h1 : w1.heap[pb]? = some (.cells #[x0, x1, x2] 174 (0, 0))) (h2 : w1.heap[qb]? = some (.cells #[y] tq (0, 0))) (hne : pb ≠ qb) (a b c d : Value) :
 ((((w1.setCell ⟨pb, 0, none⟩ a).setCell ⟨pb, 1, none⟩ b).setCell ⟨pb, 2, none⟩ c).setCell ⟨qb, 0, none⟩ d).heap[pb]? = some (.cells #[a, b, c] 174 (0, 0)) ∧
 ((((w1.setCell ⟨pb, 0, none⟩ a).setCell ⟨pb, 1, none⟩ b).setCell ⟨pb, 2, none⟩ c).setCell ⟨qb, 0, none⟩ d).heap[qb]? = some (.cells #[d] tq (0, 0)) := by
 have a1 := set_row (set_row (set_row h1 0 a) 1 b) 2 c
 have b1 : (((w1.setCell ⟨pb, 0, none⟩ a).setCell ⟨pb, 1, none⟩ b).setCell ⟨pb, 2, none⟩ c).heap[qb]? = some (.cells #[y] tq (0, 0)) := by
  rw [Below.heap_setCell _ _ _ _ (Ne.symm hne), Below.heap_setCell _ _ _ _ (Ne.symm hne), Below.heap_setCell _ _ _ _ (Ne.symm hne)]; exact h2
 refine ⟨?_, set_row b1 0 d⟩
 rw [Below.heap_setCell _ _ _ _ hne]
 exact a1
theorem catch_below {B : Nat} {w w1 : World} (h : Below B w w1) {pb qb : Nat} (hp : B ≤ pb) (hq : B ≤ qb) (hB : B ≤ w1.heap.size) (o : Obj) :
 Below B w (((((w1.setCell ⟨pb, 0, none⟩ (.int .u8 0)).setCell ⟨pb, 1, none⟩ (str [])).setCell ⟨pb, 2, none⟩ (.slice none 0 0)).setCell ⟨qb, 0, none⟩ (.bool false)).alloc o) :=
 ((((h.setCell (p := ⟨pb, 0, none⟩) hp _).setCell (p := ⟨pb, 1, none⟩) hp _).setCell (p := ⟨pb, 2, none⟩) hp _).setCell (p := ⟨qb, 0, none⟩) hq _).alloc (by simpa [World.setCell] using hB) _
theorem Kept.toBelow {B rb : Nat} {w w' : World} (h : Kept rb w w') (hr : B ≤ rb) (hB : B ≤ w.heap.size) : Below B w w' :=
 (Below.refl B w).grown h hB (by intro b e; injection e with e; omega)
set_option maxRecDepth 4000 in
set_option maxHeartbeats 3200000 in
theorem kread_none (s : List UInt8) (hN : NextOk s) (w : World) (ht : Tab w) (hq : parseT s = none) : Calls Tryz.prog 211 #[str s] w (ReadPost w s) := by
 have hmf : ∀ (fn : Fn) (first cap : Array Value) (w : World), (Instr.makeFunc fn first cap).run Tryz.prog w = .ok (.func fn first cap) w := fun _ _ _ _ => rfl
 have HQ := Lib.hid hq
 clear hq
 go_enter_defers Tryz.func211, Tryz.ntmps211
 go_wp2_with fail
 have F := k6 w s ht
 unfold K6 at F
 refine (hN (w.heap.size + 1 + 1 + 1 + 1) (w.heap.size + 1 + 1) (w.heap.size + 1 + 1 + 1 + 1 + 1) (w.heap.size + 1 + 1 + 1) _ F.tab F.env F.rest).mono ?_
 intro e w1 hpost
 unfold NextPost at hpost
 rw [HQ.out] at hpost
 obtain ⟨rfl, hk⟩ := hpost
 have h1 := hk.heap F.res (by omega)
 have h2 := hk.heap F.ok (by omega)
 have hb := F.bel
 have hsz := F.size
 clear F
 generalize World.alloc _ _ = W at *
 refine leaves_cons (f := 250) (args := #[.pointer (some ⟨w.heap.size, 0, none⟩), .pointer (some ⟨w.heap.size + 1, 0, none⟩)]) (by simp) (by simp [go_sem]) ?_
 refine (catch_none w.heap.size (w.heap.size + 1) _ _ _ _ _ [] _ h1 h2 (by omega)).mono ?_
 rintro e u' w'' ⟨rfl, rfl, rfl⟩
 obtain ⟨q1, q2⟩ := catch_cells h1 h2 (by omega) (.cells #[] 250)
 have hB := catch_below (hb.trans (hk.toBelow (B := w.heap.size) (by omega) (by omega))) (pb := w.heap.size) (qb := w.heap.size + 1) (nl _) (by omega) (by have := hk.size; omega) (.cells #[] 250)
 generalize World.alloc _ _ = WF at *
 have c0 := (cells_at q1 0).trans rfl
 have c1 := (cells_at q1 1).trans rfl
 have c2 := (cells_at q1 2).trans rfl
 have d0 := (cells_at q2 0).trans rfl
 simp [Leaves, settle, results, Tryz.results211, go_sem, c0, c1, c2, d0]
 unfold ReadPost
 rw [HQ.out]
 exact ⟨rfl, hB⟩
set_option maxRecDepth 4000 in
set_option maxHeartbeats 6400000 in
theorem kread_some (s r : List UInt8) (t : Tr) (hN : NextOk s) (w : World) (ht : Tab w) (hq : parseT s = some (t, r)) : Calls Tryz.prog 211 #[str s] w (ReadPost w s) := by
 have hmf : ∀ (fn : Fn) (first cap : Array Value) (w : World), (Instr.makeFunc fn first cap).run Tryz.prog w = .ok (.func fn first cap) w := fun _ _ _ _ => rfl
 have HQ := Lib.hid hq
 clear hq
 go_enter_defers Tryz.func211, Tryz.ntmps211
 go_wp2_with fail
 have F := k6 w s ht
 unfold K6 at F
 refine (hN (w.heap.size + 1 + 1 + 1 + 1) (w.heap.size + 1 + 1) (w.heap.size + 1 + 1 + 1 + 1 + 1) (w.heap.size + 1 + 1 + 1) _ F.tab F.env F.rest).mono ?_
 intro e w1 hpost
 unfold NextPost at hpost
 rw [HQ.out] at hpost
 obtain ⟨⟨v, rfl, hv⟩, hr, hk⟩ := hpost
 have h1 := hk.heap F.res (by omega)
 have h2 := hk.heap F.ok (by omega)
 have hb := F.bel
 have hsz := F.size
 have he := F.env.kept hk
 clear F
 generalize World.alloc _ _ = W at *
 obtain ⟨pt, ct, rfl, _⟩ := hv.shape
 have c0 := (cells_at h1 0).trans rfl
 have c1 := (cells_at h1 1).trans rfl
 have c2 := (cells_at h1 2).trans rfl
 have f0 := free_at h1 0
 have f1 := free_at h1 1
 have f2 := free_at h1 2
 go_wp2_with fail
 have hsz1 := hk.size
 have hB := (((hb.trans (hk.toBelow (B := w.heap.size) (by omega) (by omega))).setCell (p := ⟨w.heap.size, 0, none⟩) (nl _) (.int .u8 t.k)).setCell (p := ⟨w.heap.size, 1, none⟩) (nl _) (str t.n)).setCell (p := ⟨w.heap.size, 2, none⟩) (nl _) (.slice pt t.sub.len ct)
 have hset : ∀ b, b ≠ w.heap.size → (((w1.setCell ⟨w.heap.size, 0, none⟩ (.int .u8 t.k)).setCell ⟨w.heap.size, 1, none⟩ (str t.n)).setCell ⟨w.heap.size, 2, none⟩ (.slice pt t.sub.len ct)).heap[b]? = w1.heap[b]? := fun b hb => by rw [Below.heap_setCell _ _ _ _ hb, Below.heap_setCell _ _ _ _ hb, Below.heap_setCell _ _ _ _ hb]
 have h1S : (((w1.setCell ⟨w.heap.size, 0, none⟩ (.int .u8 t.k)).setCell ⟨w.heap.size, 1, none⟩ (str t.n)).setCell ⟨w.heap.size, 2, none⟩ (.slice pt t.sub.len ct)).heap[w.heap.size]? = some (.cells #[.int .u8 t.k, str t.n, .slice pt t.sub.len ct] 174 (0, 0)) := set_row (set_row (set_row h1 0 (.int .u8 t.k)) 1 (str t.n)) 2 (.slice pt t.sub.len ct)
 have h2S := (hset (w.heap.size + 1) (by omega)).trans h2
 have hk2 : Kept w.heap.size w1 (((w1.setCell ⟨w.heap.size, 0, none⟩ (.int .u8 t.k)).setCell ⟨w.heap.size, 1, none⟩ (str t.n)).setCell ⟨w.heap.size, 2, none⟩ (.slice pt t.sub.len ct)) := ((Kept.setCell _ _ _ _).trans (Kept.setCell _ _ _ _)).trans (Kept.setCell _ _ _ _)
 have hvS := hv.kept (w' := ((w1.setCell ⟨w.heap.size, 0, none⟩ (.int .u8 t.k)).setCell ⟨w.heap.size, 1, none⟩ (str t.n)).setCell ⟨w.heap.size, 2, none⟩ (.slice pt t.sub.len ct)) fun b hb _ => hset b (by have hb : W.heap.size ≤ b := hb; omega)
 replace hr := ((hr.set_other (B := w.heap.size) (by omega) 0 (.int .u8 t.k)).set_other (B := w.heap.size) (by omega) 1 (str t.n)).set_other (B := w.heap.size) (by omega) 2 (.slice pt t.sub.len ct)
 have he3 : ∀ {a : Addr} {u : Value}, w1.cell? a = some u → a.block ≠ w.heap.size → (((w1.setCell ⟨w.heap.size, 0, none⟩ (.int .u8 t.k)).setCell ⟨w.heap.size, 1, none⟩ (str t.n)).setCell ⟨w.heap.size, 2, none⟩ (.slice pt t.sub.len ct)).cell? a = some u := fun h hne => hk2.cell h hne
 have hen := he3 he.need (by simp; omega)
 have her := he3 he.r (by simp; omega)
 have hws := hk2.size
 clear he3 hk2 hset c0 c1 c2 f0 f1 f2 h1 h2 hv he hk hb
 generalize ((w1.setCell ⟨w.heap.size, 0, none⟩ (.int .u8 t.k)).setCell ⟨w.heap.size, 1, none⟩ (str t.n)).setCell ⟨w.heap.size, 2, none⟩ (.slice pt t.sub.len ct) = WS at *
 rcases r with _ | ⟨c, r'⟩
 · refine wp_region_held_drew (S := (fun W : World => W.cell? ⟨w.heap.size + 1 + 1, 0, none⟩ = some (.func (.func 251) #[] #[]) ∧ W.cell? ⟨w.heap.size + 1 + 1 + 1 + 1, 0, none⟩ = some (.pointer (some ⟨w.heap.size + 1 + 1 + 1, 0, none⟩)) ∧ W.cell? ⟨w.heap.size + 1 + 1 + 1, 0, none⟩ = some (str []))) (by kernel_rfl) ?_ (fun hHeld => ?_)
   · exact ⟨hen, her, hr.cell⟩
   refine takeD (i := 0) (d := some 15) (v := ?_) rfl (by kernel_rfl) (by kernel_rfl) (by kernel_rfl) (by kernel_rfl) (put_kread _ _ (by decide)) (by assumption) (by kernel_rfl) ?_ ?_;rotate_left
   · intro w hSw
     try dsimp only at hSw
     go_simp;try with_reducible rfl
   try simp only [pz, pw]
   refine takeD (i := 1) (d := some 16) (v := ?_) rfl (by kernel_rfl) (by kernel_rfl) (by kernel_rfl) (by kernel_rfl) (put_kread _ _ (by decide)) (by assumption) (by kernel_rfl) ?_ ?_;rotate_left
   · intro w hSw
     try dsimp only at hSw
     go_simp;try with_reducible rfl
   try simp only [pz, pw]
   refine takeD (i := 2) (d := some 17) (v := ?_) rfl (by kernel_rfl) (by kernel_rfl) (by kernel_rfl) (by kernel_rfl) (put_kread _ _ (by decide)) (by assumption) (by kernel_rfl) ?_ ?_;rotate_left
   · intro w hSw
     try dsimp only at hSw
     go_simp;try with_reducible rfl
   try simp only [pz, pw]
   refine takeD (i := 3) (d := some 18) (v := ?_) rfl (by kernel_rfl) (by kernel_rfl) (by kernel_rfl) (by kernel_rfl) (put_kread _ _ (by decide)) (by assumption) (by kernel_rfl) ?_ ?_;rotate_left
   · intro w hSw
     try dsimp only at hSw
     go_simp;try with_reducible rfl
   try simp only [pz, pw]
   refine takeD (i := 4) (d := some 19) (v := ?_) rfl (by kernel_rfl) (by kernel_rfl) (by kernel_rfl) (by kernel_rfl) (put_kread _ _ (by decide)) (by assumption) (by kernel_rfl) ?_ ?_;rotate_left
   · intro w hSw
     try dsimp only at hSw
     go_simp;try with_reducible rfl
   try simp only [pz, pw]
   refine takeD (i := 5) (d := some 20) (v := ?_) rfl (by kernel_rfl) (by kernel_rfl) (by kernel_rfl) (by kernel_rfl) (put_kread _ _ (by decide)) (by assumption) (by kernel_rfl) ?_ ?_;rotate_left
   · intro w hSw
     try dsimp only at hSw
     go_simp;try with_reducible rfl
   try simp only [pz, pw]
   refine takeD (i := 6) (d := some 21) (v := ?_) rfl (by kernel_rfl) (by kernel_rfl) (by kernel_rfl) (by kernel_rfl) (put_kread _ _ (by decide)) (by assumption) (by kernel_rfl) ?_ ?_;rotate_left
   · intro w hSw
     try dsimp only at hSw
     go_simp;try with_reducible rfl
   try simp only [pz, pw]
   refine wpAnyH_ready (rs := [7]) (by kernel_rfl) (by simp) ?_;refine AllReadyH.cons rfl (fun K hK => ?_) AllReadyH.nil;go_simp;go_wp2_with (go_at_call 251; refine (need_yes _).mono ?_; rintro e w0 ⟨rfl, rfl⟩);refine hK.out _ _ ?_ (fun hHeld => ?_)
   · exact ⟨hen, her, hr.cell⟩
   clear hK K;try simp only [pz, pw]
   refine wpAnyH_done (by kernel_rfl) ?_ _;have h1D : WS.drew.heap[w.heap.size]? = some (.cells #[.int .u8 t.k, str t.n, .slice pt t.sub.len ct] 174 (0, 0)) := h1S;have h2D : WS.drew.heap[w.heap.size + 1]? = some (.cells #[.bool false] 4 (0, 0)) := h2S;have hBD : Below w.heap.size w WS.drew := ⟨hB.os, hB.tape, hB.output, hB.size, hB.block⟩;have hvD := hvS.kept (w := WS) (w' := WS.drew) (fun _ _ _ => rfl);clear hHeld h1S h2S hB hvS hen her hr;generalize WS.drew = WD at *;have c0 := (cells_at h1D 0).trans rfl;have c1 := (cells_at h1D 1).trans rfl;have c2 := (cells_at h1D 2).trans rfl;have d0 := (cells_at h2D 0).trans rfl;have f0 := free_at h1D 0;have f1 := free_at h1D 1;have f2 := free_at h1D 2;have g0 := free_at h2D 0;go_wp2_with fail;refine leaves_cons (f := 250) (args := #[.pointer (some ⟨w.heap.size, 0, none⟩), .pointer (some ⟨w.heap.size + 1, 0, none⟩)]) (by simp) (by simp [go_sem]) ?_;refine (catch_idle w.heap.size (w.heap.size + 1) _).mono ?_;rintro e u' w'' ⟨rfl, rfl, rfl⟩;obtain ⟨q1, q2⟩ := put_cells h1D h2D (by omega) (.int .u8 t.k) (.string ⟨t.n.toArray⟩) (.slice pt t.sub.len ct) (.bool true);have hB := (((hBD.setCell (p := ⟨w.heap.size, 0, none⟩) (nl _) (.int .u8 t.k)).setCell (p := ⟨w.heap.size, 1, none⟩) (nl _) (.string ⟨t.n.toArray⟩)).setCell (p := ⟨w.heap.size, 2, none⟩) (nl _) (.slice pt t.sub.len ct)).setCell (p := ⟨w.heap.size + 1, 0, none⟩) (Nat.le_succ _) (.bool true);have hvX := hvD.kept (w' := (((WD.setCell ⟨w.heap.size, 0, none⟩ (.int .u8 t.k)).setCell ⟨w.heap.size, 1, none⟩ (.string ⟨t.n.toArray⟩)).setCell ⟨w.heap.size, 2, none⟩ (.slice pt t.sub.len ct)).setCell ⟨w.heap.size + 1, 0, none⟩ (.bool true)) fun b hb _ => by
    have hb : W.heap.size ≤ b := hb;rw [Below.heap_setCell _ _ _ _ (by simp; omega), Below.heap_setCell _ _ _ _ (by simp; omega), Below.heap_setCell _ _ _ _ (by simp; omega), Below.heap_setCell _ _ _ _ (by simp; omega)]
   clear c0 c1 c2 d0 f0 f1 f2 g0;generalize World.setCell _ _ _ = WF at *;have c0 := (cells_at q1 0).trans rfl;have c1 := (cells_at q1 1).trans rfl;have c2 := (cells_at q1 2).trans rfl;have d0 := (cells_at q2 0).trans rfl;simp [Leaves, settle, results, Tryz.results211, go_sem, c0, c1, c2, d0];unfold ReadPost;rw [HQ.out];exact ⟨⟨_, rfl, hvX.mono fun b hb _ => by have hb : W.heap.size ≤ b := hb; show w.heap.size ≤ b; omega⟩, hB⟩
 · refine wp_region_held_drew (S := (fun W : World => W.cell? ⟨w.heap.size + 1 + 1, 0, none⟩ = some (.func (.func 251) #[] #[]) ∧ W.cell? ⟨w.heap.size + 1 + 1 + 1 + 1, 0, none⟩ = some (.pointer (some ⟨w.heap.size + 1 + 1 + 1, 0, none⟩)) ∧ W.cell? ⟨w.heap.size + 1 + 1 + 1, 0, none⟩ = some (str (c :: r')))) (by kernel_rfl) ?_ (fun hHeld => ?_)
   · exact ⟨hen, her, hr.cell⟩
   refine takeD (i := 0) (d := some 15) (v := ?_) rfl (by kernel_rfl) (by kernel_rfl) (by kernel_rfl) (by kernel_rfl) (put_kread _ _ (by decide)) (by assumption) (by kernel_rfl) ?_ ?_;rotate_left
   · intro w hSw
     try dsimp only at hSw
     go_simp;try with_reducible rfl
   try simp only [pz, pw]
   refine takeD (i := 1) (d := some 16) (v := ?_) rfl (by kernel_rfl) (by kernel_rfl) (by kernel_rfl) (by kernel_rfl) (put_kread _ _ (by decide)) (by assumption) (by kernel_rfl) ?_ ?_;rotate_left
   · intro w hSw
     try dsimp only at hSw
     go_simp;try with_reducible rfl
   try simp only [pz, pw]
   refine takeD (i := 2) (d := some 17) (v := ?_) rfl (by kernel_rfl) (by kernel_rfl) (by kernel_rfl) (by kernel_rfl) (put_kread _ _ (by decide)) (by assumption) (by kernel_rfl) ?_ ?_;rotate_left
   · intro w hSw
     try dsimp only at hSw
     go_simp;try with_reducible rfl
   try simp only [pz, pw]
   refine takeD (i := 3) (d := some 18) (v := ?_) rfl (by kernel_rfl) (by kernel_rfl) (by kernel_rfl) (by kernel_rfl) (put_kread _ _ (by decide)) (by assumption) (by kernel_rfl) ?_ ?_;rotate_left
   · intro w hSw
     try dsimp only at hSw
     go_simp;try with_reducible rfl
   try simp only [pz, pw]
   refine takeD (i := 4) (d := some 19) (v := ?_) rfl (by kernel_rfl) (by kernel_rfl) (by kernel_rfl) (by kernel_rfl) (put_kread _ _ (by decide)) (by assumption) (by kernel_rfl) ?_ ?_;rotate_left
   · intro w hSw
     try dsimp only at hSw
     go_simp;try with_reducible rfl
   try simp only [pz, pw]
   refine takeD (i := 5) (d := some 20) (v := ?_) rfl (by kernel_rfl) (by kernel_rfl) (by kernel_rfl) (by kernel_rfl) (put_kread _ _ (by decide)) (by assumption) (by kernel_rfl) ?_ ?_;rotate_left
   · intro w hSw
     try dsimp only at hSw
     go_simp;try with_reducible rfl
   try simp only [pz, pw]
   refine takeD (i := 6) (d := some 21) (v := ?_) rfl (by kernel_rfl) (by kernel_rfl) (by kernel_rfl) (by kernel_rfl) (put_kread _ _ (by decide)) (by assumption) (by kernel_rfl) ?_ ?_;rotate_left
   · intro w hSw
     try dsimp only at hSw
     go_simp;try with_reducible rfl
   try simp only [pz, pw]
   refine wpAnyH_ready (rs := [7]) (by kernel_rfl) (by simp) ?_;refine AllReadyH.cons rfl (fun K hK => ?_) AllReadyH.nil;go_simp;go_wp2_with (go_at_call 251; refine (need_no _).mono ?_; rintro e w0 ⟨rfl, rfl⟩);have h1D : WS.drew.heap[w.heap.size]? = some (.cells #[.int .u8 t.k, str t.n, .slice pt t.sub.len ct] 174 (0, 0)) := h1S;have h2D : WS.drew.heap[w.heap.size + 1]? = some (.cells #[.bool false] 4 (0, 0)) := h2S;have hBD : Below w.heap.size w WS.drew := ⟨hB.os, hB.tape, hB.output, hB.size, hB.block⟩;clear hHeld hK h1S h2S hB hvS hen her hr;generalize WS.drew = WD at *;refine leaves_cons (f := 250) (args := #[.pointer (some ⟨w.heap.size, 0, none⟩), .pointer (some ⟨w.heap.size + 1, 0, none⟩)]) (by simp) (by simp [go_sem]) ?_;refine (catch_none w.heap.size (w.heap.size + 1) _ _ _ _ _ [] _ h1D h2D (by omega)).mono ?_;rintro e u' w'' ⟨rfl, rfl, rfl⟩;obtain ⟨q1, q2⟩ := catch_cells h1D h2D (by omega) (.cells #[] 250);have hB := catch_below hBD (pb := w.heap.size) (qb := w.heap.size + 1) (nl _) (by omega) hBD.size (.cells #[] 250);generalize World.alloc _ _ = WF at *;have c0 := (cells_at q1 0).trans rfl;have c1 := (cells_at q1 1).trans rfl;have c2 := (cells_at q1 2).trans rfl;have d0 := (cells_at q2 0).trans rfl;simp [Leaves, settle, results, Tryz.results211, go_sem, c0, c1, c2, d0];unfold ReadPost;rw [HQ.out];exact ⟨rfl, hB⟩
theorem kread_any (s : List UInt8) (hm : s.length ≤ 1000) (w : World) (ht : Tab w) : Calls Tryz.prog 211 #[str s] w (ReadPost w s) := by
 rcases hq : parseT s with _ | ⟨t, r⟩
 · exact kread_none s (next_ok s hm) w ht hq
 · exact kread_some s r t (next_ok s hm) w ht hq
end Go.Proofs.YtakgjcfkdemipaaGreatDoor
namespace Go.Proofs.YtakgjcfkdemipaaGreatDoor
open Go.RowKit
def checkK (s : List UInt8) : Nat × Tr :=
 if 100 < s.length then (2, ⟨0, [], .nil⟩) else
 match parseT s with
 | some (t, []) => if 6 < t.level then (2, ⟨0, [], .nil⟩) else (0, t)
 | _ => (4, ⟨0, [], .nil⟩)
def CheckedPost (w : World) (s : List UInt8) (e : Ending) (w' : World) : Prop :=
 ∃ v, e = .returned (.tuple #[.agg #[.int .u8 (checkK s).2.k, str (checkK s).2.n, v], .int .i64 (checkK s).1]) ∧ FoV w' (fun b => w.heap.size ≤ b) (checkK s).2.sub v ∧ Below w.heap.size w w'
set_option maxRecDepth 4000 in
set_option maxHeartbeats 3200000 in
theorem kchecked_long (s : List UInt8) (_hm : s.length ≤ maxLen) (w : World) (hl : 100 < s.length) : Calls Tryz.prog 157 #[str s] w (CheckedPost w s) := by
 have HE := Lib.hid (show checkK s = (2, ⟨0, [], .nil⟩) by unfold checkK; rw [if_pos hl])
 go_enter Tryz.func157, Tryz.ntmps157
 go_wp2_with fail
 refine bodyPost_ret (v := .tuple #[.agg #[.int .u8 0, str [], .slice none 0 0], .int .i64 2]) (by simp [results, Tryz.results157, go_sem]) rfl ?_
 unfold CheckedPost
 rw [HE.out]
 exact ⟨_, rfl, FoV.nil _ _, (Below.refl _ _).alloc (nl _) _⟩
set_option maxRecDepth 4000 in
set_option maxHeartbeats 3200000 in
theorem kchecked_bad (s : List UInt8) (w : World) (ht : Tab w) (hl : ¬ 100 < s.length) (hq : ∀ t, parseT s ≠ some (t, [])) : Calls Tryz.prog 157 #[str s] w (CheckedPost w s) := by
 have HE := Lib.hid (show checkK s = (4, ⟨0, [], .nil⟩) by
  unfold checkK; rw [if_neg hl];rcases h : parseT s with _ | ⟨t, _ | ⟨c, r⟩⟩
  · rfl
  · exact absurd h (hq t)
  · rfl)
 have HR := Lib.hid (show ∀ W e w', ReadPost W s e w' → e = .returned (.tuple #[.agg #[.int .u8 0, str [], .slice none 0 0], .bool false]) ∧ Below W.heap.size W w' by
  intro W e w' h;unfold ReadPost at h;rcases hp : parseT s with _ | ⟨t, _ | ⟨c, r⟩⟩
  · rw [hp] at h; exact h
  · exact absurd hp (hq t)
  · rw [hp] at h; exact h)
 have hbel := (Below.refl w.heap.size w).alloc (nl _) (.cells #[.int .u8 0, .string ⟨#[]⟩, .slice none 0 0] 174)
 clear hq
 go_enter Tryz.func157, Tryz.ntmps157
 go_wp2_with (go_at_call 211; refine (kread_any s (by omega) _ (ht.kept (b := w.heap.size) (Kept.of_below hbel (nl _)) (by have := ht.lt; omega))).mono ?_; intro e w1 hp; obtain ⟨rfl, hb1⟩ := HR.out _ _ _ hp; clear hp; have r1 := fun o => heap_old o ((hb1.block w.heap.size (by simp)).trans (heap_alloc_new w (.cells #[.int .u8 0, .string ⟨#[]⟩, .slice none 0 0] 174))); have c0 := fun o => (cells_at (r1 o) 0).trans rfl; have c1 := fun o => (cells_at (r1 o) 1).trans rfl; have c2 := fun o => (cells_at (r1 o) 2).trans rfl; have f0 := fun o => free_at (r1 o) 0; have f1 := fun o => free_at (r1 o) 1; have f2 := fun o => free_at (r1 o) 2; clear r1)
 refine bodyPost_ret (v := .tuple #[.agg #[.int .u8 0, str [], .slice none 0 0], .int .i64 4]) (by simp [results, Tryz.results157, go_sem, c0, c1, c2]) rfl ?_
 unfold CheckedPost
 rw [HE.out]
 have hb2 := (hbel.trans (below_less hb1 (by simp))).alloc (by have := hb1.size; simp at this; omega) (.cells #[.int .u8 0, .string ⟨#[]⟩, .slice none 0 0] 174)
 exact ⟨_, rfl, FoV.nil _ _, ((hb2.setCell (p := ⟨w.heap.size, 0, none⟩) (nl _) _).setCell (p := ⟨w.heap.size, 1, none⟩) (nl _) _).setCell (p := ⟨w.heap.size, 2, none⟩) (nl _) _⟩
set_option maxRecDepth 4000 in
set_option maxHeartbeats 3200000 in
theorem kchecked_some (s : List UInt8) (t : Tr) (w : World) (ht : Tab w) (hl : ¬ 100 < s.length) (hq : parseT s = some (t, [])) : Calls Tryz.prog 157 #[str s] w (CheckedPost w s) := by
 have HE := Lib.hid (show checkK s = if 6 < t.level then (2, ⟨0, [], .nil⟩) else (0, t) by unfold checkK; rw [if_neg hl, hq])
 have HR := Lib.hid (show ∀ W e w', ReadPost W s e w' → (∃ v, e = .returned (.tuple #[.agg #[.int .u8 t.k, str t.n, v], .bool true]) ∧ FoV w' (fun b => W.heap.size ≤ b) t.sub v) ∧ Below W.heap.size W w' by
  intro W e w' h;unfold ReadPost at h;rw [hq] at h;exact h)
 have hlev : t.sub.level ≤ 100 := by
  have h := fo_level (s.length + 1) none s (.one t) [] (by rw [pA_parseT (by omega), hq]; rfl);simp [Fo.one, Fo.level] at h;omega
 have hbel := (Below.refl w.heap.size w).alloc (nl _) (.cells #[.int .u8 0, .string ⟨#[]⟩, .slice none 0 0] 174)
 clear hq
 by_cases h6 : 6 < t.level
 all_goals have h6' : ((6 : Int) < (t.sub.level : Int) + 1) = (6 < t.level) := by unfold Tr.level; apply propext; omega
 all_goals go_enter Tryz.func157, Tryz.ntmps157
 all_goals go_wp2_with (first | (go_at_call 211; refine (kread_any s (by omega) _ (ht.kept (b := w.heap.size) (Kept.of_below hbel (nl _)) (by have := ht.lt; omega))).mono ?_; intro e w1 hp; obtain ⟨⟨v, rfl, hv⟩, hb1⟩ := HR.out _ _ _ hp; clear hp; obtain ⟨pt, ct, rfl, _⟩ := hv.shape; have r1 := fun o => heap_old o ((hb1.block w.heap.size (by simp)).trans (heap_alloc_new w (.cells #[.int .u8 0, .string ⟨#[]⟩, .slice none 0 0] 174)))) | (go_at_call 212; refine (level_any 100 t.sub hlev (by omega) _ _ _ t.k t.n (hv.below ((Below.refl _ w1).alloc (nl _) _) (nl _))).mono ?_; rintro e w2 ⟨rfl, hb2⟩; have r2 := (hb2.block w.heap.size (by have := hb1.size; simp at this ⊢; omega)).trans (r1 _); have c0 := (cells_at r2 0).trans rfl; have c1 := (cells_at r2 1).trans rfl; have c2 := (cells_at r2 2).trans rfl; have f0 := free_at r2 0; have f1 := free_at r2 1; have f2 := free_at r2 2; have r4 := (hb2.block w1.heap.size (by simp)).trans (heap_alloc_new w1 _); have d0 := (cells_at r4 0).trans rfl; have d1 := (cells_at r4 1).trans rfl; have d2 := (cells_at r4 2).trans rfl; clear r1 r2 r4))
 all_goals have hs1 := hb1.size
 all_goals simp only [World.size_alloc] at hs1
 all_goals have hb3 := ((hbel.trans (below_less hb1 (by simp))).alloc (by omega) (.cells #[.int .u8 t.k, .string ⟨t.n.toArray⟩, .slice pt t.sub.len ct] 174)).trans (below_less hb2 (by simp; omega))
 · refine bodyPost_ret (v := .tuple #[.agg #[.int .u8 0, str [], .slice none 0 0], .int .i64 2]) (by simp [results, Tryz.results157, go_sem, c0, c1, c2]) rfl ?_
   unfold CheckedPost;rw [HE.out, if_pos h6];exact ⟨_, rfl, FoV.nil _ _, ((hb3.setCell (p := ⟨w.heap.size, 0, none⟩) (nl _) _).setCell (p := ⟨w.heap.size, 1, none⟩) (nl _) _).setCell (p := ⟨w.heap.size, 2, none⟩) (nl _) _⟩
 · refine bodyPost_ret (v := .tuple #[.agg #[.int .u8 t.k, str t.n, .slice pt t.sub.len ct], .int .i64 0]) (by simp [results, Tryz.results157, go_sem, c0, c1, c2]) rfl ?_
   unfold CheckedPost;rw [HE.out, if_neg h6];refine ⟨_, rfl, ?_, ((hb3.setCell (p := ⟨w.heap.size, 0, none⟩) (nl _) _).setCell (p := ⟨w.heap.size, 1, none⟩) (nl _) _).setCell (p := ⟨w.heap.size, 2, none⟩) (nl _) _⟩;have hv3 := (hv.below (B := w1.heap.size) ((Below.refl _ w1).alloc (nl _) (.cells #[.int .u8 t.k, .string ⟨t.n.toArray⟩, .slice pt t.sub.len ct] 174)) (nl _)).below hb2 (nl _);have hv4 := hv3.mono (D' := fun b => w.heap.size < b) fun b hb _ => by simp only [World.size_alloc] at hb; show w.heap.size < b; omega
   exact (hv4.set3 (fun b hb => Nat.ne_of_gt hb) _ _ _).mono fun b hb _ => Nat.le_of_lt hb
theorem kchecked_any (s : List UInt8) (hm : s.length ≤ maxLen) (w : World) (ht : Tab w) : Calls Tryz.prog 157 #[str s] w (CheckedPost w s) := by
 by_cases hl : 100 < s.length
 · exact kchecked_long s hm w hl
 · rcases hq : parseT s with _ | ⟨t, _ | ⟨c, r⟩⟩
   · exact kchecked_bad s w ht hl (by rw [hq]; intro t h; cases h)
   · exact kchecked_some s t w ht hl hq
   · exact kchecked_bad s w ht hl (by rw [hq]; intro t h; cases h)
end Go.Proofs.YtakgjcfkdemipaaGreatDoor
