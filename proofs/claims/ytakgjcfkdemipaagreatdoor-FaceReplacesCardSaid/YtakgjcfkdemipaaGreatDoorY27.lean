/-
  Contracts: of the package face: shelved, (shelf).find. Condition: the number of faces; no name twice.
  Contracts: of the package face: (maker).named, params. Condition: the faces of the shelf lie apart; the lengths; the variable strings.asciiSpace.
  Contract: of the package face: ops. No condition.
-/
import Derived.Test.YtakgjcfkdemipaaGreatDoorYn
import Derived.Test.YtakgjcfkdemipaaGreatDoorY4
import Derived.Test.YtakgjcfkdemipaaGreatDoorY16
import Derived.Test.YtakgjcfkdemipaaGreatDoorY21
import Derived.Test.YtakgjcfkdemipaaGreatDoorY23
import Derived.Test.YtakgjcfkdemipaaGreatDoorY24
import Derived.Test.YtakgjcfkdemipaaGreatDoorY25
import Derived.Test.YtakgjcfkdemipaaGreatDoorY26
namespace Go.Proofs.YtakgjcfkdemipaaGreatDoor
open Go.RowKit Go.Maps Go.Deep
def faceA (f : FaceP) (n q : Value) : Value := .agg #[str f.name, .int .u8 f.kind, .bool f.par, n, q]
theorem faces_values {D : Nat → Prop} {w : World} {p : Option Addr} {c : Nat} {l : List FaceP} (h : FacesM D w (.slice p l.length c) l) :
 ∃ g : Nat → Value × Value, ∀ j f, l[j]? = some f → f.name.length ≤ maxLen ∧ OpsM D w (g j).1 f.needs ∧ OpsM D w (g j).2 f.ops ∧ ∃ b o, p = some ⟨b, o, none⟩ ∧
  w.cell? ⟨b, o + j * 5, none⟩ = some (str f.name) ∧ w.cell? ⟨b, o + j * 5 + 1, none⟩ = some (.int .u8 f.kind) ∧ w.cell? ⟨b, o + j * 5 + 2, none⟩ = some (.bool f.par) ∧ w.cell? ⟨b, o + j * 5 + 3, none⟩ = some (g j).1 ∧ w.cell? ⟨b, o + j * 5 + 4, none⟩ = some (g j).2 := by
 have each : ∀ j, j < l.length → ∃ x : Value × Value, ∀ f, l[j]? = some f → f.name.length ≤ maxLen ∧ OpsM D w x.1 f.needs ∧ OpsM D w x.2 f.ops ∧ ∃ b o, p = some ⟨b, o, none⟩ ∧
  w.cell? ⟨b, o + j * 5, none⟩ = some (str f.name) ∧ w.cell? ⟨b, o + j * 5 + 1, none⟩ = some (.int .u8 f.kind) ∧ w.cell? ⟨b, o + j * 5 + 2, none⟩ = some (.bool f.par) ∧ w.cell? ⟨b, o + j * 5 + 3, none⟩ = some x.1 ∧ w.cell? ⟨b, o + j * 5 + 4, none⟩ = some x.2 := by
  intro j hj;obtain ⟨b, o, n, q, h1, _, h2, h3, h4, h5⟩ := h.at (List.getElem?_eq_getElem hj);refine ⟨(n, q), fun f hf => ?_⟩;rw [List.getElem?_eq_getElem hj] at hf;cases hf;exact ⟨h2, h3, h4, b, o, h1, h5⟩
 haveI : Inhabited (Value × Value) := ⟨(undef, undef)⟩
 obtain ⟨g, hg⟩ := choose_lt each
 exact ⟨g, fun j f hf => hg j (List.getElem?_eq_some_iff.1 hf).1 f hf⟩
def withV (l : List FaceP) (g : Nat → Value × Value) (i : Nat) : List (FaceP × Value) := (List.range i).map fun j => (l[j]?.getD default, faceA (l[j]?.getD default) (g j).1 (g j).2)
theorem withV_succ {l : List FaceP} {g : Nat → Value × Value} {i : Nat} {f : FaceP} (h : l[i]? = some f) : withV l g (i + 1) = withV l g i ++ [(f, faceA f (g i).1 (g i).2)] := by
 unfold withV
 rw [List.range_succ, List.map_append, List.map_cons, List.map_nil, h]
 rfl
theorem withV_fst (l : List FaceP) (g : Nat → Value × Value) : (withV l g l.length).map (·.1) = l := by
 unfold withV
 rw [List.map_map]
 apply List.ext_getElem?
 intro j
 by_cases hj : j < l.length
 · simp [hj]
 · simp [hj]
def nameV (x : FaceP × Value) : List UInt8 × Value := (x.1.name, x.2)
set_option maxRecDepth 8000 in
set_option maxHeartbeats 6400000 in
theorem shelved_any {D : Nat → Prop} (l : List FaceP) (v : Value) (w : World) (hv : FacesM D w v l) (hn : l.length ≤ 100000) :
 Calls Tryz.prog 91 #[v] w fun e w' => ∃ M, e = .returned (.agg #[.map (some M)]) ∧ ShelfM D w' M l ∧ Below w.heap.size w w' := by
 have hmm := @run_makeMap Tryz.prog
 obtain ⟨p, c, rfl, _, hm, hle⟩ := hv.shape
 unfold maxLen at hm
 obtain ⟨g, hg⟩ := faces_values hv
 have HG := Lib.hid hg
 clear hg
 have hB := (((Below.refl _ w).alloc (nl _) (.cells #[.map none] 84)).alloc (by simp) (.map #[] 0)).alloc (by simp; omega) (.cells #[.map (some (w.heap.size + 1))] 84)
 have hS0 : FMap (((w.alloc (.cells #[.map none] 84)).alloc (.map #[] 0)).alloc (.cells #[.map (some (w.heap.size + 1))] 84)) (w.heap.size + 1) [] := by
  have := FMap.made (w.alloc (.cells #[.map none] 84));rw [World.size_alloc] at this;exact this.kept (World.grownBy_alloc _ _ none) (by simp)
 have h0 := heap_up (.cells #[.map (some (w.heap.size + 1))] 84) (heap_up (.map #[] 0) (heap_alloc_new w (.cells #[.map none] 84)))
 have h3 := heap_to (w := (w.alloc (.cells #[.map none] 84)).alloc (.map #[] 0)) (n := w.heap.size + 1 + 1) (by simp) #[.map (some (w.heap.size + 1))] 84
 go_enter Tryz.func91, Tryz.ntmps91
 go_wp2_with fail
 generalize ((w.alloc (.cells #[.map none] 84)).alloc (.map #[] 0)).alloc (.cells #[.map (some (w.heap.size + 1))] 84) = W at *
 go_loopw [10] (fun y wx => ∃ i : Nat, i ≤ l.length ∧ y = .int .i64 i ∧ FMap wx (w.heap.size + 1) ((withV l g i).map nameV) ∧ wx.heap[w.heap.size]? = some (.cells #[.map none] 84) ∧ wx.heap[w.heap.size + 1 + 1]? = some (.cells #[.map (some (w.heap.size + 1))] 84) ∧ Below w.heap.size w wx) (fun y _ => l.length - (intOf y).toNat)
 case atStart => exact ⟨0, Nat.zero_le _, by go_num, hS0, h0, h3, hB⟩
 case round =>
  clear hB hS0 h0 h3;obtain ⟨i, hi, rfl, hset, h0, h3, hb⟩ := hrel;have b0 := box1 h0;have b3 := (box1 h3).1
  by_cases hlt : i < l.length
  case neg =>
   have hie : i = l.length := by omega
   subst hie;go_wp2_with fail;have hsh : ShelfM (fun b => D b ∧ b < w.heap.size) wr (w.heap.size + 1) l := ⟨withV l g l.length, withV_fst l g, hset, fun x hx => by
    obtain ⟨j, hj, rfl⟩ := List.mem_map.1 hx;have hj' : j < l.length := List.mem_range.1 hj;have hk : l[j]? = some l[j] := List.getElem?_eq_getElem hj';obtain ⟨k1, k2, k3, _⟩ := HG.out j l[j] hk;rw [hk];exact ⟨_, _, rfl, k1, k2.fresh.below hb (nl _), k3.fresh.below hb (nl _)⟩⟩
   refine bodyPost_ret (v := .agg #[.map (some (w.heap.size + 1))]) (by simp [results, Tryz.results91, go_sem, b0]) rfl ?_;refine ⟨_, rfl, ?_, hb.setCell (p := ⟨w.heap.size, 0, none⟩) (nl _) _⟩;exact (hsh.set (a := ⟨w.heap.size, 0, none⟩) (by simp) (by intro b hb; exact Nat.ne_of_lt hb.2) _).mono fun b hb => hb.1
  case pos =>
   obtain ⟨f, hkf⟩ : ∃ f, l[i]? = some f := ⟨_, List.getElem?_eq_getElem hlt⟩
   obtain ⟨hnl, hN, hO, b1, o1, rfl, d0, d1, d2, d3, d4⟩ := HG.out i f hkf;have d0 := Below.keep hb d0;have d1 := Below.keep hb d1;have d2 := Below.keep hb d2;have d3 := Below.keep hb d3;have d4 := Below.keep hb d4;have HW := Lib.hid (withV_succ (g := g) hkf);obtain ⟨pn, cn, en, _⟩ := hN.shape;obtain ⟨po, co, eo, _⟩ := hO.shape;rw [en] at d3;rw [eo] at d4;have HE := Lib.hid (show faceA f (g i).1 (g i).2 = .agg #[str f.name, .int .u8 f.kind, .bool f.par, .slice pn f.needs.length cn, .slice po f.ops.length co] by rw [en, eo]; rfl);clear hkf hN hO en eo;have b3a := (box1 (heap_up (.cells #[str f.name, .int .u8 f.kind, .bool f.par, .slice pn f.needs.length cn, .slice po f.ops.length co] 58) h3)).1;have hbA := hb.alloc hb.size (.cells #[str f.name, .int .u8 f.kind, .bool f.par, .slice pn f.needs.length cn, .slice po f.ops.length co] 58);have h0a := heap_up (.cells #[str f.name, .int .u8 f.kind, .bool f.par, .slice pn f.needs.length cn, .slice po f.ops.length co] 58) h0;have h3a := heap_up (.cells #[str f.name, .int .u8 f.kind, .bool f.par, .slice pn f.needs.length cn, .slice po f.ops.length co] 58) h3;have hset1 := hset.kept (World.grownBy_alloc wr (.cells #[str f.name, .int .u8 f.kind, .bool f.par, .slice pn f.needs.length cn, .slice po f.ops.length co] 58) none) (by simp);have hlen : ((withV l g i).map nameV).length < maxLen := by
    unfold withV maxLen;simp;omega
   go_wp2_with (at_mapUpdate; refine wpList_face_put _ rfl _ _ _ rfl (w.heap.size + 1) _ rfl hset1 hlen f.name _ rfl rfl hnl ?_; intro w5 hset5 hgr5);rw [← HE.out] at hset5;refine ⟨⟨i + 1, hlt, by go_num, ?_, grown_heap hgr5 h0a (by simp), grown_heap hgr5 h3a (by simp), hbA.grown hgr5 hbA.size (fun k e => by cases e; omega)⟩, by simp only [intOf]; omega⟩;rw [HW.out, List.map_append];exact hset5
set_option maxRecDepth 8000 in
set_option maxHeartbeats 6400000 in
theorem find_any {D : Nat → Prop} (fs : List FaceP) (m : Nat) (n : List UInt8) (w : World) (hs : ShelfM D w m fs) (ha : Apart fs) (hn : n.length ≤ maxLen) :
 Calls Tryz.prog 75 #[.agg #[.map (some m)], str n] w fun e w' => ∃ v, e = .returned (.tuple #[v, .bool (findK fs n).isSome]) ∧ (findK fs n = none → v = face0) ∧ (∀ f, findK fs n = some f → FaceV D w' v f) ∧ Below w.heap.size w w' := by
 have hA := (Below.refl _ w).alloc (nl _) (.cells #[.map (some m)] 84)
 have hB := hA.alloc (by simp) (.cells #[.string ⟨#[]⟩, .int .u8 0, .bool false, .slice none 0 0, .slice none 0 0] 58)
 have hsf : ShelfM (fun b => D b ∧ b < w.heap.size) w m fs := by
  obtain ⟨L, k1, k2, k3⟩ := hs;exact ⟨L, k1, k2, fun x hx => (k3 x hx).fresh⟩
 obtain ⟨v, hlk, h1, h2⟩ := (hsf.below hB (nl _)).look ha hn
 rcases hq : findK fs n with _ | f
 · obtain rfl := h1 hq
   rw [hq] at hlk;have HQ := Lib.hid hq;clear h1 h2 hq;dsimp only [Option.isSome_none] at hlk;go_enter Tryz.func75, Tryz.ntmps75;go_wp2_with fail;refine bodyPost_ret (v := .tuple #[face0, .bool false]) (by simp [results, Tryz.results75, go_sem]) rfl ?_;exact ⟨_, rfl, (fun _ => rfl), (fun f hf => by cases hf), (hB.alloc (by simp; omega) _)⟩
 · have hF := h2 f hq
   rw [hq] at hlk;clear h1 h2 hq;dsimp only [Option.isSome_some] at hlk;obtain ⟨nv, ov, rfl, hnl, hN, hO⟩ := hF;have hFV : FaceV (fun b => D b ∧ b < w.heap.size) _ (.agg #[str f.name, .int .u8 f.kind, .bool f.par, nv, ov]) f := ⟨nv, ov, rfl, hnl, hN, hO⟩;have HF := fun W hW => FaceV.agree hFV (w' := W) hW
   clear hFV;obtain ⟨p1, c1, rfl, _⟩ := hN.shape;obtain ⟨p2, c2, rfl, _⟩ := hO.shape;clear hN hO;go_enter Tryz.func75, Tryz.ntmps75;go_wp2_with fail;refine bodyPost_ret (v := .tuple #[.agg #[str f.name, .int .u8 f.kind, .bool f.par, .slice p1 f.needs.length c1, .slice p2 f.ops.length c2], .bool true]) (by simp [results, Tryz.results75, go_sem]) rfl ?_;have hEnd := ((hA.alloc (by simp) (.cells #[.string ⟨f.name.toArray⟩, .int .u8 f.kind, .bool f.par, .slice p1 f.needs.length c1, .slice p2 f.ops.length c2] 58)).alloc (by simp; omega) (.cells #[.string ⟨f.name.toArray⟩, .int .u8 f.kind, .bool f.par, .slice p1 f.needs.length c1, .slice p2 f.ops.length c2] 58));refine ⟨_, rfl, (fun h => by cases h), ?_, hEnd⟩;intro g hg;cases hg;refine (HF _ fun b hb hlt => ?_).mono fun b hb => hb.1
   exact (hEnd.block b hb.2).trans (hB.block b hb.2).symm
end Go.Proofs.YtakgjcfkdemipaaGreatDoor
namespace Go.Proofs.YtakgjcfkdemipaaGreatDoor
open Go.RowKit
set_option maxRecDepth 8000 in
set_option maxHeartbeats 6400000 in
theorem named_any {D : Nat → Prop} (v : Value) (m : Nat) (nv : Value) (p : Bool) (t : List UInt8) (fs : List FaceP) (w : World) (hv : MakV v m nv p t) (ht : t.length ≤ maxLen) (hT : Tab w) (hbl : (baseK t).1.length ≤ maxLen) (hs : ShelfM D w m fs) (ha : Apart fs) :
 Calls Tryz.prog 183 #[v] w fun e w' => ∃ u, e = .returned u ∧ OpsM D w' u (((findK fs (baseK t).1).map (·.ops)).getD []) ∧ Below w.heap.size w w' := by
 obtain ⟨rfl, q, n, c, rfl⟩ := hv
 have hbox := heap_alloc_new w (.cells #[.map (some m), .slice q n c, .bool p, str t] 145)
 have hA := (Below.refl _ w).alloc (nl _) (.cells #[.map (some m), .slice q n c, .bool p, str t] 145)
 have HC := kbase_any t ht (w.alloc (.cells #[.map (some m), .slice q n c, .bool p, str t] 145)) (hT.below hA (nl _))
 have bx := (box4 hbox).1
 have hsA := hs.below hA (nl _)
 have HF := fun W hS => find_any (D := D) fs m (baseK t).1 W hS ha hbl
 clear hs hT
 rcases hq : findK fs (baseK t).1 with _ | f
 · simp only [hq, Option.isSome_none, Option.map_none, Option.getD_none] at HF ⊢
   clear hq;generalize (baseK t).1 = nm at *;go_enter Tryz.func183, Tryz.ntmps183;go_wp2_with (first
    | (go_at_call 75; refine (HF _ (hsA.below hb1 (nl _))).mono ?_; rintro e w2 ⟨v, rfl, h1, h2, hb2⟩; obtain rfl := h1 trivial)
    | (go_at_call 120; refine HC.mono ?_; clear HC; rintro e w1 ⟨rfl, hb1⟩; have hbx1 := kept_call hbox hb1; have bx1 := (box4 hbx1).1))
   go_ret;exact ⟨_, rfl, OpsM.nil _ _ _ _, ((hA.trans (below_less hb1 (by simp))).trans (below_less hb2 (by have := hb1.size; simp at this; omega))).alloc (by have := hb1.size; have := hb2.size; simp at *; omega) _⟩
 · simp only [hq, Option.isSome_some, Option.map_some, Option.getD_some] at HF ⊢
   clear hq;generalize (baseK t).1 = nm at *;go_enter Tryz.func183, Tryz.ntmps183;go_wp2_with (first
    | (go_at_call 75; refine (HF _ (hsA.below hb1 (nl _))).mono ?_; rintro e w2 ⟨v, rfl, h1, h2, hb2⟩; obtain ⟨nv', ov, rfl, hnl, hN, hO⟩ := h2 f rfl; clear h2; obtain ⟨p1, c1, rfl, _⟩ := hN.shape; obtain ⟨p2, c2, rfl, _⟩ := hO.shape)
    | (go_at_call 120; refine HC.mono ?_; clear HC; rintro e w1 ⟨rfl, hb1⟩; have hbx1 := kept_call hbox hb1; have bx1 := (box4 hbx1).1))
   go_ret;exact ⟨_, rfl, hO.below ((Below.refl _ w2).alloc (nl _) _) (nl _), ((hA.trans (below_less hb1 (by simp))).trans (below_less hb2 (by have := hb1.size; simp at this; omega))).alloc (by have := hb1.size; have := hb2.size; simp at *; omega) _⟩
set_option maxRecDepth 8000 in
set_option maxHeartbeats 6400000 in
theorem params_any {D : Nat → Prop} (v : Value) (m : Nat) (nv : Value) (p : Bool) (t : List UInt8) (l : List OpP) (w : World) (hv : MakV v m nv p t) (hn : OpsM D w nv l) (hl : l.length ≤ 100000) :
 Calls Tryz.prog 184 #[v] w fun e w' => ∃ u, e = .returned u ∧ OwnO w.heap.size w' u l ∧ Below w.heap.size w w' := by
 obtain ⟨rfl, _⟩ := hv
 have hnf := hn.fresh
 obtain ⟨q, c, rfl, _, hm, hle⟩ := hn.shape
 unfold maxLen at hm
 obtain ⟨i0, hi0, hz0, hz1, hz2⟩ := finfo_parts infoOp
 have hbox := heap_alloc_new w (.cells #[.map (some m), .slice q l.length c, .bool p, str t] 145)
 have hA := (Below.refl _ w).alloc (nl _) (.cells #[.map (some m), .slice q l.length c, .bool p, str t] 145)
 have bx := (box4 hbox).1
 have hnA := hnf.below hA (nl _)
 clear hn hnf
 go_enter Tryz.func184, Tryz.ntmps184
 go_wp2_with fail
 clear bx
 go_loopw [3, 10] (fun a y wx => ∃ i : Nat, i ≤ l.length ∧ y = .int .i64 i ∧ OwnO w.heap.size wx a (l.take i) ∧ Below w.heap.size w wx ∧ OpsM (fun b => D b ∧ b < w.heap.size) wx (.slice q l.length c) l) (fun _ y _ => l.length - (intOf y).toNat)
 case atStart => exact ⟨0, Nat.zero_le _, by go_num, OwnO.nil _ _, hA, hnA⟩
 case round =>
  clear hnA hA hbox;obtain ⟨i, hi, rfl, hown, hB, hN⟩ := hrel;obtain ⟨pv, cv, rfl⟩ := hown.shape
  by_cases hlt : i < l.length
  case neg =>
   have hie : i = l.length := by omega
   subst hie;rw [List.take_length] at hown;go_wp2_with fail;go_ret;exact ⟨_, rfl, by first | exact hown | simpa using hown, hB⟩
  case pos =>
   obtain ⟨x, hx⟩ : ∃ x, l[i]? = some x := ⟨_, List.getElem?_eq_getElem hlt⟩
   obtain ⟨b1, o1, av, sv, hbe, hDb, ⟨hxn, hxr⟩, hSa, hSs, pc0, pc1, pc2, pc3, pc4⟩ := hN.at hx;subst hbe;obtain ⟨pa, ca, rfl, _⟩ := hSa.shape;obtain ⟨ps, cs, rfl, _⟩ := hSs.shape;have hTk := Lib.hid (show l.take i ++ [x] = l.take (i + 1) by rw [List.take_add_one, hx]; simp);have hlen : (l.take i).length = i := by rw [List.length_take]; omega
   generalize l.take i = L at *;clear hx;obtain ⟨cc, hcs, hC⟩ := hown;have hE1 := (Below.refl _ wr).alloc (nl _) (.cells #[str x.name, .bool x.sig.iter, .slice pa x.sig.args.length ca, str x.sig.res, .slice ps x.sig.sigs.length cs] 79);have hB1 := hB.alloc hB.size (.cells #[str x.name, .bool x.sig.iter, .slice pa x.sig.args.length ca, str x.sig.res, .slice ps x.sig.sigs.length cs] 79);have hN1 := hN.below hE1 (nl _);have hcs1 := ownsRow_below hcs hE1 (nl _);have hC1 := hC.below hE1 (nl _);have hSa1 := hSa.below hE1 (nl _);have hSs1 := hSs.below hE1 (nl _);have hp1 := box5 (heap_alloc_new wr (.cells #[str x.name, .bool x.sig.iter, .slice pa x.sig.args.length ca, str x.sig.res, .slice ps x.sig.sigs.length cs] 79));have hp1 := hp1.1;have hLl := hlen;clear hN hC hE1 hB hSa hSs;go_wp2_with (at_builtin; refine wpList_append_own2 _ rfl _ _ 31 rfl w.heap.size 50 i0 _ 5 88 underOps hi0 hz0 hz1 hz2 rfl (by decide) _ _ cc rfl (hcs1.alloc _) ⟨wr.heap.size + 1, 0, none⟩ 1 1 [str x.name, .bool x.sig.iter, .slice pa x.sig.args.length ca, str x.sig.res, .slice ps x.sig.sigs.length cs] rfl rfl (by have := cells_new (wr.alloc (.cells #[str x.name, .bool x.sig.iter, .slice pa x.sig.args.length ca, str x.sig.res, .slice ps x.sig.sigs.length cs] 79)) [str x.name, .bool x.sig.iter, .slice pa x.sig.args.length ca, str x.sig.res, .slice ps x.sig.sigs.length cs] 50; simpa using this) (by intro u hu; simp only [List.mem_cons, List.not_mem_nil, or_false] at hu; rcases hu with rfl | rfl | rfl | rfl | rfl <;> rfl) (by decide) (by unfold maxLen; omega) (by omega) (Nat.le_trans hB1.size (by simp)) ?_; intro v' w5 hown5 hgr hob);have hD3 := (Below.refl _ (wr.alloc (.cells #[str x.name, .bool x.sig.iter, .slice pa x.sig.args.length ca, str x.sig.res, .slice ps x.sig.sigs.length cs] 79))).alloc (nl _) (.cells #[str x.name, .bool x.sig.iter, .slice pa x.sig.args.length ca, str x.sig.res, .slice ps x.sig.sigs.length cs] 50);have hne : ∀ b, D b ∧ b < w.heap.size → (Value.slice pv L.length cv).ownBlock ≠ some b := fun b hb e => by have := (hcs1.lt _ e).1; omega
   have h5 := OwnO.append (k := [x]) (hC1.below hD3 (nl _)) (OpsC.below hD3 (nl _) ⟨_, _, [], rfl, ⟨hxn, hxr⟩, hSa1.mono hne, hSs1.mono hne, rfl⟩) hown5 hgr hob;have hB5 := Below.grown (B := w.heap.size) (hB1.alloc hB1.size (.cells #[str x.name, .bool x.sig.iter, .slice pa x.sig.args.length ca, str x.sig.res, .slice ps x.sig.sigs.length cs] 50)) hgr (Nat.le_trans hB1.size (by simp)) (fun k e => (hcs1.lt k e).1);have hN5 := (hN1.below hD3 (nl _)).agree (w' := w5) (fun b hb hlt => hgr.block b hlt (fun e => hne b hb e.symm));refine ⟨⟨i + 1, hlt, by go_num, hTk.out ▸ h5, hB5, hN5⟩, by simp only [intOf]; omega⟩
end Go.Proofs.YtakgjcfkdemipaaGreatDoor
namespace Go.Proofs.YtakgjcfkdemipaaGreatDoor
open Go.RowKit
set_option maxHeartbeats 3200000 in
theorem ops_any (w : World) : Calls Tryz.prog 122 #[] w fun e w' => e = .returned (.agg #[.nilFunc, .func (.func 177) #[] #[], .func (.func 178) #[] #[], .func (.func 179) #[] #[], .func (.func 180) #[] #[], .func (.func 181) #[] #[], .func (.func 182) #[] #[], .func (.func 183) #[] #[], .func (.func 184) #[] #[]]) ∧ Below w.heap.size w w' := by
 go_enter Tryz.func122, Tryz.ntmps122
 go_wp2_with fail
 refine bodyPost_ret (v := .agg #[.nilFunc, .func (.func 177) #[] #[], .func (.func 178) #[] #[], .func (.func 179) #[] #[], .func (.func 180) #[] #[], .func (.func 181) #[] #[], .func (.func 182) #[] #[], .func (.func 183) #[] #[], .func (.func 184) #[] #[]]) (by simp [results, Tryz.results122, go_sem]) rfl ?_
 exact ⟨rfl, (Below.refl _ w).alloc (nl _) _⟩
theorem box3 {w : World} {b : Nat} {a0 a1 a2 : Value} {t : TypeId} (h : w.heap[b]? = some (.cells #[a0, a1, a2] t (0, 0))) : w.cell? ⟨b, 0, none⟩ = some a0 ∧ w.cell? ⟨b, 1, none⟩ = some a1 ∧ w.cell? ⟨b, 2, none⟩ = some a2 :=
 ⟨(cells_at h 0).trans rfl, (cells_at h 1).trans rfl, (cells_at h 2).trans rfl⟩
def TyOk (t : List UInt8) : Prop := t.length ≤ maxLen ∧ (argK t).1.length ≤ maxLen ∧ (baseK t).1.length ≤ maxLen ∧ (partsK t).1.length ≤ 100 ∧ ∀ x ∈ (partsK t).1, x.1.length ≤ 1000 ∧ x.2.length ≤ maxLen
end Go.Proofs.YtakgjcfkdemipaaGreatDoor
