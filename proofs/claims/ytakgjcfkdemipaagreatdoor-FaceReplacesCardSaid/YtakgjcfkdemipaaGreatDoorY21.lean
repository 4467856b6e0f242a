/-
  Faces, signatures, needs and operations (plain): what the functions of the package face answer. No condition.
  The library of the chapter's examples (plain), and what the functions answer there. No condition.
  Contracts: argusref03.Same; the statements' own examples (arguslaw03.kept). Condition: the variable strings.asciiSpace. Contract: the statements' own examples (arguslaw03.kept). Condition: the variable strings.asciiSpace. Contract: whether texts are short enough (arguslaw03.short). No condition.
  With, as the statements need it (plain): what it answers where it succeeds; twice; by the parameter; where the type is not open. No condition. What the functions answer, in any world with the table: the form in which the statements' walks use the contracts. Condition: the texts' lengths.
  Parts turned round, put together again (plain): they are the record; likewise an array of its argument, a name with its argument. No condition.
  What Inside and With answer, as the statements need it (plain): what is inside a type is a type, with fewer levels; each once; the levels of With. No condition.
  Faces that are as said (plain): what follows from Check and CheckAll; levels of types inside a type. No condition.
  Operations of types (plain): names that stand once; operations in order; how many levels Good looks at. No condition.
  Operations of types (plain): sorted by name; each name once; what a need asks, seen from either side. No condition.
  A map of faces by their names that the call itself makes: stored into, looked up. No condition but the bounds that the laws ask.
-/
import Derived.ChangeAlike
import Derived.RegionTactic
import Derived.Test.YtakgjcfkdemipaaGreatDoorYn
import Derived.Test.YtakgjcfkdemipaaGreatDoorY0
import Derived.Test.YtakgjcfkdemipaaGreatDoorY16
import Derived.Test.YtakgjcfkdemipaaGreatDoorY18
import Derived.Test.YtakgjcfkdemipaaGreatDoorY19
import Derived.Test.YtakgjcfkdemipaaGreatDoorY20
namespace Go.Proofs.YtakgjcfkdemipaaGreatDoor
def ascK : List (List UInt8) → Bool
 | [] => true
 | [a] => isName a
 | a :: b :: l => isName a && Op.bytesLess a b && ascK (b :: l)
def saidK (s : SigP) (opn : Bool) : Bool :=
 decide (s.args.length ≤ 6) && decide (s.sigs.length ≤ 6) && ascK s.sigs && !(s.iter && decide (s.res = [])) &&
  (typesK s).all (fun t => decide ((checkK t).1 = 0) && (!openK t || opn))
def neededK (l : List OpP) : Bool := l.all (fun n => saidK n.sig true) && decide (l.length ≤ 4) && ascK (l.map (·.name))
def onceN : List (List UInt8) → Bool
 | [] => true
 | a :: l => !l.contains a && onceN l
def faceK (f : FaceP) : Bool :=
 isName f.name && decide (1 ≤ f.kind) && decide (f.kind ≤ 3) && neededK f.needs && (f.par || f.needs.isEmpty) &&
  decide (1 ≤ f.ops.length) && decide (f.ops.length ≤ 20) && f.ops.all (fun o => isName o.name && saidK o.sig f.par) && onceN (f.ops.map (·.name)) &&
  (decide (f.kind = 3) || match f.ops with
   | [o] => decide (o.name = f.name) && decide (o.sig.iter = decide (f.kind = 2))
   | _ => false)
def findK (l : List FaceP) (n : List UInt8) : Option FaceP := l.find? fun f => decide (f.name = n)
def withL (a : List UInt8) : List (List UInt8) → List (List UInt8) × Nat
 | [] => ([], 0)
 | t :: l => if (withK t a).2 = 0 then (if (withL a l).2 = 0 then ((withK t a).1 :: (withL a l).1, 0) else ([], (withL a l).2)) else ([], (withK t a).2)
def putK (s : SigP) (a : List UInt8) : SigP × Nat :=
 if a = [] then (s, 0)
 else if (withL a s.args).2 ≠ 0 then (.zero, (withL a s.args).2)
 else if s.res = [] then (⟨s.iter, (withL a s.args).1, [], s.sigs⟩, 0)
 else if (withK s.res a).2 ≠ 0 then (.zero, (withK s.res a).2)
 else (⟨s.iter, (withL a s.args).1, (withK s.res a).1, s.sigs⟩, 0)
structure ScopeP where
 faces : List FaceP
 needs : List OpP
 par : Bool
def sg (res : List UInt8) (args : List (List UInt8)) (sigs : List (List UInt8)) : SigP := ⟨false, args, res, sigs⟩
def rawK (c : ScopeP) (t : List UInt8) : List OpP × List UInt8 :=
 let eq : OpP := ⟨[101, 113, 117, 97, 108], sg wBool [t, t] []⟩
 match (checkK t).2.k with
 | 1 => ([eq, ⟨[108, 101], sg wBool [t, t] []⟩, ⟨[108, 116], sg wBool [t, t] []⟩] ++ ([[97, 100, 100], [115, 117, 98], [109, 117, 108]].map fun n => ⟨n, sg t [t, t] [[111, 118, 101, 114, 102, 108, 111, 119]]⟩) ++ ([[100, 105, 118], [109, 111, 100]].map fun n => ⟨n, sg t [t, t] [[122, 101, 114, 111, 100, 105, 118, 105, 100, 101]]⟩), [])
 | 2 => ([eq, ⟨[97, 110, 100], sg t [t, t] []⟩, ⟨[111, 114], sg t [t, t] []⟩, ⟨[110, 111, 116], sg t [t] []⟩], [])
 | 3 => ([eq], [])
 | 4 => ([eq, ⟨[97, 100, 100, 104], sg [] [t, (argK t).1] [[111, 118, 101, 114, 102, 108, 111, 119]]⟩, ⟨[102, 101, 116, 99, 104], sg (argK t).1 [t, wInt] [[98, 111, 117, 110, 100, 115]]⟩, ⟨[110, 101, 119], sg t [] []⟩, ⟨[114, 101, 109, 104], sg (argK t).1 [t] [[98, 111, 117, 110, 100, 115]]⟩, ⟨[115, 105, 122, 101], sg wInt [t] []⟩, ⟨[115, 116, 111, 114, 101], sg [] [t, wInt, (argK t).1] [[98, 111, 117, 110, 100, 115]]⟩], [])
 | 5 => (eq :: ((partsK t).1.flatMap fun p => [⟨[103, 101, 116, 95] ++ p.1, sg p.2 [t] []⟩, ⟨[115, 101, 116, 95] ++ p.1, sg [] [t, p.2] []⟩]) ++ [⟨[109, 97, 107, 101], sg t ((partsK t).1.map (·.2)) []⟩], [])
 | 6 => (eq :: ((partsK t).1.flatMap fun p => [⟨[105, 115, 95] ++ p.1, sg wBool [t] []⟩, ⟨[109, 97, 107, 101, 95] ++ p.1, sg t [p.2] []⟩]), [])
 | 7 => (((findK c.faces (baseK t).1).map (·.ops)).getD [], (argK t).1)
 | 8 => (c.needs, [])
 | _ => ([], [])
def opIn (c : ScopeP) (t n : List UInt8) : SigP × Nat :=
 match (rawK c t).1.find? fun o => decide (o.name = n) with
 | none => (.zero, 40)
 | some o => putK o.sig (rawK c t).2
def lackK (c : ScopeP) (t : List UInt8) (n : OpP) : Bool :=
 decide ((opIn c t n.name).2 ≠ 0) || decide ((putK n.sig t).2 ≠ 0) || !sameK (opIn c t n.name).1 (putK n.sig t).1
def lacksK (c : ScopeP) (want : List OpP) (t : List UInt8) : Option (List UInt8) := (want.find? (lackK c t)).map (·.name)
def firstE : List Nat → Nat
 | [] => 0
 | e :: l => if e = 0 then firstE l else e
def namedE (c : ScopeP) (rec : List UInt8 → Nat) (u : List UInt8) : Nat :=
 if (checkK u).2.k = 7 then
  match findK c.faces (baseK u).1 with
  | none => 5
  | some f =>
   if f.kind = 3 ∧ (argK u).2.1 = f.par then
    (if (argK u).2.1 = true ∧ ((f.needs ≠ [] ∧ rec (argK u).1 ≠ 0) ∨ (lacksK c f.needs (argK u).1).isSome = true) then 41 else 0)
   else 5
 else 0
def goodN (c : ScopeP) : Nat → List UInt8 → Nat
 | 0, _ => 0
 | n + 1, t =>
  if (checkK t).1 ≠ 0 then (checkK t).1
  else if openK t = true ∧ c.par = false then 43
  else firstE ((insideK t).1.map (namedE c (goodN c n)))
def goodK (c : ScopeP) (t : List UInt8) : Nat := goodN c 7 t
def checkF : List FaceP → Nat → Option (List UInt8) → Option (Nat × Nat)
 | [], _, _ => none
 | f :: l, i, p =>
  if 20 ≤ i then some (i, 2)
  else if faceK f = false then some (i, 42)
  else if (p.any fun q => !Op.bytesLess q f.name) = true then some (i, 6)
  else checkF l (i + 1) (some f.name)
def sigsF (f : FaceP) : List SigP := f.needs.map (·.sig) ++ f.ops.map (·.sig)
def typedF (all : List FaceP) : List FaceP → Nat → Option (Nat × Nat)
 | [], _ => none
 | f :: l, i =>
  let e := firstE (((sigsF f).flatMap typesK).map (goodK ⟨all, f.needs, f.par⟩))
  if e = 0 then typedF all l (i + 1) else some (i, e)
def allK (l : List FaceP) : Nat × Nat := ((checkF l 0 none).orElse fun _ => typedF l l 0).getD (0, 0)
def putL (a : List UInt8) : List OpP → List OpP × Nat
 | [] => ([], 0)
 | o :: l => if (putK o.sig a).2 = 0 then (if (putL a l).2 = 0 then (⟨o.name, (putK o.sig a).1⟩ :: (putL a l).1, 0) else ([], (putL a l).2)) else ([], (putK o.sig a).2)
def insO (x : OpP) : List OpP → List OpP
 | [] => [x]
 | y :: l => if Op.bytesLess y.name x.name = true then y :: insO x l else x :: y :: l
def sortO (l : List OpP) : List OpP := l.foldl (fun acc x => insO x acc) []
def askedK (l : List FaceP) (needs : List OpP) : Nat := if (allK l).2 ≠ 0 then (allK l).2 else if neededK needs = true then 0 else 42
def parK (needs : List OpP) (t : List UInt8) : Bool := decide (0 < needs.length) || openK t
def typedK (l : List FaceP) (needs : List OpP) (t : List UInt8) : Nat := if askedK l needs ≠ 0 then askedK l needs else goodK ⟨l, needs, parK needs t⟩ t
def goodL (l : List FaceP) (needs : List OpP) (par : Bool) (t : List UInt8) : Nat := if askedK l needs ≠ 0 then askedK l needs else goodK ⟨l, needs, par⟩ t
def opsIn (c : ScopeP) (t : List UInt8) : List OpP × Nat := if (putL (rawK c t).2 (rawK c t).1).2 ≠ 0 then ([], (putL (rawK c t).2 (rawK c t).1).2) else (sortO (putL (rawK c t).2 (rawK c t).1).1, 0)
def opsOfK (l : List FaceP) (needs : List OpP) (t : List UInt8) : List OpP × Nat := if typedK l needs t ≠ 0 then ([], typedK l needs t) else opsIn ⟨l, needs, parK needs t⟩ t
def opOfK (l : List FaceP) (needs : List OpP) (t n : List UInt8) : SigP × Nat := if typedK l needs t ≠ 0 then (.zero, typedK l needs t) else opIn ⟨l, needs, parK needs t⟩ t n
def fitsK (c : ScopeP) (want : List OpP) (t : List UInt8) : Bool := (want.isEmpty || decide (goodK c t = 0)) && (lacksK c want t).isNone
def sigIn (c : ScopeP) (f : FaceP) (a : List UInt8) : SigP × Nat :=
 if f.kind = 3 ∨ f.par ≠ decide (a ≠ []) then (.zero, 5)
 else if f.par = true ∧ goodK c a ≠ 0 then (.zero, goodK c a)
 else if f.par = true ∧ fitsK c f.needs a = false then (.zero, 41)
 else match f.ops with
  | [] => (.zero, 0)
  | o :: _ => putK o.sig a
def sigOfK (l : List FaceP) (needs : List OpP) (n a : List UInt8) : SigP × Nat :=
 if askedK l needs ≠ 0 then (.zero, askedK l needs)
 else match findK l n with
  | none => (.zero, 5)
  | some f => sigIn ⟨l, needs, parK needs a⟩ f a
def fitsL (l : List FaceP) (needs want : List OpP) (t : List UInt8) : List UInt8 × Bool × Nat :=
 if askedK l needs ≠ 0 then ([], false, askedK l needs)
 else if neededK want = false then ([], false, 42)
 else if goodK ⟨l, needs, parK needs t⟩ t ≠ 0 then ([], false, goodK ⟨l, needs, parK needs t⟩ t)
 else match lacksK ⟨l, needs, parK needs t⟩ want t with
  | none => ([], true, 0)
  | some n => (n, false, 0)
def usesK (f : FaceP) : List (List UInt8) × Nat :=
 if faceK f = true then (sortU (((sigsF f).flatMap typesK).flatMap fun t => (namesK t).1), 0) else ([], 42)
def sigT (s : SigP) : List UInt8 :=
 (if s.iter then [105, 116, 101, 114, 40] else [112, 114, 111, 99, 40]) ++ joinC s.args ++ [41] ++ (if s.res = [] then [] else (if s.iter then [32, 121, 105, 101, 108, 100, 115, 32] else [32, 114, 101, 116, 117, 114, 110, 115, 32]) ++ s.res) ++
  (if s.sigs = [] then [] else [32, 115, 105, 103, 110, 97, 108, 115, 40] ++ joinC s.sigs ++ [41])
def lineT (word : List UInt8) (o : OpP) : List UInt8 := word ++ [32] ++ o.name ++ [32] ++ sigT o.sig ++ [10]
def faceT (f : FaceP) : List UInt8 :=
 (if f.kind = 1 then [112, 114, 111, 99] else if f.kind = 2 then [105, 116, 101, 114] else [99, 108, 117, 115, 116, 101, 114]) ++ [32] ++ f.name ++ (if f.par then [91, 116, 93] else []) ++ [10] ++
  f.needs.flatMap (lineT ([104, 97, 115])) ++ f.ops.flatMap (lineT ([111, 112]))
def writeK (f : FaceP) : List UInt8 × Nat := if faceK f = true then (faceT f, 0) else ([], 42)
end Go.Proofs.YtakgjcfkdemipaaGreatDoor
namespace Go.Proofs.YtakgjcfkdemipaaGreatDoor
def tB : List UInt8 := [98, 111, 111, 108]
def tQ : List UInt8 := [63, 116]
def tS : List UInt8 := [115, 101, 116, 91, 63, 116, 93]
def setF : FaceP := ⟨[115, 101, 116], 3, true, [⟨[101, 113, 117, 97, 108], ⟨false, [tQ, tQ], tB, []⟩⟩], [⟨[110, 101, 119], ⟨false, [], tS, []⟩⟩, ⟨[104, 111, 108, 100, 115], ⟨false, [tS, tQ], tB, []⟩⟩]⟩
def sortF : FaceP := ⟨[115, 111, 114, 116], 1, true, [⟨[108, 116], ⟨false, [tQ, tQ], tB, []⟩⟩], [⟨[115, 111, 114, 116], ⟨false, [[97, 114, 114, 97, 121, 91, 63, 116, 93]], [], []⟩⟩]⟩
def libK : List FaceP := [setF, sortF]
theorem sh_all : allK libK = (0, 0) := by decide +kernel
theorem sh_back : allK [sortF, setF] = (1, 6) := by decide +kernel
theorem sh_holds : opOfK libK [] [115, 101, 116, 91, 105, 110, 116, 93] [104, 111, 108, 100, 115] = (⟨false, [[115, 101, 116, 91, 105, 110, 116, 93], [105, 110, 116]], tB, []⟩, 0) := by
 have h : ((opOfK libK [] [115, 101, 116, 91, 105, 110, 116, 93] [104, 111, 108, 100, 115]).1.iter, (opOfK libK [] [115, 101, 116, 91, 105, 110, 116, 93] [104, 111, 108, 100, 115]).1.args, (opOfK libK [] [115, 101, 116, 91, 105, 110, 116, 93] [104, 111, 108, 100, 115]).1.res, (opOfK libK [] [115, 101, 116, 91, 105, 110, 116, 93] [104, 111, 108, 100, 115]).1.sigs, (opOfK libK [] [115, 101, 116, 91, 105, 110, 116, 93] [104, 111, 108, 100, 115]).2) = (false, [[115, 101, 116, 91, 105, 110, 116, 93], [105, 110, 116]], tB, [], 0) := by decide +kernel
 generalize opOfK libK [] [115, 101, 116, 91, 105, 110, 116, 93] [104, 111, 108, 100, 115] = r at *
 obtain ⟨⟨a1, a2, a3, a4⟩, a5⟩ := r
 simpa [and_assoc] using h
theorem sh_add : (opOfK libK [] [115, 101, 116, 91, 105, 110, 116, 93] [97, 100, 100]).2 = 40 := by decide +kernel
theorem sh_ops : (opsOfK libK [] [97, 114, 114, 97, 121, 91, 105, 110, 116, 93]).2 = 0 ∧ (opsOfK libK [] [97, 114, 114, 97, 121, 91, 105, 110, 116, 93]).1.length = 7 ∧ (opsOfK libK [] [97, 114, 114, 97, 121, 91, 105, 110, 116, 93]).1[2]?.map (·.name) = some [102, 101, 116, 99, 104] := by decide +kernel
theorem sh_sig : (sigOfK libK [] [115, 111, 114, 116] [98, 111, 111, 108]).2 = 41 := by decide +kernel
theorem sh_fits : fitsL libK [] sortF.needs [98, 111, 111, 108] = ([108, 116], false, 0) := by decide +kernel
theorem sh_uses : usesK setF = ([[115, 101, 116]], 0) := by
 have h1 : faceK setF = true := by decide +kernel
 have h2 : (sigsF setF).flatMap typesK = [tQ, tQ, tB, tS, tS, tQ, tB] := by decide +kernel
 have s0 : sortU [] = [] := by unfold sortU; simp [onceB]
 have s1 : ∀ a : List UInt8, sortU [a] = [a] := fun a => by unfold sortU; simp [onceB, hasB]
 have n1 : namesK tQ = ([], 0) := by
  unfold namesK;rw [if_pos (by decide +kernel), show namF (checkK tQ).2.ins = [] by decide +kernel, s0]
 have n2 : namesK tB = ([], 0) := by
  unfold namesK;rw [if_pos (by decide +kernel), show namF (checkK tB).2.ins = [] by decide +kernel, s0]
 have n3 : namesK tS = ([[115, 101, 116]], 0) := by
  unfold namesK;rw [if_pos (by decide +kernel), show namF (checkK tS).2.ins = [[115, 101, 116]] by decide +kernel, s1]
 unfold usesK
 rw [if_pos h1, h2]
 simp only [List.flatMap_cons, List.flatMap_nil, n1, n2, n3, List.nil_append, List.append_nil, List.singleton_append]
 unfold sortU
 rw [show onceB [[115, 101, 116], [115, 101, 116]] = [[115, 101, 116]] by decide]
 simp
theorem sh_text : writeK sortF = ([112, 114, 111, 99, 32, 115, 111, 114, 116, 91, 116, 93, 10, 104, 97, 115, 32, 108, 116, 32, 112, 114, 111, 99, 40, 63, 116, 44, 63, 116, 41, 32, 114, 101, 116, 117, 114, 110, 115, 32, 98, 111, 111, 108, 10, 111, 112, 32, 115, 111, 114, 116, 32, 112, 114, 111, 99, 40, 97, 114, 114, 97, 121, 91, 63, 116, 93, 41, 10], 0) := by decide +kernel
theorem sh_bad : goodL libK [] false [115, 101, 116, 91, 115, 101, 116, 91, 105, 110, 116, 93, 93] = 41 := by decide +kernel
theorem sh_good : goodL libK setF.needs true tS = 0 := by decide +kernel
end Go.Proofs.YtakgjcfkdemipaaGreatDoor
namespace Go.Proofs.YtakgjcfkdemipaaGreatDoor
open Go.RowKit
theorem Strs.at {w : World} {p : Option Addr} {n c : Nat} {ss : List (List UInt8)} (h : Strs w (.slice p n c) ss) {k : Nat} {x : List UInt8} (hk : ss[k]? = some x) : ∃ b o, p = some ⟨b, o, none⟩ ∧ w.cell? ⟨b, o + k, none⟩ = some (str x) := by
 obtain ⟨hj, e⟩ := List.getElem?_eq_some_iff.1 hk
 rcases h.shape with ⟨h1, rfl⟩ | ⟨b, o, c', h1, _, h3⟩
 · simp at hj
 · injection h1 with h1
   exact ⟨b, o, h1, by rw [h3 k hj, e]⟩
end Go.Proofs.YtakgjcfkdemipaaGreatDoor
namespace Go.Proofs.YtakgjcfkdemipaaGreatDoor
open Go.RowKit
end Go.Proofs.YtakgjcfkdemipaaGreatDoor
namespace Go.Proofs.YtakgjcfkdemipaaGreatDoor
open Go.RowKit
end Go.Proofs.YtakgjcfkdemipaaGreatDoor
namespace Go.Proofs.YtakgjcfkdemipaaGreatDoor
theorem withK_eq {s u : List UInt8} {t a : Tr} (hs : checkK s = (0, t)) (hu : checkK u = (0, a)) : withK s u = toldK (t.put a) := by
 unfold withK twoK
 simp only [hs, hu, if_true]
theorem withK_ok {s u x : List UInt8} (h : withK s u = (x, 0)) : ∃ t a, checkK s = (0, t) ∧ checkK u = (0, a) ∧ x = (t.put a).txt ∧ checkK x = (0, t.put a) := by
 have h2 : (twoK s u).2.2 = 0 := by
  unfold withK at h;split at h
  · assumption
  · rename_i hc; simp only [Prod.mk.injEq] at h; exact absurd h.2 hc
 rcases hq : twoK s u with ⟨t, a, c⟩
 rw [hq] at h2
 simp only at h2
 subst h2
 obtain ⟨h3, h4⟩ := twoK_ok hq
 rw [withK_eq h3 h4] at h
 obtain ⟨o1, _⟩ := checkK_ok h3
 obtain ⟨o2, _⟩ := checkK_ok h4
 have ho : (t.put a).ok := Tr.ok.put o2 o1
 unfold toldK at h
 split at h
 · simp at h
 · rename_i hs
   simp only [Prod.mk.injEq, and_true] at h;refine ⟨t, a, h3, h4, h.symm, ?_⟩;rw [← h, checkK_of ho, if_neg hs]
end Go.Proofs.YtakgjcfkdemipaaGreatDoor
namespace Go.Proofs.YtakgjcfkdemipaaGreatDoor
open Go.RowKit
end Go.Proofs.YtakgjcfkdemipaaGreatDoor
namespace Go.Proofs.YtakgjcfkdemipaaGreatDoor
def Fo.prs : Fo → List (List UInt8 × Tr)
 | .nil => []
 | .cons pn k n sub rest => (pn, ⟨k, n, sub⟩) :: rest.prs
theorem Fo.pts_prs : ∀ fo : Fo, fo.pts = fo.prs.map fun x => (x.1, x.2.txt)
 | .nil => rfl
 | .cons pn k n sub rest => by rw [Fo.pts, Fo.prs, List.map_cons, Fo.pts_prs rest]
theorem Wf.parts {tag : Option (List UInt8)} {fo : Fo} (h : Wf tag fo) : ∀ b, tag = some b → (∀ x ∈ fo.prs, isName x.1 = true ∧ x.2.ok ∧ Op.bytesLess b x.1 = true ∧ x.2.level ≤ fo.level) ∧ fo.prs.Pairwise fun x y => Op.bytesLess x.1 y.1 = true := by
 induction h with
 | par => intro b h; simp at h
 | word => intro b h; simp at h
 | arr => intro b h; simp at h
 | rcd => intro b h; simp at h
 | nam => intro b h; simp at h
 | app => intro b h; simp at h
 | last b pn k n sub hn hb h ih =>
  intro b' e;injection e with e;subst e;refine ⟨fun x hx => ?_, by simp [Fo.prs]⟩;simp only [Fo.prs, List.mem_singleton] at hx;subst hx;exact ⟨hn, h, hb, by simp only [Tr.level, Fo.level]; omega⟩
 | more b pn k n sub rest hn hb h h2 ih ih2 =>
  intro b' e;injection e with e;subst e;obtain ⟨i1, i2⟩ := ih2 pn rfl
  constructor
  · intro x hx
    rw [Fo.prs] at hx;rcases List.mem_cons.1 hx with rfl | hx
    · exact ⟨hn, h, hb, by simp only [Tr.level, Fo.level]; omega⟩
    · obtain ⟨j1, j2, j3, j4⟩ := i1 x hx
      exact ⟨j1, j2, less_trans _ _ _ hb j3, by simp only [Fo.level]; omega⟩
  · rw [Fo.prs, List.pairwise_cons]
    exact ⟨fun x hx => (i1 x hx).2.2.1, i2⟩
theorem checkK_small {t : Tr} (h : t.ok) (h1 : t.txt.length ≤ 100) (h2 : t.level ≤ 6) : checkK t.txt = (0, t) := by
 rw [checkK_of h, if_neg (by omega)]
theorem rec_wf {T : Tr} (h : T.ok) (hk : T.k = 5 ∨ T.k = 6) : Wf (some []) T.sub := by
 obtain ⟨k, n, fo⟩ := T
 simp only at hk ⊢
 have h' : Wf none (.cons [] k n fo .nil) := h
 clear h
 cases h' with
 | par => simp at hk
 | word _ h3 => omega
 | arr _ h => simp at hk
 | rcd _ _ _ hk2 h hl => exact h
 | nam _ _ => simp at hk
 | app _ _ _ h => simp at hk
end Go.Proofs.YtakgjcfkdemipaaGreatDoor
namespace Go.Proofs.YtakgjcfkdemipaaGreatDoor
theorem insF_once (ts : List Tr) : insF ts = onceB (ts.map (·.txt)) := by
 unfold insF onceB
 rw [List.foldl_map]
theorem fold_head (acc l : List (List UInt8)) : ∃ r, l.foldl (fun acc s => if hasB acc s then acc else acc ++ [s]) acc = acc ++ r := by
 induction l generalizing acc with
 | nil => exact ⟨[], by simp⟩
 | cons s l ih =>
  rw [List.foldl_cons];split
  · exact ih acc
  · obtain ⟨r, hr⟩ := ih (acc ++ [s])
    exact ⟨s :: r, by rw [hr]; simp⟩
theorem onceB_cons (s : List UInt8) (l : List (List UInt8)) : ∃ r, onceB (s :: l) = s :: r := by
 obtain ⟨r, hr⟩ := fold_head [s] l
 refine ⟨r, ?_⟩
 unfold onceB
 rw [List.foldl_cons]
 exact hr
theorem Fo.ins_ok : ∀ fo : Fo, (fo = .nil ∨ ∃ tag, Wf tag fo) → ∀ u ∈ fo.ins, u.ok ∧ u.level ≤ fo.level
 | .nil, _, u, hu => by simp [Fo.ins] at hu
 | .cons pn k n sub rest, h, u, hu => by
  obtain ⟨tag, hw⟩ : ∃ tag, Wf tag (.cons pn k n sub rest) := by
   rcases h with h | h
   · simp at h
   · exact h
  obtain ⟨h1, h2⟩ := hw.head;rw [Fo.ins] at hu;rw [Fo.level];rcases List.mem_cons.1 hu with hu | hu
  · subst hu
    refine ⟨h1, ?_⟩;unfold Tr.level;simp only;omega
  · rcases List.mem_append.1 hu with hu | hu
    · have := Fo.ins_ok sub h1.inner u hu
      exact ⟨this.1, by omega⟩
    · have := Fo.ins_ok rest h2 u hu
      exact ⟨this.1, by omega⟩
theorem Fo.ins_tx : ∀ fo : Fo, ∀ u ∈ fo.ins, u.txt.length ≤ fo.tx.length
 | .nil, u, hu => by simp [Fo.ins] at hu
 | .cons pn k n sub rest, u, hu => by
  obtain ⟨e1, e2, e3⟩ := Fo.tx_len pn k n sub rest;rw [Fo.ins] at hu;rcases List.mem_cons.1 hu with hu | hu
  · subst hu
    rw [Tr.txt_eq];exact e1
  · rcases List.mem_append.1 hu with hu | hu
    · have := Fo.ins_tx sub u hu
      omega
    · have := Fo.ins_tx rest u hu
      omega
theorem Tr.ok.ins_all {t u : Tr} (h : t.ok) (hu : u ∈ t.ins) : u.ok ∧ u.txt.length ≤ t.txt.length ∧ (u = t ∨ u.level < t.level) := by
 unfold Tr.ins at hu
 rcases List.mem_cons.1 hu with hu | hu
 · subst hu
   exact ⟨h, nl _, .inl rfl⟩
 · have h1 : t.sub = .nil ∨ ∃ tag, Wf tag t.sub := Wf.inner (show Wf none (.cons [] t.k t.n t.sub .nil) from h)
   obtain ⟨o, l⟩ := Fo.ins_ok t.sub h1 u hu;have hl := Fo.ins_tx t.sub u hu;obtain ⟨_, e2, _⟩ := Fo.tx_len [] t.k t.n t.sub .nil;refine ⟨o, ?_, .inr (by unfold Tr.level at l ⊢; omega)⟩;rw [Tr.txt_eq t];exact Nat.le_trans hl e2
theorem insideK_list {t : List UInt8} {T : Tr} (h : checkK t = (0, T)) : ∃ r, insideK t = (t :: r, 0) ∧ (t :: r).length ≤ 100 ∧ ∀ s ∈ r, s ≠ t ∧ ∃ U, checkK s = (0, U) ∧ s.length ≤ 100 ∧ U.level < T.level := by
 obtain ⟨o, e, l, v⟩ := checkK_ok h
 obtain ⟨r, hr⟩ := onceB_cons t (T.sub.ins.map (·.txt))
 have hi : insF T.ins = t :: r := by
  rw [insF_once, Tr.ins, List.map_cons, e];exact hr
 refine ⟨r, ?_, ?_, ?_⟩
 · unfold insideK
   rw [h];simp only [if_true];rw [hi]
 · have h1 := insF_len T.ins
   have h2 := o.ins_len;rw [hi] at h1;rw [e] at h2;omega
 · intro s hs
   have hnd := onceB_nodup (t :: T.sub.ins.map (·.txt));rw [hr] at hnd;have hne : s ≠ t := fun e => (List.nodup_cons.1 hnd).1 (e ▸ hs)
   have hm : s ∈ onceB (t :: T.sub.ins.map (·.txt)) := by rw [hr]; exact List.mem_cons_of_mem _ hs
   rw [onceB_mem] at hm;rcases List.mem_cons.1 hm with hm | hm
   · exact absurd hm hne
   · obtain ⟨U, hU, rfl⟩ := List.mem_map.1 hm
     obtain ⟨oU, lU, hU2⟩ := o.ins_all (List.mem_cons_of_mem _ hU);rw [e] at lU;rcases hU2 with hU2 | hU2
     · exact absurd (by rw [hU2]; exact e) hne
     · refine ⟨hne, U, ?_, by omega, hU2⟩
       rw [checkK_of oU, if_neg (by omega)]
theorem withK_len (t a : List UInt8) : (withK t a).1.length ≤ 100 := by
 rcases h : withK t a with ⟨x, c⟩
 by_cases hc : c = 0
 · subst hc
   obtain ⟨_, _, _, _, _, k⟩ := withK_ok h;exact (checkK_ok k).2.2.1
 · unfold withK at h
   split at h
   · unfold toldK at h
     split at h
     · simp only [Prod.mk.injEq] at h; rw [← h.1]; simp
     · simp only [Prod.mk.injEq] at h; exact absurd h.2.symm hc
   · simp only [Prod.mk.injEq] at h; rw [← h.1]; simp
theorem levelK_le (t : List UInt8) : levelK t ≤ 6 := by
 unfold levelK
 split
 · rename_i h
   exact (checkK_ok (s := t) (t := (checkK t).2) (by rw [← h])).2.2.2
 · omega
end Go.Proofs.YtakgjcfkdemipaaGreatDoor
namespace Go.Proofs.YtakgjcfkdemipaaGreatDoor
open Go.RowKit
theorem checkF_ok : ∀ (l : List FaceP) (i : Nat) (p : Option (List UInt8)), checkF l i p = none → (l = [] ∨ i + l.length ≤ 20) ∧ (∀ f ∈ l, faceK f = true) ∧ (∀ q, p = some q → ∀ f ∈ l, Op.bytesLess q f.name = true) ∧ l.Pairwise (fun f g => Op.bytesLess f.name g.name = true)
 | [], _, _, _ => ⟨.inl rfl, (fun _ h => by cases h), (fun _ _ _ h => by cases h), List.Pairwise.nil⟩
 | f :: l, i, p, h => by
  unfold checkF at h;split at h
  · cases h
  · rename_i h1
    split at h
    · cases h
    · rename_i h2
      split at h
      · cases h
      · rename_i h3
        obtain ⟨k1, k2, k3, k4⟩ := checkF_ok l (i + 1) (some f.name) h;have hf : faceK f = true := by simpa using h2
        refine ⟨.inr ?_, ?_, ?_, ?_⟩
        · rcases k1 with rfl | k1
          · simp; omega
          · rw [List.length_cons]; omega
        · intro g hg
          rcases List.mem_cons.1 hg with rfl | hg
          · exact hf
          · exact k2 g hg
        · rintro q rfl g hg
          have h4 : Op.bytesLess q f.name = true := by simpa using h3
          rcases List.mem_cons.1 hg with rfl | hg
          · exact h4
          · exact less_trans _ _ _ h4 (k3 _ rfl g hg)
        · exact List.pairwise_cons.2 ⟨fun g hg => k3 _ rfl g hg, k4⟩
theorem checkF_err : ∀ (l : List FaceP) (i : Nat) (p : Option (List UInt8)) (j e : Nat), checkF l i p = some (j, e) → e ≠ 0
 | [], _, _, _, _, h => by cases h
 | f :: l, i, p, j, e, h => by
  unfold checkF at h;split at h
  · simp only [Option.some.injEq, Prod.mk.injEq] at h; omega
  · split at h
    · simp only [Option.some.injEq, Prod.mk.injEq] at h; omega
    · split at h
      · simp only [Option.some.injEq, Prod.mk.injEq] at h; omega
      · exact checkF_err l _ _ _ _ h
theorem typedF_err (a : List FaceP) : ∀ (l : List FaceP) (i j e : Nat), typedF a l i = some (j, e) → e ≠ 0
 | [], _, _, _, h => by cases h
 | f :: l, i, j, e, h => by
  unfold typedF at h;simp only at h;split at h
  · exact typedF_err a l _ _ _ h
  · simp only [Option.some.injEq, Prod.mk.injEq] at h
    omega
theorem allK_ok {l : List FaceP} (h : (allK l).2 = 0) : checkF l 0 none = none ∧ typedF l l 0 = none := by
 unfold allK at h
 rcases h1 : checkF l 0 none with _ | ⟨j, e⟩
 · rcases h2 : typedF l l 0 with _ | ⟨j, e⟩
   · exact ⟨rfl, rfl⟩
   · rw [h1, h2] at h
     exact absurd h (typedF_err l l 0 j e h2)
 · rw [h1] at h
   exact absurd h (checkF_err l 0 none j e h1)
theorem less_ne {a b : List UInt8} (h : Op.bytesLess a b = true) : a ≠ b := by
 rintro rfl
 rw [less_irrefl] at h
 cases h
def Apart (fs : List FaceP) : Prop := fs.Pairwise fun f g => f.name ≠ g.name
theorem apart_of {l : List FaceP} (h : checkF l 0 none = none) : Apart l := (checkF_ok l 0 none h).2.2.2.imp fun h => less_ne h
theorem checkK_kinds {s : List UInt8} (h : (checkK s).1 = 0) : 1 ≤ (checkK s).2.k ∧ (checkK s).2.k ≤ 8 := by
 rcases hq : checkK s with ⟨c, T⟩
 rw [hq] at h
 simp only at h
 subst h
 obtain ⟨h1, _⟩ := checkK_ok hq
 obtain ⟨k, n, sub⟩ := T
 have h' : Wf none (.cons [] k n sub .nil) := h1
 simp only
 cases h' with
 | par => exact ⟨by decide, by decide⟩
 | word k h => rcases h with rfl | rfl | rfl <;> exact ⟨by decide, by decide⟩
 | arr a h => exact ⟨by decide, by decide⟩
 | rcd k w fo hk => rcases hk with ⟨rfl, rfl⟩ | ⟨rfl, rfl⟩ <;> exact ⟨by decide, by decide⟩
 | nam n hn => exact ⟨by decide, by decide⟩
 | app n a hn h => exact ⟨by decide, by decide⟩
theorem levelK_of {s : List UInt8} {T : Tr} (h : checkK s = (0, T)) : levelK s = T.level := by unfold levelK; rw [h, if_pos rfl]
theorem inside_all {t : List UInt8} (h : (checkK t).1 = 0) : (insideK t).2 = 0 ∧ (insideK t).1.length ≤ 100 ∧ ∀ u ∈ (insideK t).1, (checkK u).1 = 0 ∧ u.length ≤ 100 ∧ levelK u ≤ levelK t := by
 rcases hq : checkK t with ⟨c, T⟩
 rw [hq] at h
 simp only at h
 subst h
 obtain ⟨r, h1, h2, h3⟩ := insideK_list hq
 rw [h1]
 refine ⟨rfl, h2, fun u hu => ?_⟩
 rcases List.mem_cons.1 hu with rfl | hu
 · exact ⟨by rw [hq], (checkK_ok hq).2.2.1, nl _⟩
 · obtain ⟨_, U, k1, k2, k3⟩ := h3 u hu
   rw [levelK_of k1, levelK_of hq];exact ⟨by rw [k1], k2, Nat.le_of_lt k3⟩
theorem ofK_seven {s : List UInt8} (h : (checkK s).1 = 0) (hk : (checkK s).2.k = 7) : ofK s [4, 7] = checkK s ∧ ofK s [7] = checkK s := by
 unfold ofK
 rw [if_pos h, if_pos h, if_pos (by rw [hk]; rfl), if_pos (by rw [hk]; rfl)]
 exact ⟨rfl, rfl⟩
theorem arg_level {u : List UInt8} (h : (checkK u).1 = 0) (hk : (checkK u).2.k = 7) : (argK u).2.2 = 0 ∧ (argK u).1.length ≤ 100 ∧ (baseK u).1.length ≤ 100 ∧ (baseK u).2 = 0 ∧ ((argK u).2.1 = true → (checkK (argK u).1).1 = 0 ∧ (argK u).1 ≠ [] ∧ levelK (argK u).1 < levelK u) ∧ ((argK u).2.1 = false → (argK u).1 = []) := by
 rcases hq : checkK u with ⟨c, T⟩
 rw [hq] at h hk
 simp only at h hk
 subst h
 obtain ⟨o1, e1, l1, v1⟩ := checkK_ok hq
 obtain ⟨h4, h7⟩ := ofK_seven (s := u) (by rw [hq]) (by rw [hq]; exact hk)
 rw [hq] at h4 h7
 obtain ⟨k, n, sub⟩ := T
 simp only at hk
 subst hk
 have h' : Wf none (.cons [] 7 n sub .nil) := o1
 have hn : n.length ≤ 100 := by
  cases h' with
  | word _ h3 => omega
  | rcd _ _ _ hk2 => omega
  | nam n hn => have := name_small hn; omega
  | app n a hn h => have := name_small hn; omega
 unfold argK baseK
 rw [h4, h7]
 simp only
 refine ⟨by split <;> rfl, ?_, hn, trivial, ?_, ?_⟩
 · split
   · rename_i hz
     have h5 := Fo.first_len hz.2;have h6 : (Tr.txt ⟨7, n, sub⟩).length ≤ 100 := by rw [e1]; exact l1
     rw [txt_br hz.2] at h6;simp only [List.length_append, List.length_cons] at h6;simp only;omega
   · exact Nat.zero_le _
 · intro hp
   split at hp
   · rename_i hz
     rw [if_pos hz];cases h' with
     | word _ h3 => omega
     | rcd _ _ _ hk2 => omega
     | nam n hn => exact absurd rfl hz.2
     | app n a hn ha =>
      obtain ⟨A, rfl⟩ := ha.one;have hA : A.ok := ha;have hl : (Tr.txt ⟨7, n, .one A⟩).length ≤ 100 := by rw [e1]; exact l1
      rw [one_txt] at hl;simp only [List.length_append, List.length_cons] at hl;have hv : Tr.level ⟨7, n, .one A⟩ ≤ 6 := v1;rw [one_level] at hv;have hc := checkK_small hA (by omega) (by omega);have hp : 0 < A.txt.length := by
       have := parseT_le (Tr.ok.reads' (t := A) ha)
       simpa using this
      refine ⟨by rw [show (Fo.one A).first = A from rfl, hc], ?_, ?_⟩
      · rw [show (Fo.one A).first = A from rfl]
        intro e;have e : A.txt = [] := e;rw [e] at hp;simp at hp
      · rw [show (Fo.one A).first = A from rfl, levelK_of hc, levelK_of hq, one_level]
        omega
   · cases hp
 · intro hp
   split at hp
   · cases hp
   · rename_i hz
     rw [if_neg hz]
end Go.Proofs.YtakgjcfkdemipaaGreatDoor
namespace Go.Proofs.YtakgjcfkdemipaaGreatDoor
open Go.RowKit
def OnceO (l : List OpP) : Prop := (l.map (·.name)).Nodup
theorem onceN_iff : ∀ l : List (List UInt8), onceN l = true ↔ l.Nodup
 | [] => by simp [onceN]
 | a :: l => by rw [onceN, List.nodup_cons, Bool.and_eq_true, onceN_iff l]; simp
theorem ascK_pair : ∀ l : List (List UInt8), ascK l = true → (∀ s ∈ l, isName s = true) ∧ l.Pairwise fun a b => Op.bytesLess a b = true
 | [], _ => ⟨(fun _ h => by cases h), List.Pairwise.nil⟩
 | [a], h => ⟨(fun s hs => by rw [List.mem_singleton.1 hs]; exact h), by simp⟩
 | a :: b :: l, h => by
  rw [ascK, Bool.and_eq_true, Bool.and_eq_true] at h;obtain ⟨⟨h1, h2⟩, h3⟩ := h;obtain ⟨k1, k2⟩ := ascK_pair (b :: l) h3;refine ⟨fun s hs => ?_, List.pairwise_cons.2 ⟨fun s hs => ?_, k2⟩⟩
  · rcases List.mem_cons.1 hs with rfl | hs
    · exact h1
    · exact k1 s hs
  · rcases List.mem_cons.1 hs with rfl | hs
    · exact h2
    · exact less_trans _ _ _ h2 ((List.pairwise_cons.1 k2).1 s hs)
theorem asc_once {l : List OpP} (h : ascK (l.map (·.name)) = true) : OnceO l := ((ascK_pair _ h).2).imp fun h => less_ne h
theorem neededK_once {l : List OpP} (h : neededK l = true) : OnceO l := by
 unfold neededK at h
 simp only [Bool.and_eq_true] at h
 exact asc_once h.2
theorem faceK_parts {f : FaceP} (h : faceK f = true) : isName f.name = true ∧ 1 ≤ f.kind ∧ f.kind ≤ 3 ∧ neededK f.needs = true ∧ (f.par = true ∨ f.needs = []) ∧ 1 ≤ f.ops.length ∧ f.ops.length ≤ 20 ∧ (∀ o ∈ f.ops, isName o.name = true ∧ saidK o.sig f.par = true) ∧ OnceO f.ops ∧
 (f.kind = 3 ∨ ∃ o, f.ops = [o] ∧ o.name = f.name ∧ o.sig.iter = decide (f.kind = 2)) := by
 unfold faceK at h
 simp only [Bool.and_eq_true, decide_eq_true_eq, Bool.or_eq_true, List.all_eq_true, List.isEmpty_iff] at h
 obtain ⟨⟨⟨⟨⟨⟨⟨⟨⟨h1, h2⟩, h3⟩, h4⟩, h5⟩, h6⟩, h7⟩, h8⟩, h9⟩, h10⟩ := h
 refine ⟨h1, h2, h3, h4, h5, h6, h7, h8, (onceN_iff _).1 h9, ?_⟩
 rcases h10 with h10 | h10
 · exact .inl h10
 · right
   split at h10
   · rename_i o ho
     simp only [Bool.and_eq_true, decide_eq_true_eq] at h10;exact ⟨o, ho, h10.1, h10.2⟩
   · cases h10
theorem saidK_parts {s : SigP} {o : Bool} (h : saidK s o = true) : s.args.length ≤ 6 ∧ s.sigs.length ≤ 6 ∧ ascK s.sigs = true ∧ (s.iter = true → s.res ≠ []) ∧ ∀ t ∈ typesK s, (checkK t).1 = 0 ∧ (openK t = true → o = true) := by
 unfold saidK at h
 simp only [Bool.and_eq_true, decide_eq_true_eq, List.all_eq_true, Bool.or_eq_true, Bool.not_eq_true', Bool.and_eq_false_iff, decide_eq_false_iff_not] at h
 obtain ⟨⟨⟨⟨h1, h2⟩, h3⟩, h4⟩, h5⟩ := h
 refine ⟨h1, h2, h3, fun h => ?_, fun t ht => ⟨(h5 t ht).1, fun ho => ?_⟩⟩
 · rcases h4 with h4 | h4
   · rw [h] at h4; cases h4
   · exact h4
 · rcases (h5 t ht).2 with h6 | h6
   · rw [ho] at h6; cases h6
   · exact h6
theorem Fo.prs_at : ∀ (fo : Fo) (y : List UInt8 × Tr), y ∈ fo.prs → ∃ i pn, fo.at i = some (pn, y.2)
 | .nil, y, h => by simp [Fo.prs] at h
 | .cons pn k n sub rest, y, h => by
  rw [Fo.prs, List.mem_cons] at h;rcases h with rfl | h
  · exact ⟨0, pn, rfl⟩
  · obtain ⟨i, pn', hi⟩ := Fo.prs_at rest y h
    exact ⟨i + 1, pn', hi⟩
theorem parts_names {t : List UInt8} : (∀ x ∈ (partsK t).1, isName x.1 = true ∧ (checkK x.2).1 = 0) ∧ ((partsK t).1.map (·.1)).Nodup ∧ (partsK t).1.length ≤ 6 := by
 unfold partsK
 by_cases h0 : (ofK t [5, 6]).1 = 0
 · rw [if_pos h0]
   rcases hq : ofK t [5, 6] with ⟨c, T⟩;rw [hq] at h0;simp only at h0;subst h0;obtain ⟨hc, hk⟩ := ofK_ok hq;obtain ⟨o1, e1, l1, v1⟩ := checkK_ok hc;have hk2 : T.k = 5 ∨ T.k = 6 := by simpa using hk
   have hw := rec_wf o1 hk2;obtain ⟨p1, p2⟩ := Wf.parts hw [] rfl;have hl := rec_len o1 hk2;simp only;rw [Fo.pts_prs];have hlen : (T.sub.prs.map fun x => (x.1, x.2.txt)).length ≤ 6 := by
    rw [← Fo.pts_prs];have := Fo.pts_len T.sub;omega
   refine ⟨fun x hx => ?_, ?_, hlen⟩
   · obtain ⟨y, hy, rfl⟩ := List.mem_map.1 hx
     obtain ⟨q1, q2, _, q4⟩ := p1 y hy;refine ⟨q1, ?_⟩;have hin : ∃ i pn, T.sub.at i = some (pn, y.2) := Fo.prs_at T.sub y hy
     obtain ⟨i, pn, hat⟩ := hin;have h1 := T.sub.at_len i pn y.2 hat;have h2 := tx_le_txt T;have h3 := Fo.at_level T.sub i pn y.2 hat;have h4 : T.txt.length ≤ 100 := by rw [e1]; exact l1
     have h5 : T.sub.level + 1 ≤ 6 + 1 := by
      have : T.level = T.sub.level + 1 := rfl;omega
     rw [checkK_small q2 (by omega) (by have : y.2.level = y.2.sub.level + 1 := rfl; have : T.level = T.sub.level + 1 := rfl; omega)]
   · rw [List.map_map]
     exact List.pairwise_map.2 (p2.imp fun h => less_ne h)
 · rw [if_neg h0]
   exact ⟨(fun _ h => by cases h), List.nodup_nil, Nat.zero_le _⟩
end Go.Proofs.YtakgjcfkdemipaaGreatDoor
namespace Go.Proofs.YtakgjcfkdemipaaGreatDoor
open Go.RowKit
def AscO (l : List OpP) : Prop := l.Pairwise fun x y => Op.bytesLess x.name y.name = true
theorem insO_perm (x : OpP) : ∀ l : List OpP, (insO x l).Perm (x :: l)
 | [] => List.Perm.refl _
 | y :: l => by
  unfold insO;split
  · exact ((insO_perm x l).cons y).trans (List.Perm.swap x y l)
  · exact List.Perm.refl _
theorem fold_perm : ∀ (l acc : List OpP), (l.foldl (fun acc x => insO x acc) acc).Perm (acc ++ l)
 | [], acc => by simp
 | x :: l, acc => by
  rw [List.foldl_cons];refine (fold_perm l (insO x acc)).trans ?_;refine ((insO_perm x acc).append_right l).trans ?_;rw [List.cons_append];exact (List.perm_middle (a := x) (l₁ := acc) (l₂ := l)).symm
theorem sortO_perm (l : List OpP) : (sortO l).Perm l := by
 have := fold_perm l []
 simpa [sortO] using this
theorem insO_asc (x : OpP) : ∀ l : List OpP, AscO l → (∀ y ∈ l, y.name ≠ x.name) → AscO (insO x l)
 | [], _, _ => by unfold insO AscO; simp
 | y :: l, h, hn => by
  obtain ⟨h1, h2⟩ := List.pairwise_cons.1 h;unfold insO;split
  · rename_i hl
    refine List.pairwise_cons.2 ⟨fun z hz => ?_, insO_asc x l h2 fun z hz => hn z (List.mem_cons_of_mem _ hz)⟩;rcases List.mem_cons.1 ((insO_perm x l).mem_iff.1 hz) with rfl | hz
    · exact hl
    · exact h1 z hz
  · rename_i hl
    have hxy : Op.bytesLess x.name y.name = true := by
     have := less_total _ _ (by simpa using hl : Op.bytesLess y.name x.name = false);rw [Bool.or_eq_true] at this;rcases this with e | e
     · exact e
     · exact absurd (by simpa using e : x.name = y.name) (fun e => hn y (List.mem_cons_self ..) e.symm)
    refine List.pairwise_cons.2 ⟨fun z hz => ?_, h⟩;rcases List.mem_cons.1 hz with rfl | hz
    · exact hxy
    · exact less_trans _ _ _ hxy (h1 z hz)
theorem fold_asc : ∀ (l acc : List OpP), AscO acc → OnceO (acc ++ l) → AscO (l.foldl (fun acc x => insO x acc) acc)
 | [], acc, h, _ => h
 | x :: l, acc, h, ho => by
  rw [List.foldl_cons];have hp : (acc ++ x :: l).Perm (insO x acc ++ l) := by
   refine List.Perm.trans ?_ ((insO_perm x acc).symm.append_right l);rw [List.cons_append];exact List.perm_middle
  refine fold_asc l _ (insO_asc x acc h fun y hy => ?_) ?_
  · unfold OnceO at ho
    rw [List.map_append, List.map_cons, List.nodup_append] at ho;exact ho.2.2 _ (List.mem_map_of_mem hy) _ (List.mem_cons_self ..)
  · unfold OnceO at *
    exact (hp.map (·.name)).nodup_iff.1 ho
theorem sortO_asc {l : List OpP} (h : OnceO l) : AscO (sortO l) := fold_asc l [] List.Pairwise.nil (by simpa using h)
theorem asc_uniqueO {l m : List OpP} (hl : AscO l) (hm : AscO m) (hp : m.Perm l) : m = l := by
 refine List.Perm.eq_of_pairwise (le := fun (a b : OpP) => Op.bytesLess a.name b.name = true) (fun a b ha hb h1 h2 => ?_) hm hl hp
 rw [less_asymm _ _ h1] at h2
 cases h2
theorem OnceO.perm {l m : List OpP} (h : OnceO l) (hp : m.Perm l) : OnceO m := (hp.map (fun x : OpP => x.name)).nodup_iff.2 h
theorem sort_any {l m : List OpP} (h : OnceO l) (hp : m.Perm l) (hs : m.Pairwise fun x y => Op.bytesLess y.name x.name = false) : m = sortO l := by
 refine asc_uniqueO (sortO_asc h) ?_ (hp.trans (sortO_perm l).symm)
 have hn : m.Pairwise fun x y => x.name ≠ y.name := List.pairwise_map.1 (h.perm hp)
 refine (hs.and hn).imp fun {x y} ⟨h1, h2⟩ => ?_
 have := less_total _ _ h1
 rw [Bool.or_eq_true] at this
 rcases this with e | e
 · exact e
 · exact absurd (by simpa using e : x.name = y.name) h2
theorem once_pairs {A B : List UInt8} (hAB : ∀ x y : List UInt8, A ++ x ≠ B ++ y) : ∀ ns : List (List UInt8), ns.Nodup → (ns.flatMap fun x => [A ++ x, B ++ x]).Nodup ∧ ∀ y, y ∈ (ns.flatMap fun x => [A ++ x, B ++ x]) → ∃ x ∈ ns, y = A ++ x ∨ y = B ++ x
 | [], _ => ⟨by simp, by simp⟩
 | n :: ns, h => by
  obtain ⟨h1, h2⟩ := List.nodup_cons.1 h;obtain ⟨k1, k2⟩ := once_pairs hAB ns h2;have mem : ∀ y, y ∈ ((n :: ns).flatMap fun x => [A ++ x, B ++ x]) → ∃ x ∈ n :: ns, y = A ++ x ∨ y = B ++ x := by
   intro y hy;rw [List.flatMap_cons, List.mem_append] at hy;rcases hy with hy | hy
   · simp only [List.mem_cons, List.not_mem_nil, or_false] at hy
     exact ⟨n, List.mem_cons_self .., hy⟩
   · obtain ⟨x, hx, e⟩ := k2 y hy
     exact ⟨x, List.mem_cons_of_mem _ hx, e⟩
  refine ⟨?_, mem⟩;rw [List.flatMap_cons, List.nodup_append];refine ⟨by simp [hAB], k1, fun a ha b hb e => ?_⟩;obtain ⟨x, hx, e2⟩ := k2 b hb;simp only [List.mem_cons, List.not_mem_nil, or_false] at ha;subst e;rcases ha with ha | ha <;> rcases e2 with e2 | e2
  · rw [ha] at e2
    exact h1 (by rw [List.append_cancel_left e2]; exact hx)
  · rw [ha] at e2; exact hAB _ _ e2
  · rw [ha] at e2; exact hAB _ _ e2.symm
  · rw [ha] at e2
    exact h1 (by rw [List.append_cancel_left e2]; exact hx)
theorem raw_once (c : ScopeP) (t : List UInt8) (hf : ∀ f ∈ c.faces, faceK f = true) (hn : neededK c.needs = true) : OnceO (rawK c t).1 := by
 obtain ⟨p1, p2, p3⟩ := parts_names (t := t)
 unfold rawK OnceO
 simp only
 split
 · exact (show List.Nodup [[101, 113, 117, 97, 108], [108, 101], [108, 116], [97, 100, 100], [115, 117, 98], [109, 117, 108], [100, 105, 118], ([109, 111, 100] : List UInt8)] by decide)
 · exact (show List.Nodup [[101, 113, 117, 97, 108], [97, 110, 100], [111, 114], ([110, 111, 116] : List UInt8)] by decide)
 · exact (show List.Nodup [([101, 113, 117, 97, 108] : List UInt8)] by decide)
 · exact (show List.Nodup [[101, 113, 117, 97, 108], [97, 100, 100, 104], [102, 101, 116, 99, 104], [110, 101, 119], [114, 101, 109, 104], [115, 105, 122, 101], ([115, 116, 111, 114, 101] : List UInt8)] by decide)
 · have e : ∀ ps : List (List UInt8 × List UInt8), (ps.flatMap fun p => [(⟨[103, 101, 116, 95] ++ p.1, sg p.2 [t] []⟩ : OpP), ⟨[115, 101, 116, 95] ++ p.1, sg [] [t, p.2] []⟩]).map (·.name) = (ps.map (·.1)).flatMap fun x => [[103, 101, 116, 95] ++ x, [115, 101, 116, 95] ++ x] := by
    intro ps
    induction ps with
    | nil => rfl
    | cons p ps ih => rw [List.flatMap_cons, List.map_append, ih]; rfl
   obtain ⟨k1, k2⟩ := once_pairs (A := [103, 101, 116, 95]) (B := [115, 101, 116, 95]) (by intro x y e; simp at e) _ p2;rw [List.map_append, List.map_cons, e, List.map_cons, List.map_nil, List.nodup_append];refine ⟨List.nodup_cons.2 ⟨fun h => ?_, k1⟩, by simp, fun a ha b hb e => ?_⟩
   · obtain ⟨x, _, h | h⟩ := k2 _ h <;> simp at h
   · simp only [List.mem_cons, List.not_mem_nil, or_false] at hb
     subst hb;rcases List.mem_cons.1 ha with h | h
     · rw [h] at e; simp at e
     · obtain ⟨x, _, h | h⟩ := k2 _ h <;> (rw [e] at h; simp at h)
 · have e : ∀ ps : List (List UInt8 × List UInt8), (ps.flatMap fun p => [(⟨[105, 115, 95] ++ p.1, sg wBool [t] []⟩ : OpP), ⟨[109, 97, 107, 101, 95] ++ p.1, sg t [p.2] []⟩]).map (·.name) = (ps.map (·.1)).flatMap fun x => [[105, 115, 95] ++ x, [109, 97, 107, 101, 95] ++ x] := by
    intro ps
    induction ps with
    | nil => rfl
    | cons p ps ih => rw [List.flatMap_cons, List.map_append, ih]; rfl
   obtain ⟨k1, k2⟩ := once_pairs (A := [105, 115, 95]) (B := [109, 97, 107, 101, 95]) (by intro x y e; simp at e) _ p2;rw [List.map_cons, e];refine List.nodup_cons.2 ⟨fun h => ?_, k1⟩;obtain ⟨x, _, h | h⟩ := k2 _ h <;> simp at h
 · rcases hq : findK c.faces (baseK t).1 with _ | f
   · exact List.nodup_nil
   · have hm : f ∈ c.faces := List.mem_of_find?_eq_some hq
     exact (faceK_parts (hf f hm)).2.2.2.2.2.2.2.2.1
 · exact neededK_once hn
 · exact List.nodup_nil
theorem once_find {l : List OpP} (h : OnceO l) {o : OpP} (ho : o ∈ l) : l.find? (fun x => decide (x.name = o.name)) = some o := by
 induction l with
 | nil => cases ho
 | cons y l ih =>
  unfold OnceO at h;rw [List.map_cons, List.nodup_cons] at h;rcases List.mem_cons.1 ho with rfl | ho
  · rw [List.find?_cons_of_pos (by simp)]
  · rw [List.find?_cons_of_neg, ih h.2 ho]
    simp only [decide_eq_true_eq];intro e;exact h.1 (by rw [e]; exact List.mem_map_of_mem ho)
end Go.Proofs.YtakgjcfkdemipaaGreatDoor
namespace Go.Proofs.YtakgjcfkdemipaaGreatDoor
open Go.RowKit Go.Maps
def asIs (v : Value) : Option (DataW Value × List MemPlace) := some (.held v, [])
def putsF (l : List (List UInt8 × Value)) : DataW Value := l.foldl (fun d x => d.put (.string x.1) (.held x.2)) (.map [])
theorem putsF_snoc (l : List (List UInt8 × Value)) (x : List UInt8 × Value) : putsF (l ++ [x]) = (putsF l).put (.string x.1) (.held x.2) := by unfold putsF; rw [List.foldl_append]; rfl
theorem putsF_map (l : List (List UInt8 × Value)) : IsMap (putsF l) := by
 have : ∀ (l : List (List UInt8 × Value)) (d : DataW Value), IsMap d → IsMap (l.foldl (fun d x => d.put (.string x.1) (.held x.2)) d) := by
  intro l
  induction l with
  | nil => intro d h; exact h
  | cons x l ih => intro d h; exact ih _ (h.put _ _)
 exact this l _ isMap_empty
def lastF (k : List UInt8) (l : List (List UInt8 × Value)) : Option Value := l.foldl (fun a x => if x.1 = k then some x.2 else a) none
theorem lastF_snoc (k : List UInt8) (l : List (List UInt8 × Value)) (x : List UInt8 × Value) : lastF k (l ++ [x]) = if x.1 = k then some x.2 else lastF k l := by unfold lastF; rw [List.foldl_append]; rfl
theorem putsF_at (k : List UInt8) (z : DataW Value) (l : List (List UInt8 × Value)) : (putsF l).atKey (.string k) z = (match lastF k l with | none => z | some v => .held v) ∧ has (putsF l) (.string k) = (lastF k l).isSome := by
 obtain ⟨r, rfl⟩ : ∃ r, l = r.reverse := ⟨l.reverse, by simp⟩
 induction r with
 | nil => exact ⟨rfl, rfl⟩
 | cons x r ih =>
  rw [List.reverse_cons, putsF_snoc, lastF_snoc]
  by_cases h : x.1 = k
  · subst h
    rw [if_pos rfl];exact ⟨atKey_put_same (putsF_map _) (show WideAt.IsKeyLit (Lit.string x.1) from trivial) _ _, has_put_same (putsF_map _) (show WideAt.IsKeyLit (Lit.string x.1) from trivial) _⟩
  · rw [if_neg h, atKey_put_other (fun e => h (by injection e with e; exact e.symm)), has_put_other (fun e => h (by injection e with e; exact e.symm))]
    exact ih
def FMap (w : World) (m : Nat) (l : List (List UInt8 × Value)) : Prop := w.ownsMap Tryz.prog 9 asIs m l.length (putsF l)
theorem FMap.made (w : World) : FMap (w.alloc (.map #[] 0)) w.heap.size [] := World.ownsMap_made w _ _ _
theorem FMap.kept {w w' : World} {b : Nat} {l : List (List UInt8 × Value)} {row : Option Nat} (h : FMap w b l) (hg : w.grownBy w' row) (hne : some b ≠ row) : FMap w' b l := World.ownsMap.kept h hg hne
theorem FMap.lt {w : World} {b : Nat} {l : List (List UInt8 × Value)} (h : FMap w b l) : b < w.heap.size := World.ownsMap.lt h
theorem FMap.of_block {w w' : World} {b : Nat} {l : List (List UInt8 × Value)} (h : FMap w b l) (hb : w'.heap[b]? = w.heap[b]?) : FMap w' b l := by
 obtain ⟨es, clock, h1, rest⟩ := h
 exact ⟨es, clock, hb.trans h1, rest⟩
theorem FMap.below {w w' : World} {b K : Nat} {l : List (List UInt8 × Value)} (h : FMap w b l) (hb : Below K w w') (hK : w.heap.size ≤ K) : FMap w' b l := h.of_block (hb.block b (Nat.lt_of_lt_of_le h.lt hK))
abbrev face0 : Value := .agg #[str [], .int .u8 0, .bool false, .slice none 0 0, .slice none 0 0]
theorem zeroFace (w : World) : (zeroValue 58).run Tryz.prog w = .ok face0 w := by kernel_rfl
theorem FMap.look {w : World} {b : Nat} {l : List (List UInt8 × Value)} (h : FMap w b l) {k : List UInt8} (hk : k.length ≤ maxLen) :
 (Instr.lookup 82 (.map (some b)) (str k) true).run Tryz.prog w = .ok (.tuple #[(lastF k l).getD face0, .bool (lastF k l).isSome]) w := by
 obtain ⟨v, ps, hrun, hv⟩ := World.ownsMap.look_ok h (string_keyed Tryz.underlying9) Tryz.underlying82 (zeroFace w) (show asIs face0 = some (.held face0, []) from rfl) (WideMaps.keyOf_string_mk (s := ⟨k.toArray⟩) Tryz.underlying9 (by simpa [ByteArray.size] using hk))
 have hA := putsF_at k (.held face0) l
 rw [hrun]
 unfold asIs at hv
 simp only [Option.some.injEq, Prod.mk.injEq] at hv
 have h1 := hv.1
 have h1 : DataW.held v = (putsF l).atKey (Lit.string k) (DataW.held face0) := h1
 rw [hA.1] at h1
 rw [show has (putsF l) (Lit.string (⟨k.toArray⟩ : ByteArray).data.toList) = has (putsF l) (Lit.string k) from rfl, hA.2]
 cases hl : lastF k l <;> (rw [hl] at h1; simp at h1; simp [h1])
theorem wpList_face_put (w : World) {ops : Array Oper} {rest : List Oper} {o : Oper} {a : Act} {Q : Exit → Act → World → Prop}
 (hg : o.guard = none) (m x v : Operand) (hop : o.op = Op.mapUpdate 82 m x v) (b : Nat) (l : List (List UInt8 × Value))
 (hm : a.eval m = .map (some b)) (hown : FMap w b l) (hn : l.length < maxLen) (k : List UInt8) (f : Value) (hx : a.eval x = str k) (hv : a.eval v = f) (hk : k.length ≤ maxLen)
 (hK : ∀ w', FMap w' b (l ++ [(k, f)]) → w.grownBy w' (some b) → wpList Tryz.prog ops Q rest (a.put o.dst undef) w') :
 wpList Tryz.prog ops Q (o :: rest) a w := by
 refine wpList_mapUpdate_own w hg m x v _ hop _ _ (string_keyed Tryz.underlying9) Tryz.underlying82 _ b l.length _ hm hown hn _ _ _ hx hv (WideMaps.keyOf_string_mk (s := ⟨k.toArray⟩) Tryz.underlying9 (by simpa [ByteArray.size] using hk)) (.held f) [] rfl ?_
 intro w' h1 h2
 refine hK w' ?_ h2
 unfold FMap
 rw [putsF_snoc, List.length_append]
 exact h1
def ShelfM (D : Nat → Prop) (w : World) (m : Nat) (fs : List FaceP) : Prop :=
 ∃ L : List (FaceP × Value), L.map (·.1) = fs ∧ FMap w m (L.map fun x => (x.1.name, x.2)) ∧ ∀ x ∈ L, FaceV D w x.2 x.1
theorem ShelfM.below {D : Nat → Prop} {K : Nat} {w w' : World} {m : Nat} {fs : List FaceP} (h : ShelfM D w m fs) (hb : Below K w w') (hK : w.heap.size ≤ K) : ShelfM D w' m fs := by
 obtain ⟨L, h1, h2, h3⟩ := h
 exact ⟨L, h1, h2.below hb hK, fun x hx => (h3 x hx).below hb hK⟩
theorem ShelfM.mono {D D' : Nat → Prop} {w : World} {m : Nat} {fs : List FaceP} (h : ShelfM D w m fs) (hD : ∀ b, D b → D' b) : ShelfM D' w m fs := by
 obtain ⟨L, h1, h2, h3⟩ := h
 exact ⟨L, h1, h2, fun x hx => (h3 x hx).mono hD⟩
theorem ShelfM.set {D : Nat → Prop} {w : World} {m : Nat} {fs : List FaceP} (h : ShelfM D w m fs) {a : Addr} (hm : m ≠ a.block) (ha : ∀ b, D b → b ≠ a.block) (u : Value) : ShelfM D (w.setCell a u) m fs := by
 obtain ⟨L, h1, h2, h3⟩ := h
 exact ⟨L, h1, h2.of_block (heap_setCell_other w a m u hm), fun x hx => (h3 x hx).set ha u⟩
theorem lastF_find (n : List UInt8) : ∀ (L : List (FaceP × Value)) (a : Option Value), (L.map (·.1)).Pairwise (fun f g => f.name ≠ g.name) → (L.map fun x => (x.1.name, x.2)).foldl (fun a x => if x.1 = n then some x.2 else a) a = match L.find? (fun x => decide (x.1.name = n)) with | some x => some x.2 | none => a
 | [], a, _ => rfl
 | x :: L, a, h => by
  rw [List.map_cons, List.pairwise_cons] at h;rw [List.map_cons, List.foldl_cons, lastF_find n L _ h.2]
  by_cases hx : x.1.name = n
  · have hn : L.find? (fun y => decide (y.1.name = n)) = none := by
     rw [List.find?_eq_none];intro y hy;have := h.1 y.1 (List.mem_map_of_mem hy);rw [hx] at this
     simpa using fun e => this e.symm
    rw [hn, List.find?_cons_of_pos (by simpa using hx)];simp [hx]
  · rw [List.find?_cons_of_neg (by simpa using hx)]
    simp [hx]
theorem findK_map (n : List UInt8) : ∀ (L : List (FaceP × Value)), findK (L.map (·.1)) n = (L.find? fun x => decide (x.1.name = n)).map (·.1)
 | [] => rfl
 | x :: L => by
  unfold findK at *;rw [List.map_cons]
  by_cases hx : x.1.name = n
  · rw [List.find?_cons_of_pos (by simpa using hx), List.find?_cons_of_pos (by simpa using hx)]; rfl
  · rw [List.find?_cons_of_neg (by simpa using hx), List.find?_cons_of_neg (by simpa using hx)]
    exact findK_map n L
theorem ShelfM.look {D : Nat → Prop} {w : World} {m : Nat} {fs : List FaceP} (h : ShelfM D w m fs) (ha : Apart fs) {n : List UInt8} (hn : n.length ≤ maxLen) :
 ∃ v, (Instr.lookup 82 (.map (some m)) (str n) true).run Tryz.prog w = .ok (.tuple #[v, .bool (findK fs n).isSome]) w ∧ (findK fs n = none → v = face0) ∧ ∀ f, findK fs n = some f → FaceV D w v f := by
 obtain ⟨L, rfl, h2, h3⟩ := h
 refine ⟨(lastF n (L.map fun x => (x.1.name, x.2))).getD face0, ?_, ?_, ?_⟩
 · rw [h2.look hn]
   have hl : lastF n (L.map fun x => (x.1.name, x.2)) = (L.find? fun x => decide (x.1.name = n)).map (·.2) := by
    unfold lastF;rw [lastF_find n L none ha];cases L.find? (fun x => decide (x.1.name = n)) <;> rfl
   rw [findK_map, hl];simp
 · intro hf
   rw [findK_map, Option.map_eq_none_iff] at hf;unfold lastF;rw [lastF_find n L none ha, hf]
   rfl
 · intro f hf
   rw [findK_map] at hf;unfold lastF;rw [lastF_find n L none ha];rcases hq : L.find? (fun x => decide (x.1.name = n)) with _ | x
   · rw [hq] at hf; cases hf
   · rw [hq] at hf
     simp only [Option.map_some, Option.some.injEq] at hf;subst hf;simp only [hq];exact h3 x (List.mem_of_find?_eq_some hq)
end Go.Proofs.YtakgjcfkdemipaaGreatDoor
