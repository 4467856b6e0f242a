/-
  NARROWER THAN 'FOR EVERY INPUT', by the rows' own cells (each row's printed sentence says how): FaceGoods: laid · FaceOps: laid · FaceSigs: laid · FaceTypes: laid · FacePuts: laid · FaceFits: laid · FaceChecks: laid · FaceMemory: laid · FaceExtends: laid · FaceOrder: laid · FaceReplaces: laid · FaceTexts: laid.
  DERIVED. THE GIVEN ROWS OF THIS SEAT. 12 by the template 'for every input the law returns true; each argument reads behind the call as it read before'; 0 by the template 'total and deterministic' (their statements: YtakgjcfkdemipaaGreatDoorTotals.lean).
  GIVEN WITH THE SEED: the statements are not yours to turn. If you find one false, say at which input.
  Laid BY PROGRAM, IN A SANDBOX (cutbox-rows.mjs): the forced cells as the released guide's own fill.sh prints them over the translation 866ff0d749dbd1dc… (all of the seat's roots in one cut). By AI agents, Wed Nov 11 2026. No macro, syntax, notation, axiom, sorry.
-/
import Derived.Test.YtakgjcfkdemipaaGreatDoorChecked
import GoSem.PinnedTables
import GoSem.Claim
import GoSem.ClaimJoined
import GoSem.ClaimMapViews
import Derived.JoinedTies
import Derived.KernelRfl
namespace Go.Proofs.YtakgjcfkdemipaaGreatDoor
/- THE CELL 'sum', in the pinned program and in every row, IS THE sha256 OF THE DUMP (.gsa) THAT YtakgjcfkdemipaaGreatDoorProg.lean LOADS. Nothing in Lean hashes anything: it is a label: what it is worth is what the hold of that sum in a sandbox is worth. -/
noncomputable def Tryz.pinned : Pinned := { name := "ytakgjcfkdemipaagreatdoor", sum := "866ff0d749dbd1dcd86952d468ec61b850cb81f7685437b8f9a2e4cb15ea332c", checked := Tryz.checked }
namespace Rows
def none {H : Type} : Left H := { results := [], args := [] }

/- WHAT THE LISTED PACKAGE-LEVEL VARIABLES READ AS WHEN THE CALL BEGINS. Each datum BY PROGRAM (the guide's laid-datum.mjs) off the statement by which the dump's own 'gosem.cut.vars' lays the variable. In a bare row this is a premise. The card (YtakgjcfkdemipaaGreatDoorCards.lean) ties it to the program's text. -/
def laid_unicode_White_Space {H : Type} : DataW H := .ptr (.agg [.slice [.agg [.lit (.int .u16 9), .lit (.int .u16 13), .lit (.int .u16 1)], .agg [.lit (.int .u16 32), .lit (.int .u16 133), .lit (.int .u16 101)], .agg [.lit (.int .u16 160), .lit (.int .u16 5760), .lit (.int .u16 5600)], .agg [.lit (.int .u16 8192), .lit (.int .u16 8202), .lit (.int .u16 1)], .agg [.lit (.int .u16 8232), .lit (.int .u16 8233), .lit (.int .u16 1)], .agg [.lit (.int .u16 8239), .lit (.int .u16 8287), .lit (.int .u16 48)], .agg [.lit (.int .u16 12288), .lit (.int .u16 12288), .lit (.int .u16 1)]] [], .nil, .lit (.int .i64 2)])
def laid_strings_asciiSpace {H : Type} : DataW H := .agg [.lit (.int .u8 0), .lit (.int .u8 0), .lit (.int .u8 0), .lit (.int .u8 0), .lit (.int .u8 0), .lit (.int .u8 0), .lit (.int .u8 0), .lit (.int .u8 0), .lit (.int .u8 0), .lit (.int .u8 1), .lit (.int .u8 1), .lit (.int .u8 1), .lit (.int .u8 1), .lit (.int .u8 1), .lit (.int .u8 0), .lit (.int .u8 0), .lit (.int .u8 0), .lit (.int .u8 0), .lit (.int .u8 0), .lit (.int .u8 0), .lit (.int .u8 0), .lit (.int .u8 0), .lit (.int .u8 0), .lit (.int .u8 0), .lit (.int .u8 0), .lit (.int .u8 0), .lit (.int .u8 0), .lit (.int .u8 0), .lit (.int .u8 0), .lit (.int .u8 0), .lit (.int .u8 0), .lit (.int .u8 0), .lit (.int .u8 1), .lit (.int .u8 0), .lit (.int .u8 0), .lit (.int .u8 0), .lit (.int .u8 0), .lit (.int .u8 0), .lit (.int .u8 0), .lit (.int .u8 0), .lit (.int .u8 0), .lit (.int .u8 0), .lit (.int .u8 0), .lit (.int .u8 0), .lit (.int .u8 0), .lit (.int .u8 0), .lit (.int .u8 0), .lit (.int .u8 0), .lit (.int .u8 0), .lit (.int .u8 0), .lit (.int .u8 0), .lit (.int .u8 0), .lit (.int .u8 0), .lit (.int .u8 0), .lit (.int .u8 0), .lit (.int .u8 0), .lit (.int .u8 0), .lit (.int .u8 0), .lit (.int .u8 0), .lit (.int .u8 0), .lit (.int .u8 0), .lit (.int .u8 0), .lit (.int .u8 0), .lit (.int .u8 0), .lit (.int .u8 0), .lit (.int .u8 0), .lit (.int .u8 0), .lit (.int .u8 0), .lit (.int .u8 0), .lit (.int .u8 0), .lit (.int .u8 0), .lit (.int .u8 0), .lit (.int .u8 0), .lit (.int .u8 0), .lit (.int .u8 0), .lit (.int .u8 0), .lit (.int .u8 0), .lit (.int .u8 0), .lit (.int .u8 0), .lit (.int .u8 0), .lit (.int .u8 0), .lit (.int .u8 0), .lit (.int .u8 0), .lit (.int .u8 0), .lit (.int .u8 0), .lit (.int .u8 0), .lit (.int .u8 0), .lit (.int .u8 0), .lit (.int .u8 0), .lit (.int .u8 0), .lit (.int .u8 0), .lit (.int .u8 0), .lit (.int .u8 0), .lit (.int .u8 0), .lit (.int .u8 0), .lit (.int .u8 0), .lit (.int .u8 0), .lit (.int .u8 0), .lit (.int .u8 0), .lit (.int .u8 0), .lit (.int .u8 0), .lit (.int .u8 0), .lit (.int .u8 0), .lit (.int .u8 0), .lit (.int .u8 0), .lit (.int .u8 0), .lit (.int .u8 0), .lit (.int .u8 0), .lit (.int .u8 0), .lit (.int .u8 0), .lit (.int .u8 0), .lit (.int .u8 0), .lit (.int .u8 0), .lit (.int .u8 0), .lit (.int .u8 0), .lit (.int .u8 0), .lit (.int .u8 0), .lit (.int .u8 0), .lit (.int .u8 0), .lit (.int .u8 0), .lit (.int .u8 0), .lit (.int .u8 0), .lit (.int .u8 0), .lit (.int .u8 0), .lit (.int .u8 0), .lit (.int .u8 0), .lit (.int .u8 0), .lit (.int .u8 0), .lit (.int .u8 0), .lit (.int .u8 0), .lit (.int .u8 0), .lit (.int .u8 0), .lit (.int .u8 0), .lit (.int .u8 0), .lit (.int .u8 0), .lit (.int .u8 0), .lit (.int .u8 0), .lit (.int .u8 0), .lit (.int .u8 0), .lit (.int .u8 0), .lit (.int .u8 0), .lit (.int .u8 0), .lit (.int .u8 0), .lit (.int .u8 0), .lit (.int .u8 0), .lit (.int .u8 0), .lit (.int .u8 0), .lit (.int .u8 0), .lit (.int .u8 0), .lit (.int .u8 0), .lit (.int .u8 0), .lit (.int .u8 0), .lit (.int .u8 0), .lit (.int .u8 0), .lit (.int .u8 0), .lit (.int .u8 0), .lit (.int .u8 0), .lit (.int .u8 0), .lit (.int .u8 0), .lit (.int .u8 0), .lit (.int .u8 0), .lit (.int .u8 0), .lit (.int .u8 0), .lit (.int .u8 0), .lit (.int .u8 0), .lit (.int .u8 0), .lit (.int .u8 0), .lit (.int .u8 0), .lit (.int .u8 0), .lit (.int .u8 0), .lit (.int .u8 0), .lit (.int .u8 0), .lit (.int .u8 0), .lit (.int .u8 0), .lit (.int .u8 0), .lit (.int .u8 0), .lit (.int .u8 0), .lit (.int .u8 0), .lit (.int .u8 0), .lit (.int .u8 0), .lit (.int .u8 0), .lit (.int .u8 0), .lit (.int .u8 0), .lit (.int .u8 0), .lit (.int .u8 0), .lit (.int .u8 0), .lit (.int .u8 0), .lit (.int .u8 0), .lit (.int .u8 0), .lit (.int .u8 0), .lit (.int .u8 0), .lit (.int .u8 0), .lit (.int .u8 0), .lit (.int .u8 0), .lit (.int .u8 0), .lit (.int .u8 0), .lit (.int .u8 0), .lit (.int .u8 0), .lit (.int .u8 0), .lit (.int .u8 0), .lit (.int .u8 0), .lit (.int .u8 0), .lit (.int .u8 0), .lit (.int .u8 0), .lit (.int .u8 0), .lit (.int .u8 0), .lit (.int .u8 0), .lit (.int .u8 0), .lit (.int .u8 0), .lit (.int .u8 0), .lit (.int .u8 0), .lit (.int .u8 0), .lit (.int .u8 0), .lit (.int .u8 0), .lit (.int .u8 0), .lit (.int .u8 0), .lit (.int .u8 0), .lit (.int .u8 0), .lit (.int .u8 0), .lit (.int .u8 0), .lit (.int .u8 0), .lit (.int .u8 0), .lit (.int .u8 0), .lit (.int .u8 0), .lit (.int .u8 0), .lit (.int .u8 0), .lit (.int .u8 0), .lit (.int .u8 0), .lit (.int .u8 0), .lit (.int .u8 0), .lit (.int .u8 0), .lit (.int .u8 0), .lit (.int .u8 0), .lit (.int .u8 0), .lit (.int .u8 0), .lit (.int .u8 0), .lit (.int .u8 0), .lit (.int .u8 0), .lit (.int .u8 0), .lit (.int .u8 0), .lit (.int .u8 0), .lit (.int .u8 0), .lit (.int .u8 0), .lit (.int .u8 0), .lit (.int .u8 0), .lit (.int .u8 0), .lit (.int .u8 0), .lit (.int .u8 0), .lit (.int .u8 0), .lit (.int .u8 0), .lit (.int .u8 0), .lit (.int .u8 0), .lit (.int .u8 0), .lit (.int .u8 0), .lit (.int .u8 0), .lit (.int .u8 0)]
def laid_unicode_utf8_acceptRanges {H : Type} : DataW H := .agg [.agg [.lit (.int .u8 128), .lit (.int .u8 191)], .agg [.lit (.int .u8 160), .lit (.int .u8 191)], .agg [.lit (.int .u8 128), .lit (.int .u8 159)], .agg [.lit (.int .u8 144), .lit (.int .u8 191)], .agg [.lit (.int .u8 128), .lit (.int .u8 143)], .agg [.lit (.int .u8 0), .lit (.int .u8 0)], .agg [.lit (.int .u8 0), .lit (.int .u8 0)], .agg [.lit (.int .u8 0), .lit (.int .u8 0)], .agg [.lit (.int .u8 0), .lit (.int .u8 0)], .agg [.lit (.int .u8 0), .lit (.int .u8 0)], .agg [.lit (.int .u8 0), .lit (.int .u8 0)], .agg [.lit (.int .u8 0), .lit (.int .u8 0)], .agg [.lit (.int .u8 0), .lit (.int .u8 0)], .agg [.lit (.int .u8 0), .lit (.int .u8 0)], .agg [.lit (.int .u8 0), .lit (.int .u8 0)], .agg [.lit (.int .u8 0), .lit (.int .u8 0)]]
/-- One of Go's own tables, pinned by name: the form's constant. -/
def laid_unicode_utf8_first : DataW Unit := Go.Pinned.utf8First

/-- 'arguslaw04.FaceGoods': WHATEVER THE INPUT: true; the input reads as it did. -/
def faceGoodsSpec : ChangeSpec := { name := "faceGoods", fn := fun _ => fun
  | [d1, d2, d3, d4] => { results := [.lit (.bool true)], args := [d1, d2, d3, d4] }
  | _ => none }
def faceGoodsRow : OpenClaim := { program := "ytakgjcfkdemipaagreatdoor", sum := "866ff0d749dbd1dcd86952d468ec61b850cb81f7685437b8f9a2e4cb15ea332c", func := "argus/arguslaw04.FaceGoods", spec := "faceGoods", inPlace := ["internal/abi.NoEscape", "internal/bytealg.MakeNoZero", "internal/bytealg.abigen_runtime_cmpstring"], unfollowed := true, recurses := true, named := ["strings.asciiSpace", "unicode.White_Space"], apart := false, laid := [("unicode.White_Space", laid_unicode_White_Space), ("strings.asciiSpace", laid_strings_asciiSpace)] }
def FaceGoodsSaid : Prop := faceGoodsRow.holds Tryz.pinned (OpenSpec.ofChange faceGoodsSpec)

/-- ITS FALSE NEIGHBOUR: 'it returns false'. Refute it at one input. -/
def faceGoodsWrong : ChangeSpec := { name := "faceGoods", fn := fun _ => fun
  | [d1, d2, d3, d4] => { results := [.lit (.bool false)], args := [d1, d2, d3, d4] }
  | _ => none }
def FaceGoodsWrongFalsely : Prop := faceGoodsRow.holds Tryz.pinned (OpenSpec.ofChange faceGoodsWrong)

/-- 'arguslaw04.FaceOps': WHATEVER THE INPUT: true; the input reads as it did. -/
def faceOpsSpec : ChangeSpec := { name := "faceOps", fn := fun _ => fun
  | [d1, d2, d3, d4] => { results := [.lit (.bool true)], args := [d1, d2, d3, d4] }
  | _ => none }
def faceOpsRow : OpenClaim := { program := "ytakgjcfkdemipaagreatdoor", sum := "866ff0d749dbd1dcd86952d468ec61b850cb81f7685437b8f9a2e4cb15ea332c", func := "argus/arguslaw04.FaceOps", spec := "faceOps", inPlace := ["internal/abi.NoEscape", "internal/bytealg.MakeNoZero", "internal/bytealg.abigen_runtime_cmpstring"], unfollowed := true, recurses := true, named := ["strings.asciiSpace", "unicode.White_Space"], apart := false, laid := [("unicode.White_Space", laid_unicode_White_Space), ("strings.asciiSpace", laid_strings_asciiSpace)] }
def FaceOpsSaid : Prop := faceOpsRow.holds Tryz.pinned (OpenSpec.ofChange faceOpsSpec)

/-- ITS FALSE NEIGHBOUR: 'it returns false'. Refute it at one input. -/
def faceOpsWrong : ChangeSpec := { name := "faceOps", fn := fun _ => fun
  | [d1, d2, d3, d4] => { results := [.lit (.bool false)], args := [d1, d2, d3, d4] }
  | _ => none }
def FaceOpsWrongFalsely : Prop := faceOpsRow.holds Tryz.pinned (OpenSpec.ofChange faceOpsWrong)

/-- 'arguslaw04.FaceSigs': WHATEVER THE INPUT: true; the input reads as it did. -/
def faceSigsSpec : ChangeSpec := { name := "faceSigs", fn := fun _ => fun
  | [d1, d2, d3, d4, d5] => { results := [.lit (.bool true)], args := [d1, d2, d3, d4, d5] }
  | _ => none }
def faceSigsRow : OpenClaim := { program := "ytakgjcfkdemipaagreatdoor", sum := "866ff0d749dbd1dcd86952d468ec61b850cb81f7685437b8f9a2e4cb15ea332c", func := "argus/arguslaw04.FaceSigs", spec := "faceSigs", inPlace := ["internal/abi.NoEscape", "internal/bytealg.MakeNoZero", "internal/bytealg.abigen_runtime_cmpstring"], unfollowed := true, recurses := true, named := ["strings.asciiSpace", "unicode.White_Space"], apart := false, laid := [("unicode.White_Space", laid_unicode_White_Space), ("strings.asciiSpace", laid_strings_asciiSpace)] }
def FaceSigsSaid : Prop := faceSigsRow.holds Tryz.pinned (OpenSpec.ofChange faceSigsSpec)

/-- ITS FALSE NEIGHBOUR: 'it returns false'. Refute it at one input. -/
def faceSigsWrong : ChangeSpec := { name := "faceSigs", fn := fun _ => fun
  | [d1, d2, d3, d4, d5] => { results := [.lit (.bool false)], args := [d1, d2, d3, d4, d5] }
  | _ => none }
def FaceSigsWrongFalsely : Prop := faceSigsRow.holds Tryz.pinned (OpenSpec.ofChange faceSigsWrong)

/-- 'arguslaw04.FaceTypes': WHATEVER THE INPUT: true; the input reads as it did. -/
def faceTypesSpec : ChangeSpec := { name := "faceTypes", fn := fun _ => fun
  | [d1, d2, d3] => { results := [.lit (.bool true)], args := [d1, d2, d3] }
  | _ => none }
def faceTypesRow : OpenClaim := { program := "ytakgjcfkdemipaagreatdoor", sum := "866ff0d749dbd1dcd86952d468ec61b850cb81f7685437b8f9a2e4cb15ea332c", func := "argus/arguslaw04.FaceTypes", spec := "faceTypes", inPlace := ["internal/abi.NoEscape", "internal/bytealg.MakeNoZero", "internal/bytealg.abigen_runtime_cmpstring"], unfollowed := true, recurses := true, named := ["strings.asciiSpace", "unicode.White_Space"], apart := false, laid := [("unicode.White_Space", laid_unicode_White_Space), ("strings.asciiSpace", laid_strings_asciiSpace)] }
def FaceTypesSaid : Prop := faceTypesRow.holds Tryz.pinned (OpenSpec.ofChange faceTypesSpec)

/-- ITS FALSE NEIGHBOUR: 'it returns false'. Refute it at one input. -/
def faceTypesWrong : ChangeSpec := { name := "faceTypes", fn := fun _ => fun
  | [d1, d2, d3] => { results := [.lit (.bool false)], args := [d1, d2, d3] }
  | _ => none }
def FaceTypesWrongFalsely : Prop := faceTypesRow.holds Tryz.pinned (OpenSpec.ofChange faceTypesWrong)

/-- 'arguslaw04.FacePuts': WHATEVER THE INPUT: true; the input reads as it did. -/
def facePutsSpec : ChangeSpec := { name := "facePuts", fn := fun _ => fun
  | [d1, d2, d3, d4] => { results := [.lit (.bool true)], args := [d1, d2, d3, d4] }
  | _ => none }
def facePutsRow : OpenClaim := { program := "ytakgjcfkdemipaagreatdoor", sum := "866ff0d749dbd1dcd86952d468ec61b850cb81f7685437b8f9a2e4cb15ea332c", func := "argus/arguslaw04.FacePuts", spec := "facePuts", inPlace := ["internal/abi.NoEscape", "internal/bytealg.MakeNoZero", "internal/bytealg.abigen_runtime_cmpstring"], unfollowed := true, recurses := true, named := ["strings.asciiSpace", "unicode.White_Space"], apart := false, laid := [("unicode.White_Space", laid_unicode_White_Space), ("strings.asciiSpace", laid_strings_asciiSpace)] }
def FacePutsSaid : Prop := facePutsRow.holds Tryz.pinned (OpenSpec.ofChange facePutsSpec)

/-- ITS FALSE NEIGHBOUR: 'it returns false'. Refute it at one input. -/
def facePutsWrong : ChangeSpec := { name := "facePuts", fn := fun _ => fun
  | [d1, d2, d3, d4] => { results := [.lit (.bool false)], args := [d1, d2, d3, d4] }
  | _ => none }
def FacePutsWrongFalsely : Prop := facePutsRow.holds Tryz.pinned (OpenSpec.ofChange facePutsWrong)

/-- 'arguslaw04.FaceFits': WHATEVER THE INPUT: true; the input reads as it did. -/
def faceFitsSpec : ChangeSpec := { name := "faceFits", fn := fun _ => fun
  | [d1, d2, d3, d4, d5] => { results := [.lit (.bool true)], args := [d1, d2, d3, d4, d5] }
  | _ => none }
def faceFitsRow : OpenClaim := { program := "ytakgjcfkdemipaagreatdoor", sum := "866ff0d749dbd1dcd86952d468ec61b850cb81f7685437b8f9a2e4cb15ea332c", func := "argus/arguslaw04.FaceFits", spec := "faceFits", inPlace := ["internal/abi.NoEscape", "internal/bytealg.MakeNoZero", "internal/bytealg.abigen_runtime_cmpstring"], unfollowed := true, recurses := true, named := ["strings.asciiSpace", "unicode.White_Space"], apart := false, laid := [("unicode.White_Space", laid_unicode_White_Space), ("strings.asciiSpace", laid_strings_asciiSpace)] }
def FaceFitsSaid : Prop := faceFitsRow.holds Tryz.pinned (OpenSpec.ofChange faceFitsSpec)

/-- ITS FALSE NEIGHBOUR: 'it returns false'. Refute it at one input. -/
def faceFitsWrong : ChangeSpec := { name := "faceFits", fn := fun _ => fun
  | [d1, d2, d3, d4, d5] => { results := [.lit (.bool false)], args := [d1, d2, d3, d4, d5] }
  | _ => none }
def FaceFitsWrongFalsely : Prop := faceFitsRow.holds Tryz.pinned (OpenSpec.ofChange faceFitsWrong)

/-- 'arguslaw04.FaceChecks': WHATEVER THE INPUT: true; the input reads as it did. -/
def faceChecksSpec : ChangeSpec := { name := "faceChecks", fn := fun _ => fun
  | [d1, d2] => { results := [.lit (.bool true)], args := [d1, d2] }
  | _ => none }
def faceChecksRow : OpenClaim := { program := "ytakgjcfkdemipaagreatdoor", sum := "866ff0d749dbd1dcd86952d468ec61b850cb81f7685437b8f9a2e4cb15ea332c", func := "argus/arguslaw04.FaceChecks", spec := "faceChecks", inPlace := ["internal/abi.NoEscape", "internal/bytealg.MakeNoZero", "internal/bytealg.abigen_runtime_cmpstring"], unfollowed := true, recurses := true, named := ["strings.asciiSpace", "unicode.White_Space"], apart := false, laid := [("unicode.White_Space", laid_unicode_White_Space), ("strings.asciiSpace", laid_strings_asciiSpace)] }
def FaceChecksSaid : Prop := faceChecksRow.holds Tryz.pinned (OpenSpec.ofChange faceChecksSpec)

/-- ITS FALSE NEIGHBOUR: 'it returns false'. Refute it at one input. -/
def faceChecksWrong : ChangeSpec := { name := "faceChecks", fn := fun _ => fun
  | [d1, d2] => { results := [.lit (.bool false)], args := [d1, d2] }
  | _ => none }
def FaceChecksWrongFalsely : Prop := faceChecksRow.holds Tryz.pinned (OpenSpec.ofChange faceChecksWrong)

/-- 'arguslaw04.FaceMemory': WHATEVER THE INPUT: true; the input reads as it did. -/
def faceMemorySpec : ChangeSpec := { name := "faceMemory", fn := fun _ => fun
  | [d1, d2, d3, d4] => { results := [.lit (.bool true)], args := [d1, d2, d3, d4] }
  | _ => none }
def faceMemoryRow : OpenClaim := { program := "ytakgjcfkdemipaagreatdoor", sum := "866ff0d749dbd1dcd86952d468ec61b850cb81f7685437b8f9a2e4cb15ea332c", func := "argus/arguslaw04.FaceMemory", spec := "faceMemory", inPlace := ["internal/abi.NoEscape", "internal/bytealg.MakeNoZero", "internal/bytealg.abigen_runtime_cmpstring"], unfollowed := true, recurses := true, named := ["strings.asciiSpace", "unicode.White_Space"], apart := false, laid := [("unicode.White_Space", laid_unicode_White_Space), ("strings.asciiSpace", laid_strings_asciiSpace)] }
def FaceMemorySaid : Prop := faceMemoryRow.holds Tryz.pinned (OpenSpec.ofChange faceMemorySpec)

/-- ITS FALSE NEIGHBOUR: 'it returns false'. Refute it at one input. -/
def faceMemoryWrong : ChangeSpec := { name := "faceMemory", fn := fun _ => fun
  | [d1, d2, d3, d4] => { results := [.lit (.bool false)], args := [d1, d2, d3, d4] }
  | _ => none }
def FaceMemoryWrongFalsely : Prop := faceMemoryRow.holds Tryz.pinned (OpenSpec.ofChange faceMemoryWrong)

/-- 'arguslaw04.FaceExtends': WHATEVER THE INPUT: true; the input reads as it did. -/
def faceExtendsSpec : ChangeSpec := { name := "faceExtends", fn := fun _ => fun
  | [d1, d2] => { results := [.lit (.bool true)], args := [d1, d2] }
  | _ => none }
def faceExtendsRow : OpenClaim := { program := "ytakgjcfkdemipaagreatdoor", sum := "866ff0d749dbd1dcd86952d468ec61b850cb81f7685437b8f9a2e4cb15ea332c", func := "argus/arguslaw04.FaceExtends", spec := "faceExtends", inPlace := ["internal/abi.NoEscape", "internal/bytealg.MakeNoZero", "internal/bytealg.abigen_runtime_cmpstring"], unfollowed := true, recurses := true, named := ["strings.asciiSpace", "unicode.White_Space"], apart := false, laid := [("unicode.White_Space", laid_unicode_White_Space), ("strings.asciiSpace", laid_strings_asciiSpace)] }
def FaceExtendsSaid : Prop := faceExtendsRow.holds Tryz.pinned (OpenSpec.ofChange faceExtendsSpec)

/-- ITS FALSE NEIGHBOUR: 'it returns false'. Refute it at one input. -/
def faceExtendsWrong : ChangeSpec := { name := "faceExtends", fn := fun _ => fun
  | [d1, d2] => { results := [.lit (.bool false)], args := [d1, d2] }
  | _ => none }
def FaceExtendsWrongFalsely : Prop := faceExtendsRow.holds Tryz.pinned (OpenSpec.ofChange faceExtendsWrong)

/-- 'arguslaw04.FaceOrder': WHATEVER THE INPUT: true; the input reads as it did. -/
def faceOrderSpec : ChangeSpec := { name := "faceOrder", fn := fun _ => fun
  | [d1, d2, d3] => { results := [.lit (.bool true)], args := [d1, d2, d3] }
  | _ => none }
def faceOrderRow : OpenClaim := { program := "ytakgjcfkdemipaagreatdoor", sum := "866ff0d749dbd1dcd86952d468ec61b850cb81f7685437b8f9a2e4cb15ea332c", func := "argus/arguslaw04.FaceOrder", spec := "faceOrder", inPlace := ["internal/abi.NoEscape", "internal/bytealg.MakeNoZero", "internal/bytealg.abigen_runtime_cmpstring"], unfollowed := true, recurses := true, named := ["strings.asciiSpace", "unicode.White_Space"], apart := false, laid := [("unicode.White_Space", laid_unicode_White_Space), ("strings.asciiSpace", laid_strings_asciiSpace)] }
def FaceOrderSaid : Prop := faceOrderRow.holds Tryz.pinned (OpenSpec.ofChange faceOrderSpec)

/-- ITS FALSE NEIGHBOUR: 'it returns false'. Refute it at one input. -/
def faceOrderWrong : ChangeSpec := { name := "faceOrder", fn := fun _ => fun
  | [d1, d2, d3] => { results := [.lit (.bool false)], args := [d1, d2, d3] }
  | _ => none }
def FaceOrderWrongFalsely : Prop := faceOrderRow.holds Tryz.pinned (OpenSpec.ofChange faceOrderWrong)

/-- 'arguslaw04.FaceReplaces': WHATEVER THE INPUT: true; the input reads as it did. -/
def faceReplacesSpec : ChangeSpec := { name := "faceReplaces", fn := fun _ => fun
  | [d1, d2, d3, d4, d5] => { results := [.lit (.bool true)], args := [d1, d2, d3, d4, d5] }
  | _ => none }
def faceReplacesRow : OpenClaim := { program := "ytakgjcfkdemipaagreatdoor", sum := "866ff0d749dbd1dcd86952d468ec61b850cb81f7685437b8f9a2e4cb15ea332c", func := "argus/arguslaw04.FaceReplaces", spec := "faceReplaces", inPlace := ["internal/abi.NoEscape", "internal/bytealg.MakeNoZero", "internal/bytealg.abigen_runtime_cmpstring"], unfollowed := true, recurses := true, named := ["strings.asciiSpace", "unicode.White_Space"], apart := false, laid := [("unicode.White_Space", laid_unicode_White_Space), ("strings.asciiSpace", laid_strings_asciiSpace)] }
def FaceReplacesSaid : Prop := faceReplacesRow.holds Tryz.pinned (OpenSpec.ofChange faceReplacesSpec)

/-- ITS FALSE NEIGHBOUR: 'it returns false'. Refute it at one input. -/
def faceReplacesWrong : ChangeSpec := { name := "faceReplaces", fn := fun _ => fun
  | [d1, d2, d3, d4, d5] => { results := [.lit (.bool false)], args := [d1, d2, d3, d4, d5] }
  | _ => none }
def FaceReplacesWrongFalsely : Prop := faceReplacesRow.holds Tryz.pinned (OpenSpec.ofChange faceReplacesWrong)

/-- 'arguslaw04.FaceTexts': WHATEVER THE INPUT: true; the input reads as it did. -/
def faceTextsSpec : ChangeSpec := { name := "faceTexts", fn := fun _ => fun
  | [d1, d2] => { results := [.lit (.bool true)], args := [d1, d2] }
  | _ => none }
def faceTextsRow : OpenClaim := { program := "ytakgjcfkdemipaagreatdoor", sum := "866ff0d749dbd1dcd86952d468ec61b850cb81f7685437b8f9a2e4cb15ea332c", func := "argus/arguslaw04.FaceTexts", spec := "faceTexts", inPlace := ["internal/abi.NoEscape", "internal/bytealg.MakeNoZero", "internal/bytealg.abigen_runtime_cmpstring", "internal/bytealg.CountString", "internal/bytealg.IndexByteString", "internal/bytealg.IndexString"], unfollowed := true, recurses := true, named := ["strings.asciiSpace", "unicode.White_Space", "unicode/utf8.first", "unicode/utf8.acceptRanges", "internal/bytealg.MaxLen"], apart := false, laid := [("unicode/utf8.acceptRanges", laid_unicode_utf8_acceptRanges), ("unicode.White_Space", laid_unicode_White_Space), ("strings.asciiSpace", laid_strings_asciiSpace), ("unicode/utf8.first", laid_unicode_utf8_first)] }
def FaceTextsSaid : Prop := faceTextsRow.holds Tryz.pinned (OpenSpec.ofChange faceTextsSpec)

/-- ITS FALSE NEIGHBOUR: 'it returns false'. Refute it at one input. -/
def faceTextsWrong : ChangeSpec := { name := "faceTexts", fn := fun _ => fun
  | [d1, d2] => { results := [.lit (.bool false)], args := [d1, d2] }
  | _ => none }
def FaceTextsWrongFalsely : Prop := faceTextsRow.holds Tryz.pinned (OpenSpec.ofChange faceTextsWrong)

/- THE SECOND FORM. 'bulk': how many values and letters a reading holds, each counted each time it is reached (what is shared counts as often as it is met; a slice's spare places count too). A statement '..UptoSaid' is the law's where the arguments, and the package variables that the reading takes, are together of bulk at most 1048576: NARROWER than '..Said'. Prove '..Said' where nothing that the law and all that it calls make is longer than what came in: it says more and counts as full. Else prove '..UptoSaid'. A law counts once. -/
mutual
def uptoBulk {H : Type} : DataW H → Nat
  | .lit (.string bytes) => bytes.length + 1
  | .lit _ => 1
  | .nil => 1
  | .ptr d => uptoBulk d + 1
  | .slice elems spare => uptoBulkAll elems + uptoBulkAll spare + 1
  | .agg parts => uptoBulkAll parts + 1
  | .iface _ d => uptoBulk d + 1
  | .map entries => uptoBulkEntries entries + 1
  | .held _ => 1
def uptoBulkAll {H : Type} : List (DataW H) → Nat
  | [] => 0
  | d :: r => uptoBulk d + uptoBulkAll r
def uptoBulkEntries {H : Type} : List (Lit × DataW H) → Nat
  | [] => 0
  | x :: r => uptoBulkEntry x + uptoBulkEntries r
def uptoBulkEntry {H : Type} : Lit × DataW H → Nat
  | (.string bytes, d) => bytes.length + uptoBulk d + 1
  | (_, d) => uptoBulk d + 1
 end
def uptoSmall : (H : Type) → List (DataW H) → Bool := fun _ ds => decide (uptoBulkAll ds ≤ 1048576)
def OpenSpec.upto (s : _root_.Go.ChangeSpec) : _root_.Go.OpenSpec := { _root_.Go.OpenSpec.ofChange s with cond := some uptoSmall }

/-- 'arguslaw04.FaceGoods', WHERE WHAT IT READS IS OF BULK AT MOST 1048576: true; the input reads as it did. -/
def faceGoodsUptoRow : OpenClaim := { program := "ytakgjcfkdemipaagreatdoor", sum := "866ff0d749dbd1dcd86952d468ec61b850cb81f7685437b8f9a2e4cb15ea332c", func := "argus/arguslaw04.FaceGoods", spec := "faceGoods", inPlace := ["internal/abi.NoEscape", "internal/bytealg.MakeNoZero", "internal/bytealg.abigen_runtime_cmpstring"], unfollowed := true, recurses := true, named := ["strings.asciiSpace", "unicode.White_Space"], apart := false, laid := [("unicode.White_Space", laid_unicode_White_Space), ("strings.asciiSpace", laid_strings_asciiSpace)], narrowed := true }
def FaceGoodsUptoSaid : Prop := faceGoodsUptoRow.holds Tryz.pinned (OpenSpec.upto faceGoodsSpec)

/-- 'arguslaw04.FaceOps', WHERE WHAT IT READS IS OF BULK AT MOST 1048576: true; the input reads as it did. -/
def faceOpsUptoRow : OpenClaim := { program := "ytakgjcfkdemipaagreatdoor", sum := "866ff0d749dbd1dcd86952d468ec61b850cb81f7685437b8f9a2e4cb15ea332c", func := "argus/arguslaw04.FaceOps", spec := "faceOps", inPlace := ["internal/abi.NoEscape", "internal/bytealg.MakeNoZero", "internal/bytealg.abigen_runtime_cmpstring"], unfollowed := true, recurses := true, named := ["strings.asciiSpace", "unicode.White_Space"], apart := false, laid := [("unicode.White_Space", laid_unicode_White_Space), ("strings.asciiSpace", laid_strings_asciiSpace)], narrowed := true }
def FaceOpsUptoSaid : Prop := faceOpsUptoRow.holds Tryz.pinned (OpenSpec.upto faceOpsSpec)

/-- 'arguslaw04.FaceSigs', WHERE WHAT IT READS IS OF BULK AT MOST 1048576: true; the input reads as it did. -/
def faceSigsUptoRow : OpenClaim := { program := "ytakgjcfkdemipaagreatdoor", sum := "866ff0d749dbd1dcd86952d468ec61b850cb81f7685437b8f9a2e4cb15ea332c", func := "argus/arguslaw04.FaceSigs", spec := "faceSigs", inPlace := ["internal/abi.NoEscape", "internal/bytealg.MakeNoZero", "internal/bytealg.abigen_runtime_cmpstring"], unfollowed := true, recurses := true, named := ["strings.asciiSpace", "unicode.White_Space"], apart := false, laid := [("unicode.White_Space", laid_unicode_White_Space), ("strings.asciiSpace", laid_strings_asciiSpace)], narrowed := true }
def FaceSigsUptoSaid : Prop := faceSigsUptoRow.holds Tryz.pinned (OpenSpec.upto faceSigsSpec)

/-- 'arguslaw04.FaceTypes', WHERE WHAT IT READS IS OF BULK AT MOST 1048576: true; the input reads as it did. -/
def faceTypesUptoRow : OpenClaim := { program := "ytakgjcfkdemipaagreatdoor", sum := "866ff0d749dbd1dcd86952d468ec61b850cb81f7685437b8f9a2e4cb15ea332c", func := "argus/arguslaw04.FaceTypes", spec := "faceTypes", inPlace := ["internal/abi.NoEscape", "internal/bytealg.MakeNoZero", "internal/bytealg.abigen_runtime_cmpstring"], unfollowed := true, recurses := true, named := ["strings.asciiSpace", "unicode.White_Space"], apart := false, laid := [("unicode.White_Space", laid_unicode_White_Space), ("strings.asciiSpace", laid_strings_asciiSpace)], narrowed := true }
def FaceTypesUptoSaid : Prop := faceTypesUptoRow.holds Tryz.pinned (OpenSpec.upto faceTypesSpec)

/-- 'arguslaw04.FacePuts', WHERE WHAT IT READS IS OF BULK AT MOST 1048576: true; the input reads as it did. -/
def facePutsUptoRow : OpenClaim := { program := "ytakgjcfkdemipaagreatdoor", sum := "866ff0d749dbd1dcd86952d468ec61b850cb81f7685437b8f9a2e4cb15ea332c", func := "argus/arguslaw04.FacePuts", spec := "facePuts", inPlace := ["internal/abi.NoEscape", "internal/bytealg.MakeNoZero", "internal/bytealg.abigen_runtime_cmpstring"], unfollowed := true, recurses := true, named := ["strings.asciiSpace", "unicode.White_Space"], apart := false, laid := [("unicode.White_Space", laid_unicode_White_Space), ("strings.asciiSpace", laid_strings_asciiSpace)], narrowed := true }
def FacePutsUptoSaid : Prop := facePutsUptoRow.holds Tryz.pinned (OpenSpec.upto facePutsSpec)

/-- 'arguslaw04.FaceFits', WHERE WHAT IT READS IS OF BULK AT MOST 1048576: true; the input reads as it did. -/
def faceFitsUptoRow : OpenClaim := { program := "ytakgjcfkdemipaagreatdoor", sum := "866ff0d749dbd1dcd86952d468ec61b850cb81f7685437b8f9a2e4cb15ea332c", func := "argus/arguslaw04.FaceFits", spec := "faceFits", inPlace := ["internal/abi.NoEscape", "internal/bytealg.MakeNoZero", "internal/bytealg.abigen_runtime_cmpstring"], unfollowed := true, recurses := true, named := ["strings.asciiSpace", "unicode.White_Space"], apart := false, laid := [("unicode.White_Space", laid_unicode_White_Space), ("strings.asciiSpace", laid_strings_asciiSpace)], narrowed := true }
def FaceFitsUptoSaid : Prop := faceFitsUptoRow.holds Tryz.pinned (OpenSpec.upto faceFitsSpec)

/-- 'arguslaw04.FaceChecks', WHERE WHAT IT READS IS OF BULK AT MOST 1048576: true; the input reads as it did. -/
def faceChecksUptoRow : OpenClaim := { program := "ytakgjcfkdemipaagreatdoor", sum := "866ff0d749dbd1dcd86952d468ec61b850cb81f7685437b8f9a2e4cb15ea332c", func := "argus/arguslaw04.FaceChecks", spec := "faceChecks", inPlace := ["internal/abi.NoEscape", "internal/bytealg.MakeNoZero", "internal/bytealg.abigen_runtime_cmpstring"], unfollowed := true, recurses := true, named := ["strings.asciiSpace", "unicode.White_Space"], apart := false, laid := [("unicode.White_Space", laid_unicode_White_Space), ("strings.asciiSpace", laid_strings_asciiSpace)], narrowed := true }
def FaceChecksUptoSaid : Prop := faceChecksUptoRow.holds Tryz.pinned (OpenSpec.upto faceChecksSpec)

/-- 'arguslaw04.FaceMemory', WHERE WHAT IT READS IS OF BULK AT MOST 1048576: true; the input reads as it did. -/
def faceMemoryUptoRow : OpenClaim := { program := "ytakgjcfkdemipaagreatdoor", sum := "866ff0d749dbd1dcd86952d468ec61b850cb81f7685437b8f9a2e4cb15ea332c", func := "argus/arguslaw04.FaceMemory", spec := "faceMemory", inPlace := ["internal/abi.NoEscape", "internal/bytealg.MakeNoZero", "internal/bytealg.abigen_runtime_cmpstring"], unfollowed := true, recurses := true, named := ["strings.asciiSpace", "unicode.White_Space"], apart := false, laid := [("unicode.White_Space", laid_unicode_White_Space), ("strings.asciiSpace", laid_strings_asciiSpace)], narrowed := true }
def FaceMemoryUptoSaid : Prop := faceMemoryUptoRow.holds Tryz.pinned (OpenSpec.upto faceMemorySpec)

/-- 'arguslaw04.FaceExtends', WHERE WHAT IT READS IS OF BULK AT MOST 1048576: true; the input reads as it did. -/
def faceExtendsUptoRow : OpenClaim := { program := "ytakgjcfkdemipaagreatdoor", sum := "866ff0d749dbd1dcd86952d468ec61b850cb81f7685437b8f9a2e4cb15ea332c", func := "argus/arguslaw04.FaceExtends", spec := "faceExtends", inPlace := ["internal/abi.NoEscape", "internal/bytealg.MakeNoZero", "internal/bytealg.abigen_runtime_cmpstring"], unfollowed := true, recurses := true, named := ["strings.asciiSpace", "unicode.White_Space"], apart := false, laid := [("unicode.White_Space", laid_unicode_White_Space), ("strings.asciiSpace", laid_strings_asciiSpace)], narrowed := true }
def FaceExtendsUptoSaid : Prop := faceExtendsUptoRow.holds Tryz.pinned (OpenSpec.upto faceExtendsSpec)

/-- 'arguslaw04.FaceOrder', WHERE WHAT IT READS IS OF BULK AT MOST 1048576: true; the input reads as it did. -/
def faceOrderUptoRow : OpenClaim := { program := "ytakgjcfkdemipaagreatdoor", sum := "866ff0d749dbd1dcd86952d468ec61b850cb81f7685437b8f9a2e4cb15ea332c", func := "argus/arguslaw04.FaceOrder", spec := "faceOrder", inPlace := ["internal/abi.NoEscape", "internal/bytealg.MakeNoZero", "internal/bytealg.abigen_runtime_cmpstring"], unfollowed := true, recurses := true, named := ["strings.asciiSpace", "unicode.White_Space"], apart := false, laid := [("unicode.White_Space", laid_unicode_White_Space), ("strings.asciiSpace", laid_strings_asciiSpace)], narrowed := true }
def FaceOrderUptoSaid : Prop := faceOrderUptoRow.holds Tryz.pinned (OpenSpec.upto faceOrderSpec)

/-- 'arguslaw04.FaceReplaces', WHERE WHAT IT READS IS OF BULK AT MOST 1048576: true; the input reads as it did. -/
def faceReplacesUptoRow : OpenClaim := { program := "ytakgjcfkdemipaagreatdoor", sum := "866ff0d749dbd1dcd86952d468ec61b850cb81f7685437b8f9a2e4cb15ea332c", func := "argus/arguslaw04.FaceReplaces", spec := "faceReplaces", inPlace := ["internal/abi.NoEscape", "internal/bytealg.MakeNoZero", "internal/bytealg.abigen_runtime_cmpstring"], unfollowed := true, recurses := true, named := ["strings.asciiSpace", "unicode.White_Space"], apart := false, laid := [("unicode.White_Space", laid_unicode_White_Space), ("strings.asciiSpace", laid_strings_asciiSpace)], narrowed := true }
def FaceReplacesUptoSaid : Prop := faceReplacesUptoRow.holds Tryz.pinned (OpenSpec.upto faceReplacesSpec)

/-- 'arguslaw04.FaceTexts', WHERE WHAT IT READS IS OF BULK AT MOST 1048576: true; the input reads as it did. -/
def faceTextsUptoRow : OpenClaim := { program := "ytakgjcfkdemipaagreatdoor", sum := "866ff0d749dbd1dcd86952d468ec61b850cb81f7685437b8f9a2e4cb15ea332c", func := "argus/arguslaw04.FaceTexts", spec := "faceTexts", inPlace := ["internal/abi.NoEscape", "internal/bytealg.MakeNoZero", "internal/bytealg.abigen_runtime_cmpstring", "internal/bytealg.CountString", "internal/bytealg.IndexByteString", "internal/bytealg.IndexString"], unfollowed := true, recurses := true, named := ["strings.asciiSpace", "unicode.White_Space", "unicode/utf8.first", "unicode/utf8.acceptRanges", "internal/bytealg.MaxLen"], apart := false, laid := [("unicode/utf8.acceptRanges", laid_unicode_utf8_acceptRanges), ("unicode.White_Space", laid_unicode_White_Space), ("strings.asciiSpace", laid_strings_asciiSpace), ("unicode/utf8.first", laid_unicode_utf8_first)], narrowed := true }
def FaceTextsUptoSaid : Prop := faceTextsUptoRow.holds Tryz.pinned (OpenSpec.upto faceTextsSpec)

end Rows
end Go.Proofs.YtakgjcfkdemipaaGreatDoor
