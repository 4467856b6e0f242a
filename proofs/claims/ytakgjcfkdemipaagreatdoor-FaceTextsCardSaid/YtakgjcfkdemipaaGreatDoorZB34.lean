/-
  Lemmas for the statement: what a row's list of laid variables gives: strings.asciiSpace holds its table; a world that meets the list. Conditions: bounds of lengths; the variable strings.asciiSpace.
-/
import Derived.Deep.DeepWitnessRowRef
import Derived.LaidMore
import Derived.OpenShut
import Derived.ProofKit
import Derived.Test.YtakgjcfkdemipaaGreatDoorCards
import Derived.Test.YtakgjcfkdemipaaGreatDoorTie
import Derived.Test.YtakgjcfkdemipaaGreatDoorZB15
namespace Go.Proofs.YtakgjcfkdemipaaGreatDoor
open Go.ChangeShapes Go.WideShapes Go.ChangeAt Go.RowKit
theorem own:ownKnob Tryz.prog.godebug=none:=by kernel_rfl
theorem Dz:(Tryz.prog.globals[1]?).map (·.type)=some 279:=by kernel_rfl
theorem Dp:Tryz.prog.cellsOf 279=256:=by kernel_rfl
theorem FG:Tryz.prog.cellsOf 5=1:=by kernel_rfl
def Hh:List (String×DataW Unit):=[("unicode.White_Space",Rows.laid_unicode_White_Space),("strings.asciiSpace",Rows.laid_strings_asciiSpace)]
theorem Gb:(Rows.laid_strings_asciiSpace:DataW Unit)=Lib.tabData .u8 Lib.asciiSpaceTab:=by kernel_rfl
theorem HH {W:World} (h0:laidMetH Tryz.prog Hh W):dW W:=by
 rw[MakeChecks.laidMetH_plain _ _ _ (by kernel_rfl)] at h0
 obtain⟨ps,⟨g0,t0,cs0,f0,p0,q0,lp,zD,P4,Fy,⟨g1,t1,TT,f1,p1,q1,hg1,ht1,tN,yV,_,_⟩,_⟩,_,_⟩:=h0
 obtain rfl:=Option.some.inj (Dy.symm.trans hg1)
 obtain rfl:=Option.some.inj (Dz.symm.trans ht1)
 rw[Gb] at yV
 unfold dW Lib.TabIs
 rw[tN,←Lib.cells_of_tab Tryz.underlying279 Tryz.underlying5 FG Dp yV]
theorem J8 (os:Os) (args:Array Value):laidMet Tryz.prog Hh ((World.doorLaid Tryz.prog 400 os).forCall (λ_ _=>0) ⟨#[],args,[]⟩).memory:=
 laidMet_of_run' 8 (by kernel_rfl) (by kernel_rfl)
end Go.Proofs.YtakgjcfkdemipaaGreatDoor
