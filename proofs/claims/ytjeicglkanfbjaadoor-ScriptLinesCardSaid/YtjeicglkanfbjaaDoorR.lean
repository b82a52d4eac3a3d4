/- What each of this seat's rows gives of the library's variables, and a world in which they are laid. -/
import Derived.Test.YtjeicglkanfbjaaDoorCards
import Derived.Test.YtjeicglkanfbjaaDoorTie
import Derived.Test.YtjeicglkanfbjaaDoorG
import Derived.Deep.DeepHandedRow
import Derived.Deep.DeepWitnessRowRef
import Derived.Lib.LaidTab
import Derived.LaidSub
import Derived.Lay
import Derived.MakeChecks
import Derived.Shelf.Vars
namespace Go.Proofs.YtjeicglkanfbjaaDoor.R
open Go.ChangeShapes Go.WideShapes Go.ChangeAt Go.RowKit
def laidL : List (String × DataW Unit) := Rows.scriptPartsRow.laid
theorem own : ownKnob Tryd.prog.godebug = none := by kernel_rfl
theorem plainL : (laidL.all fun x => x.2.handleName?.isNone) = true := by kernel_rfl
theorem only : (laidL.filter fun x => x.1 == "internal/strconv.uint64pow10") = [("internal/strconv.uint64pow10", Lib.tabData .u64 Lib.pow10Tab)] := by kernel_rfl
set_option maxRecDepth 100000 in
theorem gOf {W : World} (hL : laidMetH Tryd.prog laidL W) (hsh : W.ShapedOpen Tryd.prog) : GW W := by
  rw [MakeChecks.laidMetH_plain _ _ _ plainL] at hL
  have h := laidMet.filter (fun x => x.1 == "internal/strconv.uint64pow10") hL
  rw [only] at h
  refine ⟨?_, Lib.tabIs_of_head (rest := []) (g := 1) (t := 101) (by kernel_rfl) (by kernel_rfl) Tryd.underlying101 Tryd.underlying87 (by kernel_rfl) (by kernel_rfl) h⟩
  exact cell_of_shapedOpen_int (P := Tryd.prog) (g := 0) (t := 3) (zero := #[.int .i64 0]) hsh (of_decide_eq_true (by kernel_rfl)) (by kernel_rfl) rfl (by kernel_rfl) (by kernel_rfl) Tryd.underlying3
noncomputable def laidW (os : Os) : World := World.laidAll Tryd.prog os laidL
theorem laid_met (os : Os) (args : Array Value) : laidMetH Tryd.prog laidL ((laidW os).forCall (fun _ _ => 0) ⟨#[], args, []⟩).memory := by
  rw [MakeChecks.laidMetH_plain _ _ _ plainL]
  exact laidMet_laidAll _ (by kernel_rfl) (by kernel_rfl)
end Go.Proofs.YtjeicglkanfbjaaDoor.R
