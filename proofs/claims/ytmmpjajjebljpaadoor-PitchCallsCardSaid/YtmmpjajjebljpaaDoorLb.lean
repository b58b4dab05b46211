/- The listed table reads as the walks ask; the law PitchAdds. -/
import Derived.Test.YtmmpjajjebljpaaDoorLa
import Derived.Test.YtmmpjajjebljpaaDoorPj
namespace Go.Proofs.YtmmpjajjebljpaaDoor
open Go.ChangeShapes Go.WideShapes Go.ChangeAt Go.RowKit Go.WideElems


/-- How many steps the door takes. -/
def Door : Nat := 14
def Lst : List (String × DataW Unit) := [("tactus/pitch.halves", Rows.laid_tactus_pitch_halves)]
theorem door_met (os : Os) (args : Array Value) : laidMetH Tryd.prog Lst ((World.doorLaid Tryd.prog Door os).forCall (fun _ _ => 0) ⟨#[], args, []⟩).memory :=
  laidMetH_of_parts3 (fuel := 8) (laidMet_of_run' 8 (by kernel_rfl) (by kernel_rfl)) (by kernel_rfl) (by kernel_rfl)
theorem tab_of {W : World} (h : laidMetH Tryd.prog Lst W) : Tab W := by
  rw [MakeChecks.laidMetH_plain _ _ _ (by kernel_rfl)] at h
  have T : Lib.TabIs Tryd.prog W "tactus/pitch.halves" .i64 [0, 2, 4, 5, 7, 9, 11] :=
    Lib.tabIs_of_head (g := 0) (t := 61) (e := 3) (n := 7) (rest := []) (by kernel_rfl) (by kernel_rfl) Tryd.underlying61 Tryd.underlying3 (by kernel_rfl) (by kernel_rfl) h
  have c := fun i hi => T.cell (g := 0) (by kernel_rfl) i hi
  exact ⟨cell_lt (c 0 (by decide)), c 0 (by decide), c 1 (by decide), c 2 (by decide), c 3 (by decide), c 4 (by decide), c 5 (by decide), c 6 (by decide)⟩
end Go.Proofs.YtmmpjajjebljpaaDoor
