/- SameInts of the references, and readings of rows. -/
import Derived.Test.YtodbgjnccngljaaGreatDoorJ3
import Derived.Test.YtodbgjnccngljaaGreatDoorChecked
import Derived.WalkLawsBesides
import Derived.Lib.Hide
import Derived.Deep.OwnRows
import Derived.Deep.QuietTactic
import Derived.BigQuiet
namespace Go.Proofs.YtodbgjnccngljaaGreatDoor
open Go Go.RowKit Go.Deep
theorem own : ownKnob Tryz.prog.godebug = none := by kernel_rfl
theorem laidOut : laidOutB Tryz.prog = true := by kernel_rfl
theorem Reads.drewN {w : World} {B size n : Nat} {A : Option Addr} {xs : List Value} (h : Reads w B size A n xs) (k : Nat) : Reads (w.drewN k) B size A n xs := h
def sameL : List Int → List Int → Bool := fun a b => a == b
end Go.Proofs.YtodbgjnccngljaaGreatDoor
