/- Closed facts of the program that every row asks, each checked by itself. -/
import Derived.Test.YtohapcacckapoaaGreatRows
import Derived.JoinedOf
namespace Go.Proofs.YtohapcacckapoaaGreat
open Go
theorem and_t {a b : Bool} (ha : a = true) (hb : b = true) : (a && b) = true := by rw [ha, hb]; rfl
theorem may_enter : Tryz.prog.mayEnter = true := by kernel_rfl
def aRow : OpenClaim := { program := "", sum := "", func := "", spec := "" }
theorem lifts_final : (aRow.lifted == Tryz.prog.liftsFinal) = true := by kernel_rfl
end Go.Proofs.YtohapcacckapoaaGreat
