/- part and its reference: may, Of. -/
import Derived.Test.YtohapcacckapoaaGreatJ15
import Derived.Test.YtohapcacckapoaaGreatJ18
import Derived.Test.YtohapcacckapoaaGreatJ24
namespace Go.Proofs.YtohapcacckapoaaGreat
open Go Go.RowKit Go.Deep
def mayB (n : Int) : Bool := decide (1 ≤ n) && decide (n ≤ 16)
def partI (a b : Int) (t : Tup) (n : Int) : Int := if mayB n then scaleI (sipHash b a ⟨(tupPut t).toArray⟩) n else 0
end Go.Proofs.YtohapcacckapoaaGreat
