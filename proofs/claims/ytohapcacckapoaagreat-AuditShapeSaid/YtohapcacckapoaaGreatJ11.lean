/- an append as a step of a region that draws its order. -/
import Derived.Test.YtohapcacckapoaaGreatJ9
import Derived.Deep.AppendLies
import Derived.Deep.RegionLaw
namespace Go.Proofs.YtohapcacckapoaaGreat
open Go Go.RowKit Go.Deep
end Go.Proofs.YtohapcacckapoaaGreat
