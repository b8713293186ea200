/- A slice literal of one entry. -/
import Derived.Test.YtohapcacckapoaaGreatJ36
import Derived.Great.BuildSlice
namespace Go.Proofs.YtohapcacckapoaaGreat
open Go Go.RowKit Go.Deep Go.Maps Go.ChangeMaps
end Go.Proofs.YtohapcacckapoaaGreat
