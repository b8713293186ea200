/- table: the document's Same at equal lists. -/
import Derived.Test.YtohapcacckapoaaGreatJ38
import Derived.Test.YtohapcacckapoaaGreatJ36
import Derived.BigQuiet
namespace Go.Proofs.YtohapcacckapoaaGreat
open Go Go.RowKit Go.Deep Go.Maps Go.ChangeMaps
end Go.Proofs.YtohapcacckapoaaGreat
