/- table: the document's Same at equal lists. -/
import Derived.Test.YteklkljndchjiaaGreatJ36
import Derived.Test.YteklkljndchjiaaGreatJ34
import Derived.BigQuiet
namespace Go.Proofs.YteklkljndchjiaaGreat
open Go Go.RowKit Go.Deep Go.Maps Go.ChangeMaps
end Go.Proofs.YteklkljndchjiaaGreat
