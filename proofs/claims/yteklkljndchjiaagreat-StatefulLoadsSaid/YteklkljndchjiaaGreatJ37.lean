/- table: the document's Drop. table: the document's New. -/
import Derived.Test.YteklkljndchjiaaGreatJ36
import Derived.Test.YteklkljndchjiaaGreatJ30
namespace Go.Proofs.YteklkljndchjiaaGreat
open Go Go.RowKit Go.Deep Go.Maps Go.ChangeMaps
section
variable {w w' w1 w2 : World} {g n : Nat} {b : Int} {c : TCfg} {d : DTs} {s : TSt} {X X1 X2 F : Nat → Prop}
end
def s0T (n : Nat) : TSt := ⟨0, [], upto n 0, fun k => { slt0 with sl := k }, 0⟩
end Go.Proofs.YteklkljndchjiaaGreat
