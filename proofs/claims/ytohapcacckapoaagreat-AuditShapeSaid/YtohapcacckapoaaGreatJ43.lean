/- tables: the document's Open. tables: the document's Find. tables: the document's Touch. tables: the document's tables while they are made. -/
import Derived.Test.YtohapcacckapoaaGreatJ40
import Derived.Test.YtohapcacckapoaaGreatJ42
namespace Go.Proofs.YtohapcacckapoaaGreat
open Go Go.RowKit Go.Deep Go.Maps Go.ChangeMaps
section
variable {w w' : World} {g p n : Nat} {r : TRule} {S : Nat → TSt} {X F : Nat → Prop}
end
section
variable {w w' : World} {g p n : Nat} {r : TRule} {S : Nat → TSt} {X F : Nat → Prop}
end
section
variable {w w' : World} {g p n : Nat} {r : TRule} {S : Nat → TSt} {X F : Nat → Prop}
end
abbrev pdcell (g : Nat) : List Value := [.pointer (some ⟨g, 0, none⟩)]
section
variable {W W1 W2 W3 : World} {D g n k c c' g1 : Nat} {r : TRule} {A A' : Option Addr} {gs : Nat → Nat} {Xs : Nat → Nat → Prop} {X1 : Nat → Prop}
end
end Go.Proofs.YtohapcacckapoaaGreat
