/- table: tables that nobody made. table: the chapter's example, called. -/
import Derived.Test.YtohapcacckapoaaGreatJ33
namespace Go.Proofs.YtohapcacckapoaaGreat
open Go Go.RowKit Go.Deep Go.Maps Go.ChangeMaps
section
variable {w w1 w2 w3 : World} {g : Nat}
end
abbrev awT : Tup := ⟨17, false, 0, 0, false, 0, 0, 0, 0⟩
def awC : TCfg := ⟨1, 1, 1, 1, 1⟩
def awS0 : TSt := ⟨0, [], upto 1 0, fun k => { slt0 with sl := k }, 0⟩
def awS1 : TSt := openS awC 1 awS0 awT 1 0
def awS2 : TSt := openS awC 1 awS1 awT 1 0
def awS3 : TSt := closeS 1 awS2 0
end Go.Proofs.YtohapcacckapoaaGreat
