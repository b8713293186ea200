/- part and its reference: Spread. part and its reference: Instance. Tuples and bools that a law is given. -/
import Derived.Test.YtohapcacckapoaaGreatJ26
import Derived.Test.YtohapcacckapoaaGreatJ9
import Derived.Test.YtohapcacckapoaaGreatJ3
namespace Go.Proofs.YtohapcacckapoaaGreat
open Go Go.RowKit Go.Deep
def cntP (a b : Int) (l : List Tup) (n : Int) (j : Nat) : Nat := l.countP fun t => partI a b t n == (j : Int)
def spreadL (a b : Int) (l : List Tup) (n : Int) : List Int := if mayB n then (List.range n.toNat).map fun j => (cntP a b l n j : Int) else []
def aliveF (al : List Bool) (p i : Nat) : Bool := al.getD ((p + i) % al.length) false
def instV (al : List Bool) (p : Nat) : Nat × Bool := match (List.range al.length).find? (aliveF al p) with
 | some i => ((p + i) % al.length, true)
 | none => (0, false)
def instI (a b : Int) (t : Tup) (al : List Bool) : Nat × Bool := if 8 < al.length then (0, false) else instV al (partI a b t al.length).toNat
end Go.Proofs.YtohapcacckapoaaGreat
namespace Go.Proofs.YtohapcacckapoaaGreat
open Go Go.RowKit Go.Deep Go.ChangeShapes Go.WideShapes
@[reducible] def tupFT : FT := .pair (.int .i64) (.pair adrFT (.pair adrFT (.pair (.int .i64) (.pair (.int .i64) .unit))))
def tupOf (x : tupFT.Val) : Tup := ⟨x.1, x.2.1.1, x.2.1.2.1.toNat, x.2.1.2.2.1.toNat, x.2.2.1.1, x.2.2.1.2.1.toNat, x.2.2.1.2.2.1.toNat, x.2.2.2.1, x.2.2.2.2.1⟩
def tupWf (t : Tup) : Prop := t.hi < 18446744073709551616 ∧ t.lo < 18446744073709551616 ∧ t.hi' < 18446744073709551616 ∧ t.lo' < 18446744073709551616
section
variable {H : Type} {enc : TypeId × Value → H}
end
end Go.Proofs.YtohapcacckapoaaGreat
