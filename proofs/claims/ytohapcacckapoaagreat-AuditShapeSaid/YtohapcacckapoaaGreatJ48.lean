/- tables: the document's New. tables: the code's tables and the document's in one world. -/
import Derived.Test.YtohapcacckapoaaGreatJ43
import Derived.Test.YtohapcacckapoaaGreatJ47
import Derived.Test.YtohapcacckapoaaGreatJ11
import Derived.Deep.LoopGhost
import Derived.Test.YtohapcacckapoaaGreatJ45
import Derived.Test.YtohapcacckapoaaGreatJ46
import Derived.Test.YtohapcacckapoaaGreatJ39
namespace Go.Proofs.YtohapcacckapoaaGreat
open Go Go.RowKit Go.Deep Go.Maps Go.ChangeMaps
def New2 (w w' : World) (K : Nat → Prop) : Nat → Prop := fun y => K y ∨ w.heap.size ≤ y ∧ y < w'.heap.size
section
variable {w0 w w' : World} {g g2 p n : Nat} {r : TRule} {S1 S2 S' : Nat → TSt} {K1 K2 K1' K2' F : Nat → Prop}
def WfE (p n : Nat) (S : Nat → TSt) : Prop := ∀ i, i < p → ∀ k : Nat, k < n → ((S i).E k).used = true → tupWf ((S i).E k).t
theorem WfE.new : WfE p n (fun _ => sT0 n) := fun _ _ _ _ hu => by cases hu
theorem WfE.all {S S' : Nat → TSt} (h : WfE p n S) (hk : ∀ i, i < p → KeepE n (S i) (S' i)) : WfE p n S' := fun i hi k hkn hu => by
 obtain ⟨a1, a2, -⟩ := hk i hi k hkn hu
 rw [a2]
 exact h i hi k hkn a1
theorem WfE.mem {S : Nat → TSt} (h : WfE p n S) (hti : ∀ i, i < p → TI n (S i)) (hn : n ≤ 4096) {x : Slt} (hx : x ∈ entsL n p S) : tupWf x.t ∧ x.sl < 9223372036854775808 ∧ 0 ≤ x.gen ∧ x.gen < 18446744073709551616 := by
 obtain ⟨i, hi, c, hc, hu, rfl⟩ := mem_entsL.1 hx
 refine ⟨h i hi c hc hu, ?_, (hti i hi).gr c hc⟩
 rw [(hti i hi).sl c hc]
 omega
end
end Go.Proofs.YtohapcacckapoaaGreat
