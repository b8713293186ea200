/- table: the document's wheel told by its blocks; what the document's table is in memory. -/
import Derived.Test.YtohapcacckapoaaGreatJ33
namespace Go.Proofs.YtohapcacckapoaaGreat
open Go Go.RowKit Go.Deep Go.Maps Go.ChangeMaps
def RWheelP (w : World) (g : Nat) (G now : Int) (M : LM) (Y : Nat → Prop) : Prop :=
 ∃ A c B d, RWhAt w g G now M A c B d ∧ (∀ b, Y b ↔ rwF g A B b) ∧ lmSorted M ∧ (∀ x ∈ M, 0 ≤ x.1 ∧ x.1 ≤ 4095 ∧ 0 ≤ x.2 ∧ x.2 ≤ 2199023255552) ∧ (1 ≤ G ∧ G ≤ 1024) ∧ (0 ≤ now ∧ now ≤ 1099511627776)
section
variable {w w' : World} {g : Nat} {G now : Int} {M : LM} {Y F : Nat → Prop}
theorem RWheelP.chg (h : RWheelP w g G now M Y) (k : Chg F w w') (hd : ∀ b, Y b → ¬ F b) : RWheelP w' g G now M Y := by
 obtain ⟨A, c, B, d, h1, h2, h3⟩ := h
 exact ⟨A, c, B, d, h1.chg k (fun b hw => hd b ((h2 b).2 hw)), h2, h3⟩
theorem RWheelP.lt (h : RWheelP w g G now M Y) {b : Nat} (hb : Y b) : b < w.heap.size := by
 obtain ⟨A, c, B, d, h1, h2, h3⟩ := h
 exact h1.lt ((h2 b).1 hb)
theorem RWheelP.rng (h : RWheelP w g G now M Y) : (1 ≤ G ∧ G ≤ 1024) ∧ (0 ≤ now ∧ now ≤ 1099511627776) := by
 obtain ⟨A, c, B, d, h1, h2, h3⟩ := h
 exact h3.2.2
end
end Go.Proofs.YtohapcacckapoaaGreat
