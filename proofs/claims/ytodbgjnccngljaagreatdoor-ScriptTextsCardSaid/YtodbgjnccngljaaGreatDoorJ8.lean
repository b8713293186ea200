/- slices.Clone and slices.Reverse at []int. -/
import Derived.Test.YtodbgjnccngljaaGreatDoorJ6
import Derived.Test.YtodbgjnccngljaaGreatDoorJ7
import Derived.WalkSpells
namespace Go.Proofs.YtodbgjnccngljaaGreatDoor
open Go Go.RowKit Go.Deep
def revF (n k : Nat) (f : Nat → Value) (p : Nat) : Value := if p < n ∧ (p < k ∨ n - 1 - k < p) then f (n - 1 - p) else f p
theorem own_lit (w : World) (base : Nat) (e : TypeId) (xs : List Value) (hb : base ≤ w.heap.size) (hm : xs.length ≤ maxLen) :
  (w.alloc (.cells xs.toArray e)).ownsRow base e 1 (.slice (some ⟨w.heap.size, 0, none⟩) xs.length xs.length) xs.length xs := by
 refine ⟨by simp, .inr ⟨w.heap.size, xs.length, xs.toArray, rfl, hb, Blk.new w e _, Nat.le_refl _, hm, by simp, by simp⟩⟩
end Go.Proofs.YtodbgjnccngljaaGreatDoor
