/- load: plain laws of Less, for the law LoadLess. -/
import Derived.Test.YtnmmjchhinfbpaaLoadE
namespace Go.Proofs.Ytnmmjchhinfbpaa

theorem lessB_iff {n k n2 k2 i i2 : Int} (a : bearB n k = true) (b : bearB n2 k2 = true) : lessB n k i n2 k2 i2 = true ↔ (n * k2 < n2 * k ∨ (n * k2 = n2 * k ∧ i < i2)) := by
  unfold lessB; rw [a, b]; simp
theorem bearB_in {n k : Int} (h1 : 0 ≤ n) (h2 : n ≤ 1099511627776) (h3 : 1 ≤ k) (h4 : k ≤ 1000) : bearB n k = true := by
  unfold bearB; simp; omega
/-! Of two just one; of one none; one more is more. -/
theorem lessB_one {n k n2 k2 : Int} (a : bearB n k = true) (b : bearB n2 k2 = true) : (lessB n k 0 n2 k2 1 == lessB n2 k2 1 n k 0) = false := by
  have i1 := lessB_iff (i := 0) (i2 := 1) a b
  have i2 := lessB_iff (i := 1) (i2 := 0) b a
  generalize n * k2 = x at *
  generalize n2 * k = y at *
  cases h1 : lessB n k 0 n2 k2 1 <;> cases h2 : lessB n2 k2 1 n k 0
  · exfalso
    have n1 : ¬ _ := fun h => by rw [i1.2 h] at h1; cases h1
    have n2 : ¬ _ := fun h => by rw [i2.2 h] at h2; cases h2
    omega
  · rfl
  · rfl
  · exfalso; have := i1.1 h1; have := i2.1 h2; omega
theorem lessB_self (n k i : Int) : lessB n k i n k i = false := by
  unfold lessB; simp
theorem lessB_more {n k i i2 : Int} (h1 : 0 ≤ n) (h2 : n < 1099511627776) (h3 : 1 ≤ k) (h4 : k ≤ 1000) : lessB n k i (n + 1) k i2 = true := by
  rw [lessB_iff (bearB_in h1 (by omega) h3 h4) (bearB_in (by omega) (by omega) h3 h4)]
  left; rw [Int.add_mul]; omega
/-! Of three in a row the first is less than the last. -/
theorem lessB_trans {n k n2 k2 n3 k3 : Int} (a : bearB n k = true) (b : bearB n2 k2 = true) (c : bearB n3 k3 = true) (h1 : lessB n k 0 n2 k2 1 = true) (h2 : lessB n2 k2 1 n3 k3 2 = true) : lessB n k 0 n3 k3 2 = true := by
  rw [lessB_iff a b] at h1
  rw [lessB_iff b c] at h2
  rw [lessB_iff a c]
  obtain ⟨_, _, a3, _⟩ := bearB_t a
  obtain ⟨_, _, b3, _⟩ := bearB_t b
  obtain ⟨_, _, c3, _⟩ := bearB_t c
  have e1 : n * k2 ≤ n2 * k := by omega
  have e2 : n2 * k3 ≤ n3 * k2 := by omega
  have m1 : n * k2 * k3 ≤ n2 * k * k3 := Int.mul_le_mul_of_nonneg_right e1 (by omega)
  have m2 : n2 * k3 * k ≤ n3 * k2 * k := Int.mul_le_mul_of_nonneg_right e2 (by omega)
  have r1 : n * k2 * k3 = n * k3 * k2 := by rw [Int.mul_assoc, Int.mul_comm k2 k3, ← Int.mul_assoc]
  have r2 : n2 * k * k3 = n2 * k3 * k := by rw [Int.mul_assoc, Int.mul_comm k k3, ← Int.mul_assoc]
  have r3 : n3 * k2 * k = n3 * k * k2 := by rw [Int.mul_assoc, Int.mul_comm k2 k, ← Int.mul_assoc]
  have m3 : n * k3 * k2 ≤ n3 * k * k2 := by omega
  have m4 : n * k3 ≤ n3 * k := Int.le_of_mul_le_mul_right m3 (by omega)
  omega
end Go.Proofs.Ytnmmjchhinfbpaa
