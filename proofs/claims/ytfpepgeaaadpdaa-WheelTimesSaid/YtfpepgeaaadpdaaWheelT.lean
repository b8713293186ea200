/- wheel: plain facts for WheelTimes: the numbers 0, 1, .. with their times. -/
import Derived.Test.YtfpepgeaaadpdaaWheelS
namespace Go.Proofs.Ytfpepgeaaadpdaa
open Go Go.RowKit Go.Deep Go.Maps Go.ChangeMaps

/-- The first k numbers, each with its time. -/
def wtM (dl : List Int) (k : Nat) : LM := (List.range k).map fun i : Nat => ((i : Int), dl.getD i 0)
theorem wtM_len (dl : List Int) (k : Nat) : (wtM dl k).length = k := by simp [wtM]
theorem wtM_get {dl : List Int} {k i : Nat} (h : i < (wtM dl k).length) : (wtM dl k)[i] = ((i : Int), dl.getD i 0) := by simp [wtM]
theorem wtM_has {dl : List Int} {k : Nat} {x : Int} : lmHas (wtM dl k) x = true ↔ 0 ≤ x ∧ x < (k : Int) := by
  rw [lmHas_iff]
  unfold wtM
  constructor
  · rintro ⟨y, hy, rfl⟩
    obtain ⟨i, hi, rfl⟩ := List.mem_map.1 hy
    rw [List.mem_range] at hi
    dsimp only
    omega
  · rintro ⟨h0, h1⟩
    exact ⟨(x, dl.getD x.toNat 0), List.mem_map.2 ⟨x.toNat, List.mem_range.2 (by omega), by simp [Int.toNat_of_nonneg h0]⟩, rfl⟩
theorem wtM_put (dl : List Int) (k : Nat) : lmPut (wtM dl k) (k : Int) (dl.getD k 0) = wtM dl (k + 1) := by
  have hn : lmHas (wtM dl k) (k : Int) = false := by
    cases e : lmHas (wtM dl k) (k : Int)
    · rfl
    · have := (wtM_has.1 e).2
      omega
  unfold lmPut
  rw [lmDel_same hn, lmIns_at (wtM dl k) k (by rw [wtM_len]; exact Nat.le_refl _) (fun j hj h => by rw [wtM_get]; dsimp only; omega) (fun h => absurd h (by rw [wtM_len]; omega))]
  rw [List.take_of_length_le (by rw [wtM_len]; exact Nat.le_refl _), List.drop_of_length_le (by rw [wtM_len]; exact Nat.le_refl _)]
  unfold wtM
  rw [List.range_succ, List.map_append]
  rfl
theorem wtM_sorted (dl : List Int) (k : Nat) : lmSorted (wtM dl k) := by
  unfold lmSorted
  rw [List.pairwise_iff_getElem]
  intro i j hi hj hij
  rw [wtM_get, wtM_get]
  dsimp only
  omega
theorem wtM_due {dl : List Int} {k i : Nat} (h : i < k) : lmGet (wtM dl k) (i : Int) = dl.getD i 0 := by
  have hk : i < (wtM dl k).length := by rw [wtM_len]; exact h
  have := mAt_get (wtM_sorted dl k) hk
  unfold mAt at this
  rw [List.getD_eq_getElem?_getD, List.getElem?_eq_getElem hk, Option.getD_some, wtM_get] at this
  exact this
/-- The time at which a number comes is the first multiple of the granule that is not ahead of it. -/
theorem turn_first {G d : Int} (hG : 1 ≤ G) : d ≤ turnI G d * G ∧ turnI G d * G - d < G := by
  unfold turnI
  have h1 := Int.emod_add_mul_ediv (d + G - 1) G
  have h2 := Int.emod_nonneg (d + G - 1) (show G ≠ 0 by omega)
  have h3 := Int.emod_lt_of_pos (d + G - 1) (show 0 < G by omega)
  rw [Int.mul_comm] at h1
  generalize (d + G - 1) / G * G = z at *
  generalize (d + G - 1) % G = r at *
  omega
end Go.Proofs.Ytfpepgeaaadpdaa
