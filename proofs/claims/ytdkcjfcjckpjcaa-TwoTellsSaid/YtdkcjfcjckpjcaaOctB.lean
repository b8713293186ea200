/- cloakroomref02: Put. -/
import Derived.Test.YtdkcjfcjckpjcaaOctA
import Derived.Test.YtdkcjfcjckpjcaaKit
namespace Go.Proofs.Ytdkcjfcjckpjcaa
open Go Go.RowKit Go.Deep

theorem octB_succ (m i : Nat) : octB m (i + 1) = UInt8.ofNat (m / 256 ^ i) :: octB m i := by
  unfold octB
  rw [List.range_succ_eq_map, List.map_cons, List.map_map]
  have hp : (256 : Nat) ^ i = 2 ^ (8 * i) := by rw [Nat.pow_mul]
  congr 1
  · unfold octAt; rw [hp]; rfl
  · refine List.map_congr_left fun j hj => ?_
    have : j < i := List.mem_range.1 hj
    unfold octAt
    simp only [Function.comp]
    rw [show i + 1 - 1 - j.succ = i - 1 - j by omega]

set_option maxHeartbeats 1000000 in
set_option maxRecDepth 100000 in
theorem refoct_put (m k : Nat) (w : World) (hm : m < 18446744073709551616) (h8 : k ≤ 8) : Calls Try.prog 144 #[.int .u64 m, .int .i64 k] w fun e w' => e = .returned (.string ⟨(octB m k).toArray⟩) ∧ Below w.heap.size w w' := by
  have hcv := conv_one
  go_enter Try.func144, Try.ntmps144
  go_wp2_with fail
  go_loopw [0, 5, 6] (fun n s i wr => ∃ j : Nat, j ≤ k ∧ i = .int .i64 (j : Nat) ∧ n = .int .u64 ((m / 256 ^ j : Nat) : Int) ∧ s = .string ⟨(octB m j).toArray⟩ ∧ Below w.heap.size w wr) (fun _ _ i _ => k - (intOf i).toNat)
  case atStart => exact ⟨0, by omega, rfl, by simp, rfl, Below.refl _ _⟩
  case round =>
    obtain ⟨j, hj, rfl, rfl, rfl, hb⟩ := hrel
    by_cases hlt : j < k
    · have hlti : (j : Int) < (k : Int) := by omega
      have hk8 : (k : Int) ≤ 8 := by omega
      have hs := octB_succ m j
      have hn : m / 256 ^ (j + 1) = m / 256 ^ j / 256 := by rw [Nat.pow_succ, Nat.div_div_eq_div_mul]
      obtain ⟨n, hne⟩ : ∃ n, m / 256 ^ j = n := ⟨_, rfl⟩
      have hnb : n < 18446744073709551616 := by rw [← hne]; exact Nat.lt_of_le_of_lt (Nat.div_le_self _ _) hm
      rw [hne] at hs hn ⊢
      replace hs := Lib.hid hs
      replace hn := Lib.hid hn
      replace hne := Lib.hid hne
      have hl : ¬ 9223372036854775807 < 1 + (octB m j).length := by simp [octB]; omega
      go_wp2_with fail
      go_roundw
      case rel => exact ⟨j + 1, by omega, by go_num, by rw [hn.out]; rfl, by rw [hs.out, ← List.singleton_append, ← str_append]; rfl, (by repeat (first | exact Below.refl _ _ | assumption | refine below_alloc ?_ _ | refine below_chain (by assumption) ?_ | refine below_call2 (by assumption) ?_ (by first | omega | (simp; done) | (simp; omega) | (simp [World.setCell]; omega)) | refine below_drewN ?_ _ | refine Below.drew ?_ | refine Below.alloc ?_ (by first | omega | (simp; done) | (simp; omega) | (simp [World.setCell]; omega)) _ | refine Below.setCell ?_ (by first | omega | (simp; done) | (simp; omega) | (simp [World.setCell]; omega)) _))⟩
      case measure => simp [intOf]; omega
    · obtain rfl : j = k := by omega
      have hlti : ¬ (j : Int) < (j : Int) := by omega
      have hk8 : (j : Int) ≤ 8 := by omega
      go_wp2_with fail
      go_ret
      exact ⟨rfl, hb⟩
end Go.Proofs.Ytdkcjfcjckpjcaa
