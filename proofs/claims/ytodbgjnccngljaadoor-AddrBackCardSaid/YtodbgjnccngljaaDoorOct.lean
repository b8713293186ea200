/- octet: Put. cloakroomref02: Put. -/
import Derived.Test.YtodbgjnccngljaaDoorSlices
import Derived.Laws.IdiomStrings
import Derived.Test.YtodbgjnccngljaaDoorKit
namespace Go.Proofs.YtodbgjnccngljaaDoor
open Go Go.RowKit Go.Deep

def octAt (m k i : Nat) : UInt8 := UInt8.ofNat (m / 2 ^ (8 * (k - 1 - i)))
def octB (m k : Nat) : List UInt8 := (List.range k).map (octAt m k)
def octF (m k j : Nat) : Nat → Value := fun i => if i < j then .int .u8 (octAt m k i).toNat else .int .u8 0
theorem info_u8 : (Tryd.prog.info? 5).map (fun i => (i.zero, i.size, i.bytes)) = some (some (.int .u8 0), 1, 1) := by kernel_rfl

set_option maxHeartbeats 1000000 in
theorem oct_put (m k : Nat) (w : World) (h1 : 1 ≤ k) (h8 : k ≤ 8) : Calls Tryd.prog 35 #[.int .u64 m, .int .i64 k] w fun e w' => e = .returned (.string ⟨(octB m k).toArray⟩) ∧ Below w.heap.size w w' := by
  have hmk := run_make_row' (P := Tryd.prog) 54 5 (.int .u8 0) 1 Tryd.underlying54 info_u8 rfl .i64 .i64 k (by omega) (by omega)
  go_enter Tryd.func35, Tryd.ntmps35
  go_wp2_with fail
  clear hmk
  go_loopw [17] (fun i wr => ∃ j : Nat, j ≤ k ∧ i = .int .i64 (j : Nat) ∧ wr.rowIs w.heap.size 5 k (octF m k j) ∧ Below w.heap.size w wr) (fun i _ => k - (intOf i).toNat)
  case atStart => exact ⟨0, by omega, rfl, (World.rowIs_made w (.int .u8 0) k 5).congr (fun i hi => by simp [octF]), (Below.refl _ _).alloc (Nat.le_refl _) _⟩
  case round =>
    obtain ⟨j, hj, rfl, hr, hb⟩ := hrel
    by_cases hlt : j < k
    · have hlti : (j : Int) < (k : Int) := by omega
      have r1 := hr.cell (i := j) hlt
      have q1 := hr.frozen j
      simp [octF] at r1
      have e1 : (k : Int) - 1 - (j : Int) = ((k - 1 - j : Nat) : Int) := by omega
      go_wp2_with fail
      go_roundw
      case rel =>
        refine ⟨j + 1, by omega, by go_num, (hr.set j _).congr fun i hi => ?_, hb.setCell (Nat.le_refl _) _⟩
        by_cases e : i = j
        · subst e
          simp only [if_true, octF, if_pos (Nat.lt_succ_self _)]
          simp [octAt]
        · simp only [if_neg e, octF]
          by_cases e2 : i < j
          · rw [if_pos e2, if_pos (by omega)]
          · rw [if_neg e2, if_neg (by omega)]
      case measure => simp [intOf]; omega
    · obtain rfl : j = k := by omega
      have hlti : ¬ (j : Int) < (j : Int) := by omega
      have hlen : (octB m j).length = j := by simp [octB]
      have hcv := run_convert_bytes_back (P := Tryd.prog) wr 54 9 5 ⟨w.heap.size, 0, none⟩ j (octB m j) Tryd.underlying54 Tryd.underlying5 Tryd.underlying9 (fun i hi => by
        have hi' : i < j := by omega
        have e : (⟨w.heap.size, 0, none⟩ : Addr).add i = ⟨w.heap.size, i, none⟩ := by unfold Addr.add; split <;> simp_all
        rw [e, hr.cell hi']
        simp [octF, hi', octB])
      rw [hlen] at hcv
      go_wp2_with fail
      go_ret
      exact ⟨rfl, hb⟩
end Go.Proofs.YtodbgjnccngljaaDoor

namespace Go.Proofs.YtodbgjnccngljaaDoor
open Go Go.RowKit Go.Deep

theorem octB_succ (m i : Nat) : octB m (i + 1) = UInt8.ofNat (m / 256 ^ i) :: octB m i := by
  unfold octB
  rw [List.range_succ_eq_map, List.map_cons, List.map_map]
  have hp : (256 : Nat) ^ i = 2 ^ (8 * i) := by rw [Nat.pow_mul]
  congr 1
  · unfold octAt; rw [hp]; rfl
  · refine List.map_congr_left fun j hj => ?_
    have : j < i := List.mem_range.1 hj
    unfold octAt
    simp only [Function.comp]
    rw [show i + 1 - 1 - j.succ = i - 1 - j by omega]

set_option maxHeartbeats 1000000 in
set_option maxRecDepth 100000 in
theorem refoct_put (m k : Nat) (w : World) (hm : m < 18446744073709551616) (h8 : k ≤ 8) : Calls Tryd.prog 32 #[.int .u64 m, .int .i64 k] w fun e w' => e = .returned (.string ⟨(octB m k).toArray⟩) ∧ Below w.heap.size w w' := by
  have hcv := conv_one
  go_enter Tryd.func32, Tryd.ntmps32
  go_wp2_with fail
  go_loopw [0, 5, 6] (fun n s i wr => ∃ j : Nat, j ≤ k ∧ i = .int .i64 (j : Nat) ∧ n = .int .u64 ((m / 256 ^ j : Nat) : Int) ∧ s = .string ⟨(octB m j).toArray⟩ ∧ Below w.heap.size w wr) (fun _ _ i _ => k - (intOf i).toNat)
  case atStart => exact ⟨0, by omega, rfl, by simp, rfl, Below.refl _ _⟩
  case round =>
    obtain ⟨j, hj, rfl, rfl, rfl, hb⟩ := hrel
    by_cases hlt : j < k
    · have hlti : (j : Int) < (k : Int) := by omega
      have hk8 : (k : Int) ≤ 8 := by omega
      have hs := octB_succ m j
      have hn : m / 256 ^ (j + 1) = m / 256 ^ j / 256 := by rw [Nat.pow_succ, Nat.div_div_eq_div_mul]
      obtain ⟨n, hne⟩ : ∃ n, m / 256 ^ j = n := ⟨_, rfl⟩
      have hnb : n < 18446744073709551616 := by rw [← hne]; exact Nat.lt_of_le_of_lt (Nat.div_le_self _ _) hm
      rw [hne] at hs hn ⊢
      replace hs := Lib.hid hs
      replace hn := Lib.hid hn
      replace hne := Lib.hid hne
      have hl : ¬ 9223372036854775807 < 1 + (octB m j).length := by simp [octB]; omega
      go_wp2_with fail
      go_roundw
      case rel => exact ⟨j + 1, by omega, by go_num, by rw [hn.out]; rfl, by rw [hs.out, ← List.singleton_append, ← str_append]; rfl, (by repeat (first | exact Below.refl _ _ | assumption | refine below_alloc ?_ _ | refine below_chain (by assumption) ?_ | refine below_call2 (by assumption) ?_ (by first | omega | (simp; done) | (simp; omega) | (simp [World.setCell]; omega)) | refine below_drewN ?_ _ | refine Below.drew ?_ | refine Below.alloc ?_ (by first | omega | (simp; done) | (simp; omega) | (simp [World.setCell]; omega)) _ | refine Below.setCell ?_ (by first | omega | (simp; done) | (simp; omega) | (simp [World.setCell]; omega)) _))⟩
      case measure => simp [intOf]; omega
    · obtain rfl : j = k := by omega
      have hlti : ¬ (j : Int) < (j : Int) := by omega
      have hk8 : (j : Int) ≤ 8 := by omega
      go_wp2_with fail
      go_ret
      exact ⟨rfl, hb⟩
end Go.Proofs.YtodbgjnccngljaaDoor
