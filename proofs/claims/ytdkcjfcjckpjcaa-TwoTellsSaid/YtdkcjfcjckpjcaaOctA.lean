/- octet: Put. -/
import Derived.Test.YtdkcjfcjckpjcaaSlices
import Derived.Laws.IdiomStrings
namespace Go.Proofs.Ytdkcjfcjckpjcaa
open Go Go.RowKit Go.Deep

def octAt (m k i : Nat) : UInt8 := UInt8.ofNat (m / 2 ^ (8 * (k - 1 - i)))
def octB (m k : Nat) : List UInt8 := (List.range k).map (octAt m k)
def octF (m k j : Nat) : Nat → Value := fun i => if i < j then .int .u8 (octAt m k i).toNat else .int .u8 0
theorem info_u8 : (Try.prog.info? 5).map (fun i => (i.zero, i.size, i.bytes)) = some (some (.int .u8 0), 1, 1) := by kernel_rfl

set_option maxHeartbeats 1000000 in
theorem oct_put (m k : Nat) (w : World) (h1 : 1 ≤ k) (h8 : k ≤ 8) : Calls Try.prog 137 #[.int .u64 m, .int .i64 k] w fun e w' => e = .returned (.string ⟨(octB m k).toArray⟩) ∧ Below w.heap.size w w' := by
  have hmk := run_make_row' (P := Try.prog) 178 5 (.int .u8 0) 1 Try.underlying178 info_u8 rfl .i64 .i64 k (by omega) (by omega)
  go_enter Try.func137, Try.ntmps137
  go_wp2_with fail
  clear hmk
  go_loopw [17] (fun i wr => ∃ j : Nat, j ≤ k ∧ i = .int .i64 (j : Nat) ∧ wr.rowIs w.heap.size 5 k (octF m k j) ∧ Below w.heap.size w wr) (fun i _ => k - (intOf i).toNat)
  case atStart => exact ⟨0, by omega, rfl, (World.rowIs_made w (.int .u8 0) k 5).congr (fun i hi => by simp [octF]), (Below.refl _ _).alloc (Nat.le_refl _) _⟩
  case round =>
    obtain ⟨j, hj, rfl, hr, hb⟩ := hrel
    by_cases hlt : j < k
    · have hlti : (j : Int) < (k : Int) := by omega
      have r1 := hr.cell (i := j) hlt
      have q1 := hr.frozen j
      simp [octF] at r1
      have e1 : (k : Int) - 1 - (j : Int) = ((k - 1 - j : Nat) : Int) := by omega
      go_wp2_with fail
      go_roundw
      case rel =>
        refine ⟨j + 1, by omega, by go_num, (hr.set j _).congr fun i hi => ?_, hb.setCell (Nat.le_refl _) _⟩
        by_cases e : i = j
        · subst e
          simp only [if_true, octF, if_pos (Nat.lt_succ_self _)]
          simp [octAt]
        · simp only [if_neg e, octF]
          by_cases e2 : i < j
          · rw [if_pos e2, if_pos (by omega)]
          · rw [if_neg e2, if_neg (by omega)]
      case measure => simp [intOf]; omega
    · obtain rfl : j = k := by omega
      have hlti : ¬ (j : Int) < (j : Int) := by omega
      have hlen : (octB m j).length = j := by simp [octB]
      have hcv := run_convert_bytes_back (P := Try.prog) wr 178 9 5 ⟨w.heap.size, 0, none⟩ j (octB m j) Try.underlying178 Try.underlying5 Try.underlying9 (fun i hi => by
        have hi' : i < j := by omega
        have e : (⟨w.heap.size, 0, none⟩ : Addr).add i = ⟨w.heap.size, i, none⟩ := by unfold Addr.add; split <;> simp_all
        rw [e, hr.cell hi']
        simp [octF, hi', octB])
      rw [hlen] at hcv
      go_wp2_with fail
      go_ret
      exact ⟨rfl, hb⟩
end Go.Proofs.Ytdkcjfcjckpjcaa
