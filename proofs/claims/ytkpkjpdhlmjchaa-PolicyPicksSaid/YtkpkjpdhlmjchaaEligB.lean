/- the document's Has. -/
import Derived.Test.YtkpkjpdhlmjchaaEligA
namespace Go.Proofs.Ytkpkjpdhlmjchaa
open Go Go.RowKit Go.Deep

set_option maxHeartbeats 1000000 in
theorem ref24_has (l : List Bk) (A : Option Addr) (c : Nat) (id : Int) (w : World) (hr : Reads w w.heap.size 6 A l.length (l.flatMap Bk.cells)) (hl : l.length ≤ 1000000) :
    Calls Try.prog 51 #[.slice A l.length c, .int .i64 id] w fun e w' => e = .returned (.bool (hasB l id)) ∧ w = w' := by
  go_enter Try.func51, Try.ntmps51
  go_wp2_with fail
  go_loopw [5] (fun i wr => ∃ k : Nat, k ≤ l.length ∧ i = .int .i64 (k : Nat) ∧ Hid (∀ j, j < k → ∀ b, l[j]? = some b → b.id ≠ id) ∧ w = wr) (fun i _ => l.length - (intOf i).toNat)
  case atStart => exact ⟨0, by omega, rfl, Lib.hid (by omega), rfl⟩
  case round =>
    obtain ⟨k, hk, rfl, hall, rfl⟩ := hrel
    by_cases hlt : k < l.length
    · have hlti : (k : Int) < (l.length : Int) := by omega
      obtain ⟨ad, b, rfl, hbl, hbk, c0, -⟩ := bk_at hr hlt
      obtain ⟨bi, bw, bs, bv, bh, bo⟩ := b
      dsimp only at *
      by_cases he : bi = id
      · have hf := Lib.hid (idxB_hit hall.out hbk he).2
        have ho : (bi == id) = true := by simpa using he
        replace he := Lib.hid he
        clear hbk
        go_wp2_with fail
        go_ret
        exact ⟨by rw [hf.out]; rfl, rfl⟩
      · have ho : (bi == id) = false := by simpa using he
        replace he := Lib.hid he
        replace hbk := Lib.hid hbk
        go_wp2_with fail
        go_roundw
        case rel => exact ⟨k + 1, by omega, by go_num, Lib.hid (fun j hj b hbj => by
          rcases Nat.lt_succ_iff_lt_or_eq.1 hj with h | rfl
          · exact hall.out j h b hbj
          · have := hbk.out; rw [hbj] at this; cases this; exact he.out), (by trivial)⟩
        case measure => simp [intOf]; omega
    · obtain rfl : k = l.length := by omega
      have hlti : ¬ (l.length : Int) < (l.length : Int) := by omega
      have hf := Lib.hid (idxB_miss (l := l) (id := id) fun j b hj => hall.out j (List.getElem?_eq_some_iff.1 hj).1 b hj).2
      go_wp2_with fail
      go_ret
      exact ⟨by rw [hf.out]; rfl, rfl⟩
theorem hasB_mem {l : List Bk} {id : Int} (h : id ∈ l.map Bk.id) : hasB l id = true := by
  obtain ⟨b, hb, rfl⟩ := List.mem_map.1 h
  unfold hasB; rw [List.any_eq_true]; exact ⟨b, hb, by simp⟩
theorem hasB_iff {l : List Bk} {id : Int} : hasB l id = true ↔ id ∈ l.map Bk.id := by
  refine ⟨fun h => ?_, hasB_mem⟩
  unfold hasB at h
  rw [List.any_eq_true] at h
  obtain ⟨b, hb, e⟩ := h
  exact List.mem_map.2 ⟨b, hb, by simpa using e⟩
end Go.Proofs.Ytkpkjpdhlmjchaa
