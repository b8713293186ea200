/- least: which sets the laws take. -/
import Derived.Test.YtnmmjchhinfbpaaTwoG
namespace Go.Proofs.Ytnmmjchhinfbpaa
open Go Go.RowKit Go.Deep

set_option maxHeartbeats 4000000 in
theorem law27_right (mo : Nat) (l : List Bk) (A : Option Addr) (c : Nat) (w : World) (hr : Reads w w.heap.size 6 A l.length (l.flatMap Bk.cells)) (hl : l.length ≤ 9223372036854775807) (hmo : mo ≤ 1000) :
    Calls Try.prog 17 #[.slice A l.length c, .int .i64 (mo : Int)] w (LawR mo l w) := by
  have R := Lib.hid (ref24_right l A c w hr hl)
  go_enter Try.func17, Try.ntmps17
  go_wp2_with fail
  go_loop [5] (fun i => ∃ k : Nat, k ≤ l.length ∧ k ≤ mo ∧ i = .int .i64 (k : Nat) ∧ ∀ j, j < k → ∀ b, l[j]? = some b → 1 ≤ b.w) (fun i => l.length - (intOf i).toNat)
  case atStart => exact ⟨0, by omega, by omega, rfl, fun j hj => absurd hj (by omega)⟩
  case round =>
    obtain ⟨k, hk, hk12, rfl, hall⟩ := hrel
    replace hall := Lib.hid hall
    by_cases hlt : k < l.length
    · have hlti : decide ((k : Int) < (l.length : Int)) = true := by simp; omega
      by_cases h12 : k < mo
      · have h12i : decide ((k : Int) < (mo : Int)) = true := by simp; omega
        obtain ⟨ad, x, rfl, hbl, hx, c0, c1, -⟩ := bk_at hr hlt
        have hki : (k : Int) < (l.length : Int) := by omega
        by_cases hw : x.w < 1
        · have d : decide (x.w < 1) = true := by simpa using hw
          replace hx := Lib.hid hx
          clear hr R
          go_wp2_with fail
          go_ret
          exact ⟨false, 0, rfl, rfl, by simp⟩
        · have d : decide (x.w < 1) = false := by simpa using hw
          replace hx := Lib.hid hx
          replace hw := Lib.hid hw
          clear hr R
          go_wp2_with fail
          go_round
          case rel => exact ⟨k + 1, by omega, by omega, by go_num, fun j hj b hb => by
            rcases Nat.lt_succ_iff_lt_or_eq.1 hj with h | rfl
            · exact hall.out j h b hb
            · have := hx.out; rw [hb] at this; cases this; have := hw.out; omega⟩
          case measure => simp [intOf]; omega
      · have h12i : decide ((k : Int) < (mo : Int)) = false := by simp; omega
        have hle : decide ((l.length : Int) ≤ (mo : Int)) = false := by simp; omega
        clear hr R
        go_wp2_with fail
        go_ret
        exact ⟨false, 0, rfl, rfl, by simp⟩
    · obtain rfl : k = l.length := by omega
      have hlti : decide ((l.length : Int) < (l.length : Int)) = false := by simp
      have hle : decide ((l.length : Int) ≤ (mo : Int)) = true := by simp; omega
      clear hr
      go_wp2_with (go_at_call 6; (with_reducible refine R.out.mono ?_); rintro e w1 ⟨r, n, rfl, rfl, hR⟩; replace hR := Lib.hid hR)
      go_ret
      refine ⟨r, n, rfl, rfl, fun h => ⟨by omega, hR.out h, fun b hb => ?_⟩⟩
      obtain ⟨j, hj, rfl⟩ := List.getElem_of_mem hb
      exact hall.out j hj _ (List.getElem?_eq_getElem hj)
end Go.Proofs.Ytnmmjchhinfbpaa
