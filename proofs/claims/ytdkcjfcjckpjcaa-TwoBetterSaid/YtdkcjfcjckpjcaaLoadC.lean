/- load and its reference: bears, Less. -/
import Derived.Test.YtdkcjfcjckpjcaaLoadB
import Derived.Test.YtdkcjfcjckpjcaaNumC
namespace Go.Proofs.Ytdkcjfcjckpjcaa
open Go Go.RowKit Go.Deep

def bearB (L W : Int) : Bool := decide (0 ≤ L) && decide (L ≤ 1099511627776) && decide (1 ≤ W) && decide (W ≤ 1000)
def lessB (L W i L2 W2 i2 : Int) : Bool := bearB L W && bearB L2 W2 && (decide (L * W2 < L2 * W) || (decide (L * W2 = L2 * W) && decide (i < i2)))
theorem bearB_t {L W : Int} (h : bearB L W = true) : 0 ≤ L ∧ L ≤ 1099511627776 ∧ 1 ≤ W ∧ W ≤ 1000 := by
  simp [bearB] at h; omega
theorem wrap64_id (n : Int) (h : -9223372036854775808 ≤ n ∧ n ≤ 9223372036854775807) : wrap64 n = n := by unfold wrap64; omega
theorem mul_rng {L W : Int} (h1 : 0 ≤ L) (h2 : L ≤ 1099511627776) (h3 : 1 ≤ W) (h4 : W ≤ 1000) : 0 ≤ L * W ∧ L * W ≤ 1099511627776000 := by
  refine ⟨Int.mul_nonneg h1 (by omega), ?_⟩
  have a : L * W ≤ 1099511627776 * W := Int.mul_le_mul_of_nonneg_right h2 (by omega)
  omega
theorem bears_any (L W : Int) (w : World) : Calls Try.prog 120 #[.int .i64 L, .int .i64 W] w fun e w' => e = .returned (.bool (bearB L W)) ∧ w = w' := by
  by_cases h0 : 0 ≤ L
  · have d0 : decide (0 ≤ L) = true := by simpa using h0
    by_cases h1 : L ≤ 1099511627776
    · have d1 : decide (L ≤ 1099511627776) = true := by simpa using h1
      by_cases h2 : 1 ≤ W
      · have d2 : decide (1 ≤ W) = true := by simpa using h2
        by_cases h3 : W ≤ 1000
        · have d3 : decide (W ≤ 1000) = true := by simpa using h3
          have hf : bearB L W = true := by unfold bearB; simp; omega
          rw [hf]
          go_enter Try.func120, Try.ntmps120
          go_wp2_with fail
          go_ret
          exact ⟨rfl, rfl⟩
        · have d3 : decide (W ≤ 1000) = false := by simpa using h3
          have hf : bearB L W = false := by unfold bearB; simp; omega
          rw [hf]
          go_enter Try.func120, Try.ntmps120
          go_wp2_with fail
          go_ret
          exact ⟨rfl, rfl⟩
      · have d2 : decide (1 ≤ W) = false := by simpa using h2
        have hf : bearB L W = false := by unfold bearB; simp; omega
        rw [hf]
        go_enter Try.func120, Try.ntmps120
        go_wp2_with fail
        go_ret
        exact ⟨rfl, rfl⟩
    · have d1 : decide (L ≤ 1099511627776) = false := by simpa using h1
      have hf : bearB L W = false := by unfold bearB; simp; omega
      rw [hf]
      go_enter Try.func120, Try.ntmps120
      go_wp2_with fail
      go_ret
      exact ⟨rfl, rfl⟩
  · have d0 : decide (0 ≤ L) = false := by simpa using h0
    have hf : bearB L W = false := by unfold bearB; simp; omega
    rw [hf]
    go_enter Try.func120, Try.ntmps120
    go_wp2_with fail
    go_ret
    exact ⟨rfl, rfl⟩

set_option maxHeartbeats 2000000 in
theorem refless_any (L W i L2 W2 i2 : Int) (w : World) : Calls Try.prog 130 #[.int .i64 L, .int .i64 W, .int .i64 i, .int .i64 L2, .int .i64 W2, .int .i64 i2] w fun e w' => e = .returned (.bool (lessB L W i L2 W2 i2)) ∧ w = w' := by
  by_cases h0 : L < 0
  · have d0 : decide (L < 0) = true := by simpa using h0
    have hf : lessB L W i L2 W2 i2 = false := by
      have : bearB L W = false ∨ bearB L2 W2 = false := by unfold bearB; simp; omega
      unfold lessB; rcases this with h | h <;> simp [h]
    rw [hf]
    go_enter Try.func130, Try.ntmps130
    go_wp2_with fail
    go_ret
    exact ⟨rfl, rfl⟩
  · have d0 : decide (L < 0) = false := by simpa using h0
    by_cases h1 : 1099511627776 < L
    · have d1 : decide (1099511627776 < L) = true := by simpa using h1
      have hf : lessB L W i L2 W2 i2 = false := by
        have : bearB L W = false ∨ bearB L2 W2 = false := by unfold bearB; simp; omega
        unfold lessB; rcases this with h | h <;> simp [h]
      rw [hf]
      go_enter Try.func130, Try.ntmps130
      go_wp2_with fail
      go_ret
      exact ⟨rfl, rfl⟩
    · have d1 : decide (1099511627776 < L) = false := by simpa using h1
      by_cases h2 : L2 < 0
      · have d2 : decide (L2 < 0) = true := by simpa using h2
        have hf : lessB L W i L2 W2 i2 = false := by
          have : bearB L W = false ∨ bearB L2 W2 = false := by unfold bearB; simp; omega
          unfold lessB; rcases this with h | h <;> simp [h]
        rw [hf]
        go_enter Try.func130, Try.ntmps130
        go_wp2_with fail
        go_ret
        exact ⟨rfl, rfl⟩
      · have d2 : decide (L2 < 0) = false := by simpa using h2
        by_cases h3 : 1099511627776 < L2
        · have d3 : decide (1099511627776 < L2) = true := by simpa using h3
          have hf : lessB L W i L2 W2 i2 = false := by
            have : bearB L W = false ∨ bearB L2 W2 = false := by unfold bearB; simp; omega
            unfold lessB; rcases this with h | h <;> simp [h]
          rw [hf]
          go_enter Try.func130, Try.ntmps130
          go_wp2_with fail
          go_ret
          exact ⟨rfl, rfl⟩
        · have d3 : decide (1099511627776 < L2) = false := by simpa using h3
          by_cases h4 : W < 1
          · have d4 : decide (W < 1) = true := by simpa using h4
            have hf : lessB L W i L2 W2 i2 = false := by
              have : bearB L W = false ∨ bearB L2 W2 = false := by unfold bearB; simp; omega
              unfold lessB; rcases this with h | h <;> simp [h]
            rw [hf]
            go_enter Try.func130, Try.ntmps130
            go_wp2_with fail
            go_ret
            exact ⟨rfl, rfl⟩
          · have d4 : decide (W < 1) = false := by simpa using h4
            by_cases h5 : 1000 < W
            · have d5 : decide (1000 < W) = true := by simpa using h5
              have hf : lessB L W i L2 W2 i2 = false := by
                have : bearB L W = false ∨ bearB L2 W2 = false := by unfold bearB; simp; omega
                unfold lessB; rcases this with h | h <;> simp [h]
              rw [hf]
              go_enter Try.func130, Try.ntmps130
              go_wp2_with fail
              go_ret
              exact ⟨rfl, rfl⟩
            · have d5 : decide (1000 < W) = false := by simpa using h5
              by_cases h6 : W2 < 1
              · have d6 : decide (W2 < 1) = true := by simpa using h6
                have hf : lessB L W i L2 W2 i2 = false := by
                  have : bearB L W = false ∨ bearB L2 W2 = false := by unfold bearB; simp; omega
                  unfold lessB; rcases this with h | h <;> simp [h]
                rw [hf]
                go_enter Try.func130, Try.ntmps130
                go_wp2_with fail
                go_ret
                exact ⟨rfl, rfl⟩
              · have d6 : decide (W2 < 1) = false := by simpa using h6
                by_cases h7 : 1000 < W2
                · have d7 : decide (1000 < W2) = true := by simpa using h7
                  have hf : lessB L W i L2 W2 i2 = false := by
                    have : bearB L W = false ∨ bearB L2 W2 = false := by unfold bearB; simp; omega
                    unfold lessB; rcases this with h | h <;> simp [h]
                  rw [hf]
                  go_enter Try.func130, Try.ntmps130
                  go_wp2_with fail
                  go_ret
                  exact ⟨rfl, rfl⟩
                · have d7 : decide (1000 < W2) = false := by simpa using h7
                  have b1 : bearB L W = true := by unfold bearB; simp; omega
                  have b2 : bearB L2 W2 = true := by unfold bearB; simp; omega
                  have r1 := mul_rng (L := L) (W := W2) (by omega) (by omega) (by omega) (by omega)
                  have r2 := mul_rng (L := L2) (W := W) (by omega) (by omega) (by omega) (by omega)
                  have hf : lessB L W i L2 W2 i2 = (decide (L * W2 < L2 * W) || (decide (L * W2 = L2 * W) && decide (i < i2))) := by unfold lessB; rw [b1, b2]; simp
                  rw [hf]
                  clear b1 b2 hf
                  obtain ⟨p, hp⟩ : ∃ p, L * W2 = p := ⟨_, rfl⟩
                  obtain ⟨q, hq⟩ : ∃ q, L2 * W = q := ⟨_, rfl⟩
                  rw [hp] at r1 ⊢
                  rw [hq] at r2 ⊢
                  have w3 : wrap64 (L * W2) = p := by rw [hp]; exact wrap64_id _ (by omega)
                  have w4 : wrap64 (L2 * W) = q := by rw [hq]; exact wrap64_id _ (by omega)
                  replace hp := Lib.hid hp
                  replace hq := Lib.hid hq
                  by_cases g1 : p < q
                  · have e1 : decide (p < q) = true := by simpa using g1
                    go_enter Try.func130, Try.ntmps130
                    go_wp2_with fail
                    go_ret
                    refine ⟨?_, rfl⟩
                    show Ending.returned (.bool _) = _
                    simp
                  · have e1 : decide (p < q) = false := by simpa using g1
                    by_cases g2 : p = q
                    · subst g2
                      have e2 : (p == p) = true := by simp
                      go_enter Try.func130, Try.ntmps130
                      go_wp2_with fail
                      go_ret
                      refine ⟨?_, rfl⟩
                      show Ending.returned (.bool _) = _
                      simp
                    · have e2 : (p == q) = false := by simpa using g2
                      go_enter Try.func130, Try.ntmps130
                      go_wp2_with fail
                      go_ret
                      refine ⟨?_, rfl⟩
                      show Ending.returned (.bool _) = _
                      simp

set_option maxHeartbeats 2000000 in
theorem less_any (L W i L2 W2 i2 : Int) (w : World) : Calls Try.prog 88 #[.int .i64 L, .int .i64 W, .int .i64 i, .int .i64 L2, .int .i64 W2, .int .i64 i2] w fun e w' => e = .returned (.bool (lessB L W i L2 W2 i2)) ∧ Below w.heap.size w w' := by
  have B1 := bears_any L W
  have B2 := bears_any L2 W2
  unfold lessB
  obtain ⟨o1, ho1⟩ : ∃ o, bearB L W = o := ⟨_, rfl⟩
  obtain ⟨o2, ho2⟩ : ∃ o, bearB L2 W2 = o := ⟨_, rfl⟩
  rw [ho1] at B1 ⊢
  rw [ho2] at B2 ⊢
  replace B1 := Lib.hid B1
  replace B2 := Lib.hid B2
  cases o1
  · go_enter Try.func88, Try.ntmps88
    go_wp2_with (go_at_call 120; with_reducible refine (B1.out _).mono ?_; rintro e w1 ⟨rfl, rfl⟩)
    go_ret
    exact ⟨rfl, Below.refl _ _⟩
  cases o2
  · go_enter Try.func88, Try.ntmps88
    go_wp2_with (go_at_call 120; first | (with_reducible refine (B1.out _).mono ?_; rintro e w1 ⟨rfl, rfl⟩) | (with_reducible refine (B2.out _).mono ?_; rintro e w1 ⟨rfl, rfl⟩))
    go_ret
    exact ⟨rfl, Below.refl _ _⟩
  obtain ⟨a1, a2, a3, a4⟩ := bearB_t ho1
  obtain ⟨c1, c2, c3, c4⟩ := bearB_t ho2
  clear ho1 ho2
  obtain ⟨L, rfl⟩ := Int.eq_ofNat_of_zero_le a1
  obtain ⟨L2, rfl⟩ := Int.eq_ofNat_of_zero_le c1
  obtain ⟨W, rfl⟩ := Int.eq_ofNat_of_zero_le (show 0 ≤ W by omega)
  obtain ⟨W2, rfl⟩ := Int.eq_ofNat_of_zero_le (show 0 ≤ W2 by omega)
  have C := fun w0 => cross_any L W2 L2 W w0 (by omega) (by omega) (by omega) (by omega)
  have C2 := C
  rw [show (L : Int) * (W2 : Int) = ((L * W2 : Nat) : Int) by simp, show (L2 : Int) * (W : Int) = ((L2 * W : Nat) : Int) by simp]
  clear C
  generalize L * W2 = p at *
  generalize L2 * W = q at *
  unfold cmpI at C2
  by_cases g1 : (p : Int) < (q : Int)
  · rw [if_pos g1] at C2
    replace C2 := Lib.hid C2
    replace g1 := Lib.hid g1
    go_enter Try.func88, Try.ntmps88
    go_wp2_with (first | (go_at_call 120; first | (with_reducible refine (B1.out _).mono ?_; rintro e w1 ⟨rfl, rfl⟩) | (with_reducible refine (B2.out _).mono ?_; rintro e w1 ⟨rfl, rfl⟩)) | (go_at_call 63; go_must (with_reducible refine (C2.out _).mono ?_; rintro e w2 ⟨rfl, hb2⟩)))
    go_ret
    refine ⟨?_, hb2⟩
    show Ending.returned (.bool _) = _
    simp [show p < q by have := g1.out; omega]
  · rw [if_neg g1] at C2
    by_cases g2 : (p : Int) = (q : Int)
    · obtain rfl : p = q := by omega
      rw [if_neg g1] at C2
      replace C2 := Lib.hid C2
      clear g1 g2
      go_enter Try.func88, Try.ntmps88
      go_wp2_with (first | (go_at_call 120; first | (with_reducible refine (B1.out _).mono ?_; rintro e w1 ⟨rfl, rfl⟩) | (with_reducible refine (B2.out _).mono ?_; rintro e w1 ⟨rfl, rfl⟩)) | (go_at_call 63; go_must (with_reducible refine (C2.out _).mono ?_; rintro e w2 ⟨rfl, hb2⟩)))
      go_ret
      refine ⟨?_, hb2⟩
      show Ending.returned (.bool _) = _
      simp
    · rw [if_pos (by omega)] at C2
      replace C2 := Lib.hid C2
      replace g1 := Lib.hid g1
      replace g2 := Lib.hid g2
      go_enter Try.func88, Try.ntmps88
      go_wp2_with (first | (go_at_call 120; first | (with_reducible refine (B1.out _).mono ?_; rintro e w1 ⟨rfl, rfl⟩) | (with_reducible refine (B2.out _).mono ?_; rintro e w1 ⟨rfl, rfl⟩)) | (go_at_call 63; go_must (with_reducible refine (C2.out _).mono ?_; rintro e w2 ⟨rfl, hb2⟩)))
      go_ret
      refine ⟨?_, hb2⟩
      show Ending.returned (.bool _) = _
      simp [show ¬ p < q by have := g1.out; omega, g2.out]
end Go.Proofs.Ytdkcjfcjckpjcaa

