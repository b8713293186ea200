/- num: contracts. -/
import Derived.Test.YtdkcjfcjckpjcaaInts
import Derived.Test.YtdkcjfcjckpjcaaNumP
namespace Go.Proofs.Ytdkcjfcjckpjcaa
open Go Go.RowKit Go.Deep

theorem ret_two {k l : IntKind} {a b c d : Int} (h : a = b) (h2 : c = d) : Ending.returned (.tuple #[.int k a, .int l c]) = .returned (.tuple #[.int k b, .int l d]) := by rw [h, h2]
theorem twice_any (hi lo add : Nat) (w : World) (h1 : hi < 18446744073709551616) (h2 : lo < 18446744073709551616) (h3 : add < 18446744073709551616) (hb : dbl hi lo add < 340282366920938463463374607431768211456) :
    Calls Try.prog 128 #[.int .u64 hi, .int .u64 lo, .int .u64 add] w fun e w' => e = .returned (.tuple #[.int .u64 ((dbl hi lo add / 18446744073709551616 : Nat) : Int), .int .u64 ((dbl hi lo add % 18446744073709551616 : Nat) : Int)]) ∧ w = w' := by
  have T := twice_plain hi lo add h1 h2 h3 hb
  replace T := Lib.hid T
  clear hb
  go_enter Try.func128, Try.ntmps128
  go_wp2
  all_goals go_ret2
  all_goals obtain ⟨T1, T2, T3⟩ := T.out
  · exact ⟨ret_two (T2 (by assumption)) T1, rfl⟩
  · exact ⟨ret_two (T3 (by assumption)) T1, rfl⟩

theorem twice_int (hi lo add : Int) (w : World) (h0 : 0 ≤ hi) (h1 : hi < 18446744073709551616) (l0 : 0 ≤ lo) (h2 : lo < 18446744073709551616) (a0 : 0 ≤ add) (h3 : add < 18446744073709551616) (P : Int) (hP : (hi * 18446744073709551616 + lo) * 2 + add = P) (hb : P < 340282366920938463463374607431768211456) :
    Calls Try.prog 128 #[.int .u64 hi, .int .u64 lo, .int .u64 add] w fun e w' => e = .returned (.tuple #[.int .u64 (P / 18446744073709551616), .int .u64 (P % 18446744073709551616)]) ∧ w = w' := by
  obtain ⟨hi, rfl⟩ := Int.eq_ofNat_of_zero_le h0
  obtain ⟨lo, rfl⟩ := Int.eq_ofNat_of_zero_le l0
  obtain ⟨add, rfl⟩ := Int.eq_ofNat_of_zero_le a0
  have e : ((dbl hi lo add : Nat) : Int) = P := by rw [← hP]; simp [dbl]
  have T := twice_any hi lo add w (by omega) (by omega) (by omega) (by omega)
  rw [Int.natCast_ediv, Int.natCast_emod, e] at T
  exact T

def bitAt (a j : Nat) : Bool := a / 2 ^ j % 2 == 1
theorem bitAt_bits (a j : Nat) (ha : a < 18446744073709551616) : (bits BinOp.and IntKind.u64 ((a : Int) / 2 ^ j) 1 == 1) = bitAt a j := by
  have e : (a : Int) / 2 ^ j = ((a / 2 ^ j : Nat) : Int) := by simp
  have hl : a / 2 ^ j ≤ a := Nat.div_le_self _ _
  rw [e, show (1 : Int) = ((1 : Nat) : Int) from rfl, u64_and_nat _ _ (by omega) (by omega), Nat.and_one_is_mod, bitAt, Bool.eq_iff_iff]
  simp only [beq_iff_eq]
  omega
theorem part_bit (a b j : Nat) : (part a b j : Int) = (part a b (j + 1) : Int) * 2 + (if bitAt a j then (b : Int) else 0) := by
  have := part_step a b j
  unfold bitAt
  by_cases h : a / 2 ^ j % 2 = 1
  · rw [if_pos h] at this; simp [h]; omega
  · rw [if_neg h] at this; simp [h]; omega

set_option maxHeartbeats 400000 in
theorem mul_any (a b : Nat) (w : World) (ha : a < 18446744073709551616) (hb : b < 18446744073709551616) :
    Calls Try.prog 109 #[.int .u64 a, .int .u64 b] w fun e w' => e = .returned (.tuple #[.int .u64 (((a * b : Nat) : Int) / 18446744073709551616), .int .u64 (((a * b : Nat) : Int) % 18446744073709551616)]) ∧ w = w' := by
  go_enter Try.func109, Try.ntmps109
  go_wp2
  go_loop [6, 7, 8] (fun h l i => ∃ (k : Nat) (P : Int), k ≤ 64 ∧ i = .int .i64 ((k : Int) - 1) ∧ P = part a b k ∧ h = .int .u64 (P / 18446744073709551616) ∧ l = .int .u64 (P % 18446744073709551616)) (fun _ _ i => (intOf i + 1).toNat)
  case atStart => exact ⟨64, 0, Nat.le_refl _, rfl, by rw [part_top a b ha]; rfl, rfl, rfl⟩
  case round =>
    obtain ⟨k, P, hk, rfl, hP, rfl, rfl⟩ := hrel
    have hP1 := part_lt a b k ha hb
    have hP0 : 0 ≤ P := by omega
    have hP2 : P < 340282366920938463463374607431768211456 := by omega
    by_cases hz : k = 0
    · subst hz
      rw [part_zero] at hP
      replace hP := Lib.hid hP
      have h0 : ¬ (0 ≤ ((0 : Nat) : Int) - 1) := by omega
      clear hP1
      go_wp2
      go_ret2
      rw [hP.out]
      exact ⟨rfl, rfl⟩
    · obtain ⟨j, rfl⟩ : ∃ j, k = j + 1 := ⟨k - 1, by omega⟩
      have hj : ((j + 1 : Nat) : Int) - 1 = (j : Int) := by omega
      rw [hj]
      clear hj hz
      have hj0 : 0 ≤ (j : Int) := by omega
      have hj63 : (j : Int) ≤ 63 := by omega
      have B := bitAt_bits a j ha
      have S := part_bit a b j
      have hP3 := part_lt a b j ha hb
      rw [← hP] at S
      obtain ⟨Q, hQ⟩ : ∃ Q : Int, Q = part a b j := ⟨_, rfl⟩
      have C := fun add => twice_int (P / 18446744073709551616) (P % 18446744073709551616) add w (by omega) (by omega) (by omega) (by omega)
      replace C := Lib.hid C
      have hQ3 : Q < 340282366920938463463374607431768211456 := by omega
      rw [← hQ] at S
      rcases hbit : bitAt a j with _ | _
      · rw [hbit] at B S
        simp at S
        replace S := Lib.hid S
        replace hQ := Lib.hid hQ
        replace hP := Lib.hid hP
        clear hP1 hP3 hbit
        go_wp2_with fail
        refine (C.out 0 (by omega) (by omega) Q (by rw [S.out]; omega) hQ3).mono ?_
        rintro e w' ⟨rfl, rfl⟩
        go_wp2_with fail
        go_round
        case rel => exact ⟨j, Q, by omega, by go_num, hQ.out, rfl, rfl⟩
        case measure => simp [intOf]
      · rw [hbit] at B S
        simp at S
        replace S := Lib.hid S
        replace hQ := Lib.hid hQ
        replace hP := Lib.hid hP
        clear hP1 hP3 hbit
        go_wp2_with fail
        refine (C.out b (by omega) (by omega) Q (by rw [S.out]; omega) hQ3).mono ?_
        rintro e w' ⟨rfl, rfl⟩
        go_wp2_with fail
        go_round
        case rel => exact ⟨j, Q, by omega, by go_num, hQ.out, rfl, rfl⟩
        case measure => simp [intOf]
end Go.Proofs.Ytdkcjfcjckpjcaa
