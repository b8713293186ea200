/- num: masks, widths, scaled and rounded numbers. -/
import Derived.Test.YtdkcjfcjckpjcaaNumB
namespace Go.Proofs.Ytdkcjfcjckpjcaa
open Go Go.RowKit Go.Deep

theorem refcross_halves (p q : Int) : (p / 18446744073709551616 < q / 18446744073709551616 ∨ p / 18446744073709551616 = q / 18446744073709551616 ∧ p % 18446744073709551616 < q % 18446744073709551616) ↔ p < q := by omega
theorem refcross_any (a b c d : Nat) (w : World) (ha : a < 18446744073709551616) (hb : b < 18446744073709551616) (hc : c < 18446744073709551616) (hd : d < 18446744073709551616) :
    Calls Try.prog 67 #[.int .u64 a, .int .u64 b, .int .u64 c, .int .u64 d] w fun e w' => e = .returned (.int .i64 (cmpI ((a * b : Nat) : Int) ((c * d : Nat) : Int))) ∧ w = w' := by
  have C1 := fun W => mul_any a b W ha hb
  have C2 := fun W => mul_any c d W hc hd
  generalize ((a * b : Nat) : Int) = p at *
  generalize ((c * d : Nat) : Int) = q at *
  have H : ∀ p1 p2 q1 q2 : Int, p1 = p / 18446744073709551616 → p2 = p % 18446744073709551616 → q1 = q / 18446744073709551616 → q2 = q % 18446744073709551616 →
      cmpI p q = if p1 < q1 ∨ p1 = q1 ∧ p2 < q2 then -1 else if p1 = q1 ∧ p2 = q2 then 0 else 1 := by
    intro p1 p2 q1 q2 h1 h2 h3 h4
    unfold cmpI
    repeat' split
    all_goals omega
  generalize hp1 : p / 18446744073709551616 = p1 at *
  generalize hp2 : p % 18446744073709551616 = p2 at *
  generalize hq1 : q / 18446744073709551616 = q1 at *
  generalize hq2 : q % 18446744073709551616 = q2 at *
  replace H := H p1 p2 q1 q2 rfl rfl rfl rfl
  clear hp1 hp2 hq1 hq2
  replace H := Lib.hid H
  replace C1 := Lib.hid C1
  replace C2 := Lib.hid C2
  go_enter Try.func67, Try.ntmps67
  go_wp2_with fail
  refine (C1.out _).mono ?_
  rintro e w1 ⟨rfl, rfl⟩
  go_wp2_with fail
  refine (C2.out _).mono ?_
  rintro e w2 ⟨rfl, rfl⟩
  go_wp2_with fail
  all_goals go_ret
  all_goals refine ⟨ret_int ?_, rfl⟩
  all_goals rw [H.out]
  all_goals (repeat' split)
  all_goals (first | rfl | (exfalso; simp_all; done) | (exfalso; simp_all; omega))

def maskI (k : Int) : Int := if k < 0 ∨ 64 < k then 0 else ((2 ^ k.toNat - 1 : Nat) : Int)
theorem mask_val : ∀ k : Fin 65, bits BinOp.xor IntKind.u64 IntKind.u64.max (IntKind.u64.wrap (18446744073709551615 * 2 ^ k.val)) = ((2 ^ k.val - 1 : Nat) : Int) := by decide +kernel
theorem mask_any (k : Int) (w : World) : Calls Try.prog 68 #[.int .i64 k] w fun e w' => e = .returned (.int .u64 (maskI k)) ∧ w = w' := by
  go_enter Try.func68, Try.ntmps68
  go_wp2
  all_goals go_ret
  all_goals refine ⟨ret_int ?_, rfl⟩
  · unfold maskI; rw [if_pos (by assumption)]
  · have h : 0 ≤ k ∧ k ≤ 64 := by assumption
    unfold maskI; rw [if_neg (by omega)]
    exact mask_val ⟨k.toNat, by omega⟩
  · have h : k < 0 := by assumption
    unfold maskI; rw [if_pos (by omega)]

theorem or_one (P : Int) (h0 : 0 ≤ P) (h1 : P < 9223372036854775808) : bits BinOp.or IntKind.u64 (P * 2) 1 = P * 2 + 1 := by
  obtain ⟨p, rfl⟩ := Int.eq_ofNat_of_zero_le h0
  have := or_u64_join (p * 2) 1 (by omega) (by omega) (by omega)
  rw [show (p : Int) * 2 = ((p * 2 : Nat) : Int) by omega, show (1 : Int) = ((1 : Nat) : Int) from rfl, this]
  omega
theorem pow_le (i : Nat) (h : i < 64) : 2 ^ i ≤ 9223372036854775808 := Nat.le_trans (Nat.pow_le_pow_right (by omega) (show i ≤ 63 by omega)) (by decide)
theorem refmask_any (k : Int) (w : World) : Calls Try.prog 69 #[.int .i64 k] w fun e w' => e = .returned (.int .u64 (maskI k)) ∧ w = w' := by
  by_cases h : k < 0 ∨ 64 < k
  · have e : maskI k = 0 := by unfold maskI; rw [if_pos h]
    replace e := Lib.hid e
    rcases h with h | h
    · have h0 : ¬ 0 < k := by omega
      go_enter Try.func69, Try.ntmps69
      go_wp2_with fail
      refine wp_loop_rounds 1 ?_
      rw [rounds_succ]
      go_wp2_with fail
      go_ret
      exact ⟨by rw [e.out]; rfl, rfl⟩
    · have h0 : 0 < k := by omega
      have h1 : ¬ k ≤ 64 := by omega
      go_enter Try.func69, Try.ntmps69
      go_wp2_with fail
      refine wp_loop_rounds 1 ?_
      rw [rounds_succ]
      go_wp2_with fail
      go_ret
      exact ⟨by rw [e.out]; rfl, rfl⟩
  · have h64 : k ≤ 64 := by omega
    obtain ⟨m, rfl⟩ : ∃ m : Nat, k = m := ⟨k.toNat, by omega⟩
    have e : maskI m = ((2 ^ m - 1 : Nat) : Int) := by unfold maskI; rw [if_neg h]; rfl
    replace e := Lib.hid e
    clear h
    go_enter Try.func69, Try.ntmps69
    go_wp2_with fail
    go_loop [3, 4] (fun n i => ∃ (j : Nat) (P : Int), j ≤ m ∧ i = .int .i64 (j : Nat) ∧ n = .int .u64 P ∧ P = ((2 ^ j - 1 : Nat) : Int)) (fun _ i => m - (intOf i).toNat)
    case atStart => exact ⟨0, 0, Nat.zero_le _, rfl, rfl, rfl⟩
    case round =>
      obtain ⟨j, P, hj, rfl, rfl, hP⟩ := hrel
      by_cases hlt : j < m
      · have hp := pow_le j (by omega)
        have hpos : 0 < 2 ^ j := Nat.pow_pos (by omega)
        have h0 : 0 ≤ P := by omega
        have h1 : P < 9223372036854775808 := by omega
        have O := or_one P h0 h1
        have hs : P * 2 + 1 = ((2 ^ (j + 1) - 1 : Nat) : Int) := by rw [Nat.pow_succ]; omega
        replace hs := Lib.hid hs
        replace hP := Lib.hid hP
        clear hp hpos
        go_wp2_with fail
        go_round
        case rel => exact ⟨j + 1, P * 2 + 1, by omega, by go_num, rfl, hs.out⟩
        case measure => simp [intOf]; omega
      · obtain rfl : j = m := by omega
        replace hP := Lib.hid hP
        go_wp2_with fail
        go_ret
        exact ⟨ret_int (by rw [e.out, ← hP.out]), rfl⟩

theorem width_any (n : Nat) (w : World) (hn : n < 18446744073709551616) : Calls Try.prog 70 #[.int .u64 n] w fun e w' => e = .returned (.int .i64 (Lib.bitLen n)) ∧ w = w' := by
  go_enter Try.func70, Try.ntmps70
  go_wp2_with (go_at_call 110; refine (Try.bits_Len64 _ _ (by omega) (by omega)).mono ?_; rintro e w' ⟨rfl, rfl⟩)
  go_ret
  exact ⟨rfl, rfl⟩
theorem bitLenAux_zero (f : Nat) : Lib.bitLenAux f 0 = 0 := by cases f <;> simp [Lib.bitLenAux]
theorem bitLenAux_le (f x : Nat) : Lib.bitLenAux f x ≤ f := by
  induction f generalizing x with
  | zero => simp [Lib.bitLenAux]
  | succ f ih =>
    unfold Lib.bitLenAux
    split
    · omega
    · have := ih (x / 2); omega
theorem refwidth_any (n : Nat) (w : World) (hn : n < 18446744073709551616) : Calls Try.prog 71 #[.int .u64 n] w fun e w' => e = .returned (.int .i64 (Lib.bitLen n)) ∧ w = w' := by
  go_enter Try.func71, Try.ntmps71
  go_wp2_with fail
  go_loop [0, 3] (fun v k => ∃ (x f j : Nat), f + j = 64 ∧ x < 2 ^ f ∧ v = .int .u64 (x : Nat) ∧ k = .int .i64 (j : Nat) ∧ Lib.bitLen n = j + Lib.bitLenAux f x) (fun v _ => (intOf v).toNat)
  case atStart => exact ⟨n, 64, 0, rfl, hn, rfl, rfl, by simp [Lib.bitLen]⟩
  case round =>
    obtain ⟨x, f, j, hf, hx, rfl, rfl, hb⟩ := hrel
    by_cases hz : x = 0
    · subst hz
      rw [bitLenAux_zero] at hb
      replace hb := Lib.hid hb
      replace hf := Lib.hid hf
      clear hx
      have h0 : ¬ (0 < ((0 : Nat) : Int)) := by omega
      go_wp2_with fail
      go_ret
      exact ⟨ret_int (by rw [hb.out]; simp), rfl⟩
    · have hpos : (0 : Int) < (x : Int) := by omega
      obtain ⟨g, rfl⟩ : ∃ g, f = g + 1 := ⟨f - 1, by
        rcases Nat.eq_zero_or_pos f with h | h
        · subst h; simp at hx; omega
        · omega⟩
      have hs : Lib.bitLenAux (g + 1) x = 1 + Lib.bitLenAux g (x / 2) := by rw [Lib.bitLenAux, if_neg hz]
      rw [hs] at hb
      have hx2 : x / 2 < 2 ^ g := by rw [Nat.pow_succ] at hx; omega
      have hj : j ≤ 64 := by omega
      replace hb := Lib.hid hb
      replace hf := Lib.hid hf
      clear hx hs
      replace hx2 := Lib.hid hx2
      go_wp2_with fail
      go_round
      case rel => exact ⟨x / 2, g, j + 1, by have := hf.out; omega, hx2.out, by first | rfl | go_num | simp, by go_num, by rw [hb.out]; omega⟩
      case measure => simp [intOf]; omega
end Go.Proofs.Ytdkcjfcjckpjcaa
