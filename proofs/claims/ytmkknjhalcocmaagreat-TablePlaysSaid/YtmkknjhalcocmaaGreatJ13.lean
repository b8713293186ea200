/- Plain arithmetic of products in two halves. num: contracts. num: the program's functions and the reference's. num: masks, widths, scaled and rounded numbers. num: Scale, Round, Ahead; awake. -/
import Derived.Test.YtmkknjhalcocmaaGreatJ2
import Derived.Laws.BitsAllLaws
import Derived.Test.YtmkknjhalcocmaaGreatJ6
import Derived.Test.YtmkknjhalcocmaaGreatShelf
import Derived.Deep.RegionHeld3
namespace Go.Proofs.YtmkknjhalcocmaaGreat
open Go Go.RowKit

theorem wrap_u64 (n : Int) : IntKind.u64.wrap n = n % 18446744073709551616 := by simp [IntKind.wrap, IntKind.bits, IntKind.signed]
theorem or_u64_join (x y : Nat) (hx : x < 18446744073709551616) (h2 : x % 2 = 0) (hy : y < 2) : bits .or .u64 (x : Int) (y : Int) = ((x + y : Nat) : Int) := by
  rw [u64_or_nat x y hx (by omega), nat_join 1 x y (by simpa using h2) (by omega)]

def dbl (hi lo add : Nat) : Nat := (hi * 18446744073709551616 + lo) * 2 + add
theorem twice_plain (hi lo add : Nat) (_h1 : hi < 18446744073709551616) (h2 : lo < 18446744073709551616) (h3 : add < 18446744073709551616) (hb : dbl hi lo add < 340282366920938463463374607431768211456) :
    (IntKind.u64.wrap (IntKind.u64.wrap ((lo : Int) * 2) + (add : Int)) = ((dbl hi lo add % 18446744073709551616 : Nat) : Int)) ∧
    (IntKind.u64.wrap (IntKind.u64.wrap ((lo : Int) * 2) + (add : Int)) < IntKind.u64.wrap ((lo : Int) * 2) → IntKind.u64.wrap (bits BinOp.or IntKind.u64 (IntKind.u64.wrap ((hi : Int) * 2)) ((lo : Int) / 9223372036854775808) + 1) = ((dbl hi lo add / 18446744073709551616 : Nat) : Int)) ∧
    (IntKind.u64.wrap ((lo : Int) * 2) ≤ IntKind.u64.wrap (IntKind.u64.wrap ((lo : Int) * 2) + (add : Int)) → bits BinOp.or IntKind.u64 (IntKind.u64.wrap ((hi : Int) * 2)) ((lo : Int) / 9223372036854775808) = ((dbl hi lo add / 18446744073709551616 : Nat) : Int)) := by
  unfold dbl at hb ⊢
  have e1 : IntKind.u64.wrap ((hi : Int) * 2) = ((hi * 2 % 18446744073709551616 : Nat) : Int) := by rw [wrap_u64]; omega
  have e2 : (lo : Int) / 9223372036854775808 = ((lo / 9223372036854775808 : Nat) : Int) := by omega
  have e3 := or_u64_join (hi * 2 % 18446744073709551616) (lo / 9223372036854775808) (by omega) (by omega) (by omega)
  rw [e1, e2, e3]
  simp only [wrap_u64]
  omega

/-- The bits of a from i on, times b. -/
def part (a b i : Nat) : Nat := a / 2 ^ i * b
theorem part_step (a b i : Nat) : part a b i = part a b (i + 1) * 2 + (if a / 2 ^ i % 2 = 1 then b else 0) := by
  unfold part
  have e : a / 2 ^ i = a / 2 ^ (i + 1) * 2 + a / 2 ^ i % 2 := by
    rw [Nat.pow_succ, ← Nat.div_div_eq_div_mul]; omega
  have hm : a / 2 ^ i % 2 = 0 ∨ a / 2 ^ i % 2 = 1 := by omega
  generalize a / 2 ^ i = q at *
  generalize a / 2 ^ (i + 1) = r at *
  rcases hm with h | h
  · rw [if_neg (by omega), e, h]
    rw [Nat.add_zero, Nat.add_zero, Nat.mul_assoc, Nat.mul_comm 2 b, ← Nat.mul_assoc]
  · rw [if_pos h, e, h, Nat.add_mul, Nat.one_mul, Nat.mul_assoc, Nat.mul_comm 2 b, ← Nat.mul_assoc]
theorem part_lt (a b i : Nat) (ha : a < 18446744073709551616) (hb : b < 18446744073709551616) : part a b i < 340282366920938463463374607431768211456 := by
  unfold part
  have h1 : a / 2 ^ i ≤ a := Nat.div_le_self _ _
  have h2 : a / 2 ^ i * b ≤ 18446744073709551615 * 18446744073709551615 := Nat.mul_le_mul (by omega) (by omega)
  omega
theorem part_top (a b : Nat) (ha : a < 18446744073709551616) : part a b 64 = 0 := by
  unfold part
  rw [Nat.div_eq_of_lt ha, Nat.zero_mul]
theorem part_zero (a b : Nat) : part a b 0 = a * b := by simp [part]
theorem dbl_halves (p add : Nat) : dbl (p / 18446744073709551616) (p % 18446744073709551616) add = p * 2 + add := by unfold dbl; omega
end Go.Proofs.YtmkknjhalcocmaaGreat

namespace Go.Proofs.YtmkknjhalcocmaaGreat
open Go Go.RowKit Go.Deep

theorem ret_two {k l : IntKind} {a b c d : Int} (h : a = b) (h2 : c = d) : Ending.returned (.tuple #[.int k a, .int l c]) = .returned (.tuple #[.int k b, .int l d]) := by rw [h, h2]
def bitAt (a j : Nat) : Bool := a / 2 ^ j % 2 == 1
theorem bitAt_bits (a j : Nat) (ha : a < 18446744073709551616) : (bits BinOp.and IntKind.u64 ((a : Int) / 2 ^ j) 1 == 1) = bitAt a j := by
  have e : (a : Int) / 2 ^ j = ((a / 2 ^ j : Nat) : Int) := by simp
  have hl : a / 2 ^ j ≤ a := Nat.div_le_self _ _
  rw [e, show (1 : Int) = ((1 : Nat) : Int) from rfl, u64_and_nat _ _ (by omega) (by omega), Nat.and_one_is_mod, bitAt, Bool.eq_iff_iff]
  simp only [beq_iff_eq]
  omega
theorem part_bit (a b j : Nat) : (part a b j : Int) = (part a b (j + 1) : Int) * 2 + (if bitAt a j then (b : Int) else 0) := by
  have := part_step a b j
  unfold bitAt
  by_cases h : a / 2 ^ j % 2 = 1
  · rw [if_pos h] at this; simp [h]; omega
  · rw [if_neg h] at this; simp [h]; omega

end Go.Proofs.YtmkknjhalcocmaaGreat

namespace Go.Proofs.YtmkknjhalcocmaaGreat
open Go Go.RowKit Go.Deep

def cmpI (x y : Int) : Int := if x < y then -1 else if y < x then 1 else 0
def orI (x y : Int) : Int := if x = 0 then y else x
theorem or_any (x y : Int) (g : Nat) (w : World) (h : Blk w g 3 #[.int .i64 x, .int .i64 y]) : Calls Tryz.prog 70 #[.slice (some ⟨g, 0, none⟩) 2 2] w fun e w' => e = .returned (.int .i64 (orI x y)) ∧ w = w' := by
  have c0 := h.cell 0
  have c1 := h.cell 1
  simp at c0 c1
  go_enter Tryz.func70, Tryz.ntmps70
  go_wp2_with fail
  refine wp_loop_rounds 3 ?_
  iterate 3 (all_goals (try (rw [rounds_succ])); all_goals (go_wp2_with fail))
  all_goals go_ret
  all_goals refine ⟨ret_int ?_, rfl⟩
  all_goals simp_all [orI]

theorem cross_halves (p q : Int) (_hp : 0 ≤ p) (_hq : 0 ≤ q) : orI (cmpI (p / 18446744073709551616) (q / 18446744073709551616)) (cmpI (p % 18446744073709551616) (q % 18446744073709551616)) = cmpI p q := by
  unfold orI cmpI
  repeat' split
  all_goals omega

end Go.Proofs.YtmkknjhalcocmaaGreat

namespace Go.Proofs.YtmkknjhalcocmaaGreat
open Go Go.RowKit Go.Deep

theorem refcross_halves (p q : Int) : (p / 18446744073709551616 < q / 18446744073709551616 ∨ p / 18446744073709551616 = q / 18446744073709551616 ∧ p % 18446744073709551616 < q % 18446744073709551616) ↔ p < q := by omega
def maskI (k : Int) : Int := if k < 0 ∨ 64 < k then 0 else ((2 ^ k.toNat - 1 : Nat) : Int)
theorem mask_val : ∀ k : Fin 65, bits BinOp.xor IntKind.u64 IntKind.u64.max (IntKind.u64.wrap (18446744073709551615 * 2 ^ k.val)) = ((2 ^ k.val - 1 : Nat) : Int) := by decide +kernel
theorem mask_any (k : Int) (w : World) : Calls Tryz.prog 42 #[.int .i64 k] w fun e w' => e = .returned (.int .u64 (maskI k)) ∧ w = w' := by
  go_enter Tryz.func42, Tryz.ntmps42
  go_wp2
  all_goals go_ret
  all_goals refine ⟨ret_int ?_, rfl⟩
  · unfold maskI; rw [if_pos (by assumption)]
  · have h : 0 ≤ k ∧ k ≤ 64 := by assumption
    unfold maskI; rw [if_neg (by omega)]
    exact mask_val ⟨k.toNat, by omega⟩
  · have h : k < 0 := by assumption
    unfold maskI; rw [if_pos (by omega)]

theorem or_one (P : Int) (h0 : 0 ≤ P) (h1 : P < 9223372036854775808) : bits BinOp.or IntKind.u64 (P * 2) 1 = P * 2 + 1 := by
  obtain ⟨p, rfl⟩ := Int.eq_ofNat_of_zero_le h0
  have := or_u64_join (p * 2) 1 (by omega) (by omega) (by omega)
  rw [show (p : Int) * 2 = ((p * 2 : Nat) : Int) by omega, show (1 : Int) = ((1 : Nat) : Int) from rfl, this]
  omega
theorem pow_le (i : Nat) (h : i < 64) : 2 ^ i ≤ 9223372036854775808 := Nat.le_trans (Nat.pow_le_pow_right (by omega) (show i ≤ 63 by omega)) (by decide)
theorem refmask_any (k : Int) (w : World) : Calls Tryz.prog 54 #[.int .i64 k] w fun e w' => e = .returned (.int .u64 (maskI k)) ∧ w = w' := by
  by_cases h : k < 0 ∨ 64 < k
  · have e : maskI k = 0 := by unfold maskI; rw [if_pos h]
    replace e := Lib.hid e
    rcases h with h | h
    · have h0 : ¬ 0 < k := by omega
      go_enter Tryz.func54, Tryz.ntmps54
      go_wp2_with fail
      refine wp_loop_rounds 1 ?_
      rw [rounds_succ]
      go_wp2_with fail
      go_ret
      exact ⟨by rw [e.out]; rfl, rfl⟩
    · have h0 : 0 < k := by omega
      have h1 : ¬ k ≤ 64 := by omega
      go_enter Tryz.func54, Tryz.ntmps54
      go_wp2_with fail
      refine wp_loop_rounds 1 ?_
      rw [rounds_succ]
      go_wp2_with fail
      go_ret
      exact ⟨by rw [e.out]; rfl, rfl⟩
  · have h64 : k ≤ 64 := by omega
    obtain ⟨m, rfl⟩ : ∃ m : Nat, k = m := ⟨k.toNat, by omega⟩
    have e : maskI m = ((2 ^ m - 1 : Nat) : Int) := by unfold maskI; rw [if_neg h]; rfl
    replace e := Lib.hid e
    clear h
    go_enter Tryz.func54, Tryz.ntmps54
    go_wp2_with fail
    go_loop [3, 4] (fun n i => ∃ (j : Nat) (P : Int), j ≤ m ∧ i = .int .i64 (j : Nat) ∧ n = .int .u64 P ∧ P = ((2 ^ j - 1 : Nat) : Int)) (fun _ i => m - (intOf i).toNat)
    case atStart => exact ⟨0, 0, Nat.zero_le _, rfl, rfl, rfl⟩
    case round =>
      obtain ⟨j, P, hj, rfl, rfl, hP⟩ := hrel
      by_cases hlt : j < m
      · have hp := pow_le j (by omega)
        have hpos : 0 < 2 ^ j := Nat.pow_pos (by omega)
        have h0 : 0 ≤ P := by omega
        have h1 : P < 9223372036854775808 := by omega
        have O := or_one P h0 h1
        have hs : P * 2 + 1 = ((2 ^ (j + 1) - 1 : Nat) : Int) := by rw [Nat.pow_succ]; omega
        replace hs := Lib.hid hs
        replace hP := Lib.hid hP
        clear hp hpos
        go_wp2_with fail
        go_round
        case rel => exact ⟨j + 1, P * 2 + 1, by omega, by go_num, rfl, hs.out⟩
        case measure => simp [intOf]; omega
      · obtain rfl : j = m := by omega
        replace hP := Lib.hid hP
        go_wp2_with fail
        go_ret
        exact ⟨ret_int (by rw [e.out, ← hP.out]), rfl⟩

theorem bitLenAux_zero (f : Nat) : Lib.bitLenAux f 0 = 0 := by cases f <;> simp [Lib.bitLenAux]
theorem bitLenAux_le (f x : Nat) : Lib.bitLenAux f x ≤ f := by
  induction f generalizing x with
  | zero => simp [Lib.bitLenAux]
  | succ f ih =>
    unfold Lib.bitLenAux
    split
    · omega
    · have := ih (x / 2); omega
end Go.Proofs.YtmkknjhalcocmaaGreat

namespace Go.Proofs.YtmkknjhalcocmaaGreat
open Go Go.RowKit Go.Deep

def scaleI (x n : Int) : Int := if n < 1 ∨ 2147483648 < n then 0 else x * n / 18446744073709551616
theorem scale_lt (x n : Nat) (hx : x < 18446744073709551616) (hn : 1 ≤ n) : x * n / 18446744073709551616 < n := by
  rw [Nat.div_lt_iff_lt_mul (by omega), Nat.mul_comm n]
  exact Nat.mul_lt_mul_of_pos_right hx (by omega)

def roundI (n m : Int) : Int := if m < 1 then 0 else n % m
theorem tmod_bounds (n m : Int) (h : 1 ≤ m) : -m < n.tmod m ∧ n.tmod m < m := ⟨by have := Int.lt_tmod_of_pos n (show 0 < m by omega); omega, Int.tmod_lt_of_pos n (by omega)⟩
theorem emod_tmod (n m : Int) : n % m = n.tmod m % m := by
  have e : n = m * n.tdiv m + n.tmod m := (Int.mul_tdiv_add_tmod n m).symm
  have h := Int.mul_add_emod_self_left m (n.tdiv m) (n.tmod m)
  rw [← e] at h
  exact h
theorem round_pos (n m : Int) (h : 1 ≤ m) (hr : 0 ≤ n.tmod m) : n.tmod m = roundI n m := by
  have hb := tmod_bounds n m h
  unfold roundI
  rw [if_neg (by omega), emod_tmod, Int.emod_eq_of_lt hr hb.2]
theorem round_neg (n m : Int) (h : 1 ≤ m) (hr : n.tmod m < 0) : n.tmod m + m = roundI n m := by
  have hb := tmod_bounds n m h
  unfold roundI
  rw [if_neg (by omega), emod_tmod]
  have h2 := Int.add_emod_right (n.tmod m) m
  rw [← h2, Int.emod_eq_of_lt (by omega) (by omega)]
def aheadI (f t : Int) : Int := (t - f) % 4294967296
theorem wrap_u32 (n : Int) : IntKind.u32.wrap n = n % 4294967296 := by simp [IntKind.wrap, IntKind.bits, IntKind.signed]
end Go.Proofs.YtmkknjhalcocmaaGreat
