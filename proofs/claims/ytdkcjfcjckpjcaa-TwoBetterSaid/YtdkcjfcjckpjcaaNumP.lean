/- Plain arithmetic of products in two halves. -/
import Derived.Test.YtdkcjfcjckpjcaaBase
import Derived.Laws.BitsAllLaws
namespace Go.Proofs.Ytdkcjfcjckpjcaa
open Go Go.RowKit

theorem wrap_u64 (n : Int) : IntKind.u64.wrap n = n % 18446744073709551616 := by simp [IntKind.wrap, IntKind.bits, IntKind.signed]
theorem or_u64_join (x y : Nat) (hx : x < 18446744073709551616) (h2 : x % 2 = 0) (hy : y < 2) : bits .or .u64 (x : Int) (y : Int) = ((x + y : Nat) : Int) := by
  rw [u64_or_nat x y hx (by omega), nat_join 1 x y (by simpa using h2) (by omega)]

def dbl (hi lo add : Nat) : Nat := (hi * 18446744073709551616 + lo) * 2 + add
theorem twice_plain (hi lo add : Nat) (_h1 : hi < 18446744073709551616) (h2 : lo < 18446744073709551616) (h3 : add < 18446744073709551616) (hb : dbl hi lo add < 340282366920938463463374607431768211456) :
    (IntKind.u64.wrap (IntKind.u64.wrap ((lo : Int) * 2) + (add : Int)) = ((dbl hi lo add % 18446744073709551616 : Nat) : Int)) ∧
    (IntKind.u64.wrap (IntKind.u64.wrap ((lo : Int) * 2) + (add : Int)) < IntKind.u64.wrap ((lo : Int) * 2) → IntKind.u64.wrap (bits BinOp.or IntKind.u64 (IntKind.u64.wrap ((hi : Int) * 2)) ((lo : Int) / 9223372036854775808) + 1) = ((dbl hi lo add / 18446744073709551616 : Nat) : Int)) ∧
    (IntKind.u64.wrap ((lo : Int) * 2) ≤ IntKind.u64.wrap (IntKind.u64.wrap ((lo : Int) * 2) + (add : Int)) → bits BinOp.or IntKind.u64 (IntKind.u64.wrap ((hi : Int) * 2)) ((lo : Int) / 9223372036854775808) = ((dbl hi lo add / 18446744073709551616 : Nat) : Int)) := by
  unfold dbl at hb ⊢
  have e1 : IntKind.u64.wrap ((hi : Int) * 2) = ((hi * 2 % 18446744073709551616 : Nat) : Int) := by rw [wrap_u64]; omega
  have e2 : (lo : Int) / 9223372036854775808 = ((lo / 9223372036854775808 : Nat) : Int) := by omega
  have e3 := or_u64_join (hi * 2 % 18446744073709551616) (lo / 9223372036854775808) (by omega) (by omega) (by omega)
  rw [e1, e2, e3]
  simp only [wrap_u64]
  omega

/-- The bits of a from i on, times b. -/
def part (a b i : Nat) : Nat := a / 2 ^ i * b
theorem part_step (a b i : Nat) : part a b i = part a b (i + 1) * 2 + (if a / 2 ^ i % 2 = 1 then b else 0) := by
  unfold part
  have e : a / 2 ^ i = a / 2 ^ (i + 1) * 2 + a / 2 ^ i % 2 := by
    rw [Nat.pow_succ, ← Nat.div_div_eq_div_mul]; omega
  have hm : a / 2 ^ i % 2 = 0 ∨ a / 2 ^ i % 2 = 1 := by omega
  generalize a / 2 ^ i = q at *
  generalize a / 2 ^ (i + 1) = r at *
  rcases hm with h | h
  · rw [if_neg (by omega), e, h]
    rw [Nat.add_zero, Nat.add_zero, Nat.mul_assoc, Nat.mul_comm 2 b, ← Nat.mul_assoc]
  · rw [if_pos h, e, h, Nat.add_mul, Nat.one_mul, Nat.mul_assoc, Nat.mul_comm 2 b, ← Nat.mul_assoc]
theorem part_lt (a b i : Nat) (ha : a < 18446744073709551616) (hb : b < 18446744073709551616) : part a b i < 340282366920938463463374607431768211456 := by
  unfold part
  have h1 : a / 2 ^ i ≤ a := Nat.div_le_self _ _
  have h2 : a / 2 ^ i * b ≤ 18446744073709551615 * 18446744073709551615 := Nat.mul_le_mul (by omega) (by omega)
  omega
theorem part_top (a b : Nat) (ha : a < 18446744073709551616) : part a b 64 = 0 := by
  unfold part
  rw [Nat.div_eq_of_lt ha, Nat.zero_mul]
theorem part_zero (a b : Nat) : part a b 0 = a * b := by simp [part]
theorem dbl_halves (p add : Nat) : dbl (p / 18446744073709551616) (p % 18446744073709551616) add = p * 2 + add := by unfold dbl; omega
end Go.Proofs.Ytdkcjfcjckpjcaa
