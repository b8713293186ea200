/- sip: words as sums. -/
import Derived.Test.YtdkcjfcjckpjcaaSipH
namespace Go.Proofs.Ytdkcjfcjckpjcaa
open Go Go.RowKit Go.Deep

theorem wrap_u64_id (n : Nat) (h : n < 18446744073709551616) : IntKind.u64.wrap (n : Int) = n := by
  simp [IntKind.wrap, IntKind.bits, IntKind.signed]
  omega
theorem or_add (a c m : Nat) (ha : a < 2 ^ m) (hc : c * 2 ^ m < 18446744073709551616) (hm : 2 ^ m ≤ 18446744073709551616) : bits BinOp.or IntKind.u64 (a : Int) ((c * 2 ^ m : Nat) : Int) = ((a + c * 2 ^ m : Nat) : Int) := by
  have h1 : a ||| c * 2 ^ m = a + c * 2 ^ m := by
    have := Nat.two_pow_add_eq_or_of_lt ha c
    rw [Nat.or_comm, Nat.mul_comm c, ← this, Nat.add_comm]
  unfold bits
  have h2 : a + c * 2 ^ m < 18446744073709551616 := by
    rw [← h1]
    have : a < 2 ^ 64 := by omega
    exact Nat.or_lt_two_pow (n := 64) this hc
  have e1 : (BitVec.ofInt 64 (a : Int)).toNat = a := by rw [BitVec.toNat_ofInt]; omega
  have e2 : (BitVec.ofInt 64 ((c * 2 ^ m : Nat) : Int)).toNat = c * 2 ^ m := by rw [BitVec.toNat_ofInt]; omega
  show IntKind.u64.wrap ((BitVec.ofInt 64 (a : Int) ||| BitVec.ofInt 64 ((c * 2 ^ m : Nat) : Int)).toNat : Int) = _
  rw [BitVec.toNat_or, e1, e2, h1]
  exact wrap_u64_id _ h2
def wn : List UInt8 → Nat
  | [] => 0
  | c :: l => wn l * 256 + c.toNat
theorem wn_lt : ∀ l : List UInt8, wn l < 256 ^ l.length
  | [] => by simp [wn]
  | c :: l => by
    have := wn_lt l
    have hc : c.toNat < 256 := c.toNat_lt
    rw [wn, List.length_cons, Nat.pow_succ]
    omega
theorem wn_snoc : ∀ (l : List UInt8) (c : UInt8), wn (l ++ [c]) = wn l + c.toNat * 256 ^ l.length
  | [], c => by simp [wn]
  | d :: l, c => by
    rw [List.cons_append, wn, wn_snoc l c, wn, List.length_cons, Nat.pow_succ, ← Nat.mul_assoc, Nat.add_mul]
    omega
theorem wordL_wn : ∀ l : List UInt8, l.length ≤ 8 → wordL l = (wn l : Int)
  | [], _ => rfl
  | c :: l, h => by
    simp only [List.length_cons] at h
    have h1 := wordL_wn l (by omega)
    have h2 := wn_lt (c :: l)
    have h5 : (c :: l).length ≤ 8 := by simp only [List.length_cons]; omega
    have h6 : 256 ^ (c :: l).length ≤ 256 ^ 8 := Nat.pow_le_pow_right (by decide) h5
    have h7 : (256 : Nat) ^ 8 = 18446744073709551616 := by decide
    have h3 : 256 ^ (c :: l).length ≤ 18446744073709551616 := by rw [← h7]; exact h6
    have h2' : wn l * 256 + c.toNat < 256 ^ (c :: l).length := h2
    have h4 : wn l * 256 + c.toNat < 18446744073709551616 := Nat.lt_of_lt_of_le h2' h3
    clear h2 h3 h2' h5 h6 h7
    have hc : c.toNat < 256 := c.toNat_lt
    have e3 : (wn l : Int) * 256 = ((wn l * 256 : Nat) : Int) := by simp
    have e4 := wrap_u64_id c.toNat (Nat.lt_trans hc (by decide))
    have e5 := wrap_u64_id (wn l * 256) (Nat.lt_of_le_of_lt (Nat.le_add_right _ _) h4)
    have e6 := wrap_u64_id (wn l * 256 + c.toNat) h4
    show IntKind.u64.wrap (IntKind.u64.wrap (wordL l * 256) + IntKind.u64.wrap (c.toNat : Int)) = ((wn l * 256 + c.toNat : Nat) : Int)
    rw [h1, e3, e4, e5]
    exact e6
end Go.Proofs.Ytdkcjfcjckpjcaa
