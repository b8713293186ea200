/- least: numbers with points that are not negative: what smooth's Clean and Key give of them. -/
import Derived.Test.YtnmmjchhinfbpaaLeastB
import Derived.Laws.Externs
import Derived.Laws.FloatArith
namespace Go.Proofs.Ytnmmjchhinfbpaa
open Go Go.RowKit Go.Deep

theorem run_f64bits (b : Nat) (w : World) : (callFunc 63 #[.float .f64 b]).run Try.prog w = .ok (.value (.int .u64 b)) w := by
  rw [run_callFunc_extern Try.func63 (by kernel_rfl) (by kernel_rfl) (by kernel_rfl) (show _ = some Extern.MathFloatBits.float64bits by kernel_rfl)]
  rfl
theorem run_f64from (b : Nat) (w : World) : (callFunc 112 #[.int .u64 (b : Int)]).run Try.prog w = .ok (.value (.float .f64 b)) w := by
  rw [run_callFunc_extern Try.func112 (by kernel_rfl) (by kernel_rfl) (by kernel_rfl) (show _ = some Extern.MathFloatBits.float64frombits by kernel_rfl)]
  rfl
/-- What is asked of a number's bits: finite, not negative. -/
structure FB (b : Nat) : Prop where
  lt : b < 9218868437227405312
  nan : (FloatKind.f64.format.order b b != some Ordering.eq) = false
  zero : (FloatKind.f64.format.order b 0 == some Ordering.eq) = (b == 0)
  max : (FloatKind.f64.format.order b 9218868437227405311 == some Ordering.gt) = false
theorem isnan_any {b : Nat} (h : FB b) (w : World) : Calls Try.prog 84 #[.float .f64 b] w fun e w' => e = .returned (.bool false) ∧ w = w' := by
  have h1 := h.nan
  go_enter Try.func84, Try.ntmps84
  go_wp2_with fail
  go_ret
  exact ⟨by rw [← h1]; rfl, rfl⟩
theorem andnot_sign (b : Nat) (h : b < 9223372036854775808) : bits BinOp.andNot IntKind.u64 (b : Int) 9223372036854775808 = (b : Int) := by
  have e1 : (BitVec.ofInt 64 (b : Int)).toNat = b := by rw [BitVec.toNat_ofInt]; omega
  have e2 : (~~~(BitVec.ofInt 64 (9223372036854775808 : Int))).toNat = 2 ^ 63 - 1 := by decide
  unfold bits
  show IntKind.u64.wrap ((BitVec.ofInt 64 (b : Int) &&& ~~~(BitVec.ofInt 64 (9223372036854775808 : Int))).toNat : Int) = _
  rw [BitVec.toNat_and, e1, e2, Nat.and_two_pow_sub_one_eq_mod]
  simp [IntKind.wrap, IntKind.bits, IntKind.signed]; omega
theorem and_sign (b : Nat) (h : b < 9223372036854775808) : bits BinOp.and IntKind.u64 (b : Int) 9223372036854775808 = 0 := by
  have e1 : (BitVec.ofInt 64 (b : Int)).toNat = b := by rw [BitVec.toNat_ofInt]; omega
  have e2 : (BitVec.ofInt 64 (9223372036854775808 : Int)).toNat = 2 ^ 63 := by decide
  unfold bits
  show IntKind.u64.wrap ((BitVec.ofInt 64 (b : Int) &&& (BitVec.ofInt 64 (9223372036854775808 : Int))).toNat : Int) = _
  have : b &&& 2 ^ 63 = 0 := by
    have hb : b.testBit 63 = false := Nat.testBit_lt_two_pow h
    apply Nat.eq_of_testBit_eq
    intro i
    rw [Nat.testBit_and, Nat.testBit_two_pow, Nat.zero_testBit]
    by_cases e : 63 = i
    · subst e; rw [hb]; rfl
    · simp [e]
  rw [BitVec.toNat_and, e1, e2, this]; rfl
theorem or_sign (b : Nat) (h : b < 9223372036854775808) : bits BinOp.or IntKind.u64 (b : Int) 9223372036854775808 = (b : Int) + 9223372036854775808 := by
  have h1 := or_u64 b 9223372036854775808 (by omega) (by omega)
  have h2 : b ||| 9223372036854775808 = b + 9223372036854775808 := by
    have := or_shift 1 b 63 h
    rw [Nat.one_mul] at this
    rw [Nat.or_comm, show (9223372036854775808 : Nat) = 2 ^ 63 from rfl, this]; omega
  rw [h2] at h1
  have e : (((9223372036854775808 : Nat)) : Int) = 9223372036854775808 := rfl
  rw [e] at h1
  rw [h1]; omega
theorem abs_any {b : Nat} (h : FB b) (w : World) : Calls Try.prog 111 #[.float .f64 b] w fun e w' => e = .returned (.float .f64 b) ∧ w = w' := by
  have h0 := h.lt
  have h1 := run_f64bits b
  have h2 := run_f64from b
  have h3 := andnot_sign b (by omega)
  go_enter Try.func111, Try.ntmps111
  go_wp2_with fail
  go_ret
  exact ⟨rfl, rfl⟩
theorem isinf_any {b : Nat} (h : FB b) (w : World) : Calls Try.prog 88 #[.float .f64 b, .int .i64 0] w fun e w' => e = .returned (.bool false) ∧ w = w' := by
  have h1 := h.max
  have A := Lib.hid fun W => abs_any h W
  go_enter Try.func88, Try.ntmps88
  go_wp2_with fail
  refine (A.out _).mono ?_
  rintro e w1 ⟨rfl, rfl⟩
  go_wp2_with fail
  go_ret
  exact ⟨by rw [← h1]; rfl, rfl⟩
theorem clean_any {b : Nat} (h : FB b) (w : World) : Calls Try.prog 64 #[.float .f64 b] w fun e w' => e = .returned (.float .f64 b) ∧ w = w' := by
  have N := Lib.hid fun W => isnan_any h W
  have F := Lib.hid fun W => isinf_any h W
  have hz := h.zero
  by_cases e : b = 0
  · subst e
    go_enter Try.func64, Try.ntmps64
    go_wp2_with fail
    refine (N.out _).mono ?_
    rintro e w1 ⟨rfl, rfl⟩
    go_wp2_with fail
    go_ret
    exact ⟨rfl, rfl⟩
  · have e2 : (b == 0) = false := by simpa using e
    rw [e2] at hz
    go_enter Try.func64, Try.ntmps64
    go_wp2_with fail
    refine (N.out _).mono ?_
    rintro e w1 ⟨rfl, rfl⟩
    go_wp2_with fail
    refine (F.out _).mono ?_
    rintro e w1 ⟨rfl, rfl⟩
    go_wp2_with fail
    go_ret
    exact ⟨rfl, rfl⟩
theorem key_any {b : Nat} (h : FB b) (w : World) : Calls Try.prog 52 #[.float .f64 b] w fun e w' => e = .returned (.int .u64 ((b : Int) + 9223372036854775808)) ∧ w = w' := by
  have N := Lib.hid fun W => isnan_any h W
  have hz := h.zero
  have h0 := h.lt
  have h1 := run_f64bits b
  have h2 := and_sign b (by omega)
  have h3 := or_sign b (by omega)
  by_cases e : b = 0
  · subst e
    go_enter Try.func52, Try.ntmps52
    go_wp2_with fail
    refine (N.out _).mono ?_
    rintro e w1 ⟨rfl, rfl⟩
    go_wp2_with fail
    go_ret
    exact ⟨rfl, rfl⟩
  · have e2 : (b == 0) = false := by simpa using e
    rw [e2] at hz
    go_enter Try.func52, Try.ntmps52
    go_wp2_with fail
    refine (N.out _).mono ?_
    rintro e w1 ⟨rfl, rfl⟩
    go_wp2_with fail
    go_ret
    exact ⟨rfl, rfl⟩
end Go.Proofs.Ytnmmjchhinfbpaa
