/- cookie: the document's functions. -/
import Derived.Test.YteklkljndchjiaaGreatJ24
import Derived.Test.YteklkljndchjiaaGreatJ25
namespace Go.Proofs.YteklkljndchjiaaGreat
open Go Go.RowKit Go.Deep
theorem andNot_nat (a b : Nat) (ha : a < 18446744073709551616) (hb : b < 18446744073709551616) : bits BinOp.andNot IntKind.u64 (a : Int) (b : Int) = ((a &&& (18446744073709551615 - b) : Nat) : Int) := by
 have h1 : (BitVec.ofInt 64 (a : Int)).toNat = a := by
  rw [BitVec.ofInt_natCast, BitVec.toNat_ofNat]
  exact Nat.mod_eq_of_lt (by omega)
 have h2 : (BitVec.ofInt 64 (b : Int)).toNat = b := by
  rw [BitVec.ofInt_natCast, BitVec.toNat_ofNat]
  exact Nat.mod_eq_of_lt (by omega)
 have hx : a &&& (18446744073709551615 - b) < 2 ^ 64 := Nat.and_lt_two_pow _ (by omega)
 show IntKind.u64.wrap ((BitVec.ofInt 64 (a : Int) &&& ~~~BitVec.ofInt 64 (b : Int)).toNat : Int) = _
 rw [BitVec.toNat_and, BitVec.toNat_not, h1, h2, IntKind.wrap_u64]
 have e : 2 ^ 64 - 1 - b = 18446744073709551615 - b := by omega
 rw [e]
 omega
theorem and_high (n W : Nat) (hn : n < 2 ^ 64) (hW : W ≤ 64) : (n &&& (18446744073709551615 - (2 ^ W - 1)) = 0) ↔ n < 2 ^ W := by
 have h1 : 18446744073709551615 - (2 ^ W - 1) = 2 ^ W * (2 ^ (64 - W) - 1) := by
  have h2 : 2 ^ W * 2 ^ (64 - W) = 18446744073709551616 := by rw [← Nat.pow_add]; rw [show W + (64 - W) = 64 by omega]
  have h3 : 0 < 2 ^ W := Nat.pow_pos (by omega)
  rw [Nat.mul_sub, h2]
  omega
 have h4 : n &&& (18446744073709551615 - (2 ^ W - 1)) = n / 2 ^ W * 2 ^ W := by
  rw [h1]
  apply Nat.eq_of_testBit_eq
  intro i
  rw [Nat.testBit_and, Nat.mul_comm (2 ^ W), Nat.testBit_mul_two_pow, Nat.testBit_mul_two_pow, Nat.testBit_two_pow_sub_one, Nat.testBit_div_two_pow]
  by_cases hi : W ≤ i
  ·
   simp only [hi, decide_true, Bool.true_and]
   rw [show i - W + W = i by omega]
   by_cases h5 : i - W < 64 - W
   · simp [h5]
   ·
    have h6 : n.testBit i = false := Nat.testBit_lt_two_pow (Nat.lt_of_lt_of_le hn (Nat.pow_le_pow_right (by omega) (by omega)))
    simp [h5, h6]
  · simp [hi]
 rw [h4]
 have h3 : 0 < 2 ^ W := Nat.pow_pos (by omega)
 constructor
 ·
  intro h
  rcases Nat.mul_eq_zero.1 h with h | h
  · exact (Nat.div_eq_zero_iff_lt h3).1 h
  · omega
 ·
  intro h
  rw [Nat.div_eq_of_lt h, Nat.zero_mul]
theorem narrow_iff (wd : Bool) (sl gn : Int) (n : Nat) (hn : n < 18446744073709551616) : ∃ W : Nat, layW wd sl gn = W ∧ W ≤ 64 ∧ narrowOk wd sl gn n = decide (n < 2 ^ W) := by
 obtain ⟨W, hW, hW2⟩ := layW_nat wd sl gn
 refine ⟨W, hW, hW2, ?_⟩
 unfold narrowOk
 have hp := pow64' W hW2
 rw [hW, maskI_nat W hW2, andNot_nat n (2 ^ W - 1) hn (by omega)]
 have h := and_high n W hn hW2
 rw [Bool.eq_iff_iff, beq_iff_eq, decide_eq_true_eq, ← h]
 exact Int.natCast_eq_zero
set_option maxRecDepth 100000 in
set_option maxHeartbeats 2000000 in
theorem refck_right (wd : Bool) (sl gn : Int) (w : World) : Calls Tryz.prog 71 #[layV wd sl gn] w fun e w' => e = .returned (.bool (layOk wd sl gn)) ∧ Below w.heap.size w w' := by
 have BC := Blk.new w 23 #[.bool wd, .int .i64 sl, .int .i64 gn]
 have hb0 : Below w.heap.size w (w.alloc (.cells #[.bool wd, .int .i64 sl, .int .i64 gn] 23)) := below_alloc (Below.refl _ _) _
 have hlay : layOk wd sl gn = (decide (0 ≤ sl) && decide (sl ≤ 12) && decide (0 ≤ gn) && decide (gn ≤ (if wd then 63 else 16) - sl)) := by
  unfold layOk
  rw [Bool.eq_iff_iff]
  simp only [decide_eq_true_eq, Bool.and_eq_true]
  omega
 by_cases h0 : 0 ≤ sl
 ·
  have x0 : decide (0 ≤ sl) = true := by simpa using h0
  by_cases h1 : sl ≤ 12
  ·
   have x1 : decide (sl ≤ 12) = true := by simpa using h1
   have hw1 : IntKind.i64.wrap (63 - sl) = 63 - sl := by simp [IntKind.wrap, IntKind.bits, IntKind.signed]; omega
   have hw2 : IntKind.i64.wrap (16 - sl) = 16 - sl := by simp [IntKind.wrap, IntKind.bits, IntKind.signed]; omega
   have hw3 : wrap64 (63 - sl) = 63 - sl := by unfold wrap64; omega
   have hw4 : wrap64 (16 - sl) = 16 - sl := by unfold wrap64; omega
   by_cases h2 : 0 ≤ gn
   ·
    have x2 : decide (0 ≤ gn) = true := by simpa using h2
    rw [x0, x1, x2] at hlay
    obtain ⟨q, hq⟩ : ∃ q, decide (gn ≤ (if wd then 63 else 16) - sl) = q := ⟨_, rfl⟩
    rw [hq] at hlay
    replace hlay := Lib.hid hlay
    cases wd
    all_goals
     simp only [Bool.false_eq_true, if_true, if_false] at hq
     go_enter Tryz.func71, Tryz.ntmps71
     go_wp2_with fail
     go_ret
     exact ⟨by rw [hlay.out]; rfl, hb0⟩
   ·
    have x2 : decide (0 ≤ gn) = false := by simpa using h2
    rw [x0, x1, x2] at hlay
    replace hlay := Lib.hid hlay
    cases wd
    all_goals
     go_enter Tryz.func71, Tryz.ntmps71
     go_wp2_with fail
     go_ret
     exact ⟨by rw [hlay.out]; rfl, hb0⟩
  ·
   have x1 : decide (sl ≤ 12) = false := by simpa using h1
   rw [x0, x1] at hlay
   replace hlay := Lib.hid hlay
   cases wd
   all_goals
    go_enter Tryz.func71, Tryz.ntmps71
    go_wp2_with fail
    go_ret
    exact ⟨by rw [hlay.out]; rfl, hb0⟩
 ·
  have x0 : decide (0 ≤ sl) = false := by simpa using h0
  rw [x0] at hlay
  replace hlay := Lib.hid hlay
  cases wd
  all_goals
   go_enter Tryz.func71, Tryz.ntmps71
   go_wp2_with fail
   go_ret
   exact ⟨by rw [hlay.out]; rfl, hb0⟩
end Go.Proofs.YteklkljndchjiaaGreat
