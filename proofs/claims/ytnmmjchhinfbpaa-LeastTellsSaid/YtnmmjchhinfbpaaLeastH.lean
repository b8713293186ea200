/- least: Clean, Key, Less, Same at every number with a point. -/
import Derived.Test.YtnmmjchhinfbpaaLeastG
import Derived.Test.YtnmmjchhinfbpaaLeastW
namespace Go.Proofs.Ytnmmjchhinfbpaa
open Go Go.RowKit Go.Deep

theorem ok_or_nan {b : Nat} (h : b < 18446744073709551616) : okF b ∨ 9218868437227405312 < rgF b := by
  by_cases e : rgF b ≤ 9218868437227405312
  · exact .inl ⟨h, e⟩
  · exact .inr (by omega)
theorem fz_ok : okF 0 := ⟨by omega, by decide⟩
theorem fm_ok : okF 9218868437227405311 := ⟨by omega, by decide⟩
theorem fn_ok : okF 18442240474082181119 := ⟨by omega, by decide⟩
theorem self_ne {b : Nat} (h : b < 18446744073709551616) : (FloatKind.f64.format.order b b != some Ordering.eq) = decide (9218868437227405312 < rgF b) := by
  show (Ieee.double.order b b != _) = _
  rcases ok_or_nan h with h | h
  · rw [fne h h, decide_eq_false (by simp), decide_eq_false (by have := h.2; omega)]
  · rw [order_nan (.inl h), decide_eq_true h]; rfl
theorem zero_eq {b : Nat} (h : okF b) : (FloatKind.f64.format.order b 0 == some Ordering.eq) = decide (rgF b = 0) := by
  show (Ieee.double.order b 0 == _) = _
  have e0 : srF 0 = 0 := rfl
  rw [feq h fz_ok, e0, srF_rg h.1]
  by_cases e : rgF b = 0
  · rw [e, decide_eq_true rfl]; simp
  · rw [decide_eq_false e, decide_eq_false]
    split <;> omega
theorem andnot_any (b : Nat) (h : b < 18446744073709551616) : bits BinOp.andNot IntKind.u64 (b : Int) 9223372036854775808 = ((rgF b : Nat) : Int) := by
  have e1 : (BitVec.ofInt 64 (b : Int)).toNat = b := by rw [BitVec.toNat_ofInt]; omega
  have e2 : (~~~(BitVec.ofInt 64 (9223372036854775808 : Int))).toNat = 2 ^ 63 - 1 := by decide
  unfold bits
  show IntKind.u64.wrap ((BitVec.ofInt 64 (b : Int) &&& ~~~(BitVec.ofInt 64 (9223372036854775808 : Int))).toNat : Int) = _
  rw [BitVec.toNat_and, e1, e2, Nat.and_two_pow_sub_one_eq_mod]
  unfold rgF
  simp [IntKind.wrap, IntKind.bits, IntKind.signed]; omega
theorem and_any (b : Nat) (h : b < 18446744073709551616) : bits BinOp.and IntKind.u64 (b : Int) 9223372036854775808 = if 9223372036854775808 ≤ b then 9223372036854775808 else 0 := by
  by_cases e : 9223372036854775808 ≤ b
  · rw [if_pos e]
    have e1 : (BitVec.ofInt 64 (b : Int)).toNat = b := by rw [BitVec.toNat_ofInt]; omega
    have e2 : (BitVec.ofInt 64 (9223372036854775808 : Int)).toNat = 2 ^ 63 := by decide
    unfold bits
    show IntKind.u64.wrap ((BitVec.ofInt 64 (b : Int) &&& (BitVec.ofInt 64 (9223372036854775808 : Int))).toNat : Int) = _
    have : b &&& 2 ^ 63 = 2 ^ 63 := by
      have hb : b.testBit 63 = true := by
        rw [Nat.testBit_eq_decide_div_mod_eq]
        exact decide_eq_true (by omega)
      apply Nat.eq_of_testBit_eq
      intro i
      rw [Nat.testBit_and, Nat.testBit_two_pow]
      by_cases e : 63 = i
      · subst e; rw [hb]; simp
      · simp [e]
    rw [BitVec.toNat_and, e1, e2, this]; rfl
  · rw [if_neg e]
    exact and_sign b (by omega)
theorem xor_max (b : Nat) (h : b < 18446744073709551616) : bits BinOp.xor IntKind.u64 IntKind.u64.max (b : Int) = 18446744073709551615 - (b : Int) := by
  have e1 : (BitVec.ofInt 64 (b : Int)).toNat = b := by rw [BitVec.toNat_ofInt]; omega
  have e2 : (BitVec.ofInt 64 IntKind.u64.max) = BitVec.allOnes 64 := by decide
  unfold bits
  show IntKind.u64.wrap ((BitVec.ofInt 64 IntKind.u64.max ^^^ BitVec.ofInt 64 (b : Int)).toNat : Int) = _
  rw [e2, BitVec.allOnes_xor, BitVec.toNat_not, e1]
  simp [IntKind.wrap, IntKind.bits, IntKind.signed]; omega
theorem isnan_all (b : Nat) (h : b < 18446744073709551616) (w : World) : Calls Try.prog 84 #[.float .f64 b] w fun e w' => e = .returned (.bool (decide (9218868437227405312 < rgF b))) ∧ w = w' := by
  have h1 := self_ne h
  obtain ⟨t, ht⟩ : ∃ t, decide (9218868437227405312 < rgF b) = t := ⟨_, rfl⟩
  rw [ht] at h1 ⊢
  replace ht := Lib.hid ht
  go_enter Try.func84, Try.ntmps84
  go_wp2_with fail
  go_ret
  exact ⟨by rw [← h1]; rfl, rfl⟩
theorem abs_all (b : Nat) (h : b < 18446744073709551616) (w : World) : Calls Try.prog 111 #[.float .f64 b] w fun e w' => e = .returned (.float .f64 (rgF b)) ∧ w = w' := by
  have h1 := run_f64bits b
  have h2 := run_f64from (rgF b)
  have h3 := andnot_any b h
  generalize rgF b = r at *
  go_enter Try.func111, Try.ntmps111
  go_wp2_with fail
  go_ret
  exact ⟨rfl, rfl⟩
theorem isinf_all (b : Nat) (h : b < 18446744073709551616) (w : World) : Calls Try.prog 88 #[.float .f64 b, .int .i64 0] w fun e w' => e = .returned (.bool (decide (rgF b = 9218868437227405312))) ∧ w = w' := by
  have hr : rgF b < 9223372036854775808 := Nat.mod_lt _ (by omega)
  have h1 : (FloatKind.f64.format.order (rgF b) 9218868437227405311 == some Ordering.gt) = decide (rgF b = 9218868437227405312) := by
    show (Ieee.double.order _ _ == _) = _
    have e : rgF (rgF b) = rgF b := Nat.mod_eq_of_lt hr
    rcases ok_or_nan (show rgF b < 18446744073709551616 by omega) with h2 | h2
    · rw [fgt h2 fm_ok, srF_rg h2.1, e, if_neg (by omega)]
      have := h2.2
      rw [e] at this
      have e2 : srF 9218868437227405311 = 9218868437227405311 := rfl
      rw [e2]
      simp only [decide_eq_decide]
      omega
    · rw [order_nan (.inl h2)]
      rw [e] at h2
      rw [decide_eq_false (by omega)]
      rfl
  have A := Lib.hid fun W => abs_all b h W
  obtain ⟨t, ht⟩ : ∃ t, decide (rgF b = 9218868437227405312) = t := ⟨_, rfl⟩
  rw [ht] at h1 ⊢
  replace ht := Lib.hid ht
  generalize rgF b = r at *
  go_enter Try.func88, Try.ntmps88
  go_wp2_with fail
  refine (A.out _).mono ?_
  rintro e w1 ⟨rfl, rfl⟩
  go_wp2_with fail
  go_ret
  exact ⟨by rw [← h1]; rfl, rfl⟩
theorem copysign_all (b : Nat) (h : b < 18446744073709551616) (w : World) : Calls Try.prog 89 #[.float .f64 9218868437227405311, .float .f64 b] w fun e w' => e = .returned (.float .f64 (if 9223372036854775808 ≤ b then 18442240474082181119 else 9218868437227405311)) ∧ w = w' := by
  have h1 := run_f64bits b
  have h2 := run_f64bits 9218868437227405311
  have h3 := andnot_any 9218868437227405311 (by omega)
  have e3 : rgF 9218868437227405311 = 9218868437227405311 := rfl
  rw [e3] at h3
  have h4 := and_any b h
  have h5 : bits BinOp.or IntKind.u64 9218868437227405311 9223372036854775808 = 18442240474082181119 := by decide
  have h6 : bits BinOp.or IntKind.u64 9218868437227405311 0 = 9218868437227405311 := by decide
  have h7 := run_f64from 9218868437227405311
  have h8 := run_f64from 18442240474082181119
  rw [show (((9218868437227405311 : Nat)) : Int) = 9218868437227405311 from rfl] at h2 h3 h7
  rw [show (((18442240474082181119 : Nat)) : Int) = 18442240474082181119 from rfl] at h8
  by_cases e : 9223372036854775808 ≤ b
  · rw [if_pos e] at h4 ⊢
    replace e := Lib.hid e
    go_enter Try.func89, Try.ntmps89
    go_wp2_with fail
    go_ret
    exact ⟨rfl, rfl⟩
  · rw [if_neg e] at h4 ⊢
    replace e := Lib.hid e
    go_enter Try.func89, Try.ntmps89
    go_wp2_with fail
    go_ret
    exact ⟨rfl, rfl⟩
theorem clean_all (b : Nat) (h : b < 18446744073709551616) (w : World) : Calls Try.prog 64 #[.float .f64 b] w fun e w' => e = .returned (.float .f64 (cleanB b)) ∧ w = w' := by
  have N := fun W => isnan_all b h W
  have F := fun W => isinf_all b h W
  have CP := fun W => copysign_all b h W
  replace CP := Lib.hid CP
  unfold cleanB
  by_cases h1 : 9218868437227405312 < rgF b
  · rw [if_pos (.inl h1)]
    rw [decide_eq_true h1] at N
    replace N := Lib.hid N
    replace F := Lib.hid F
    clear h1
    go_enter Try.func64, Try.ntmps64
    go_wp2_with fail
    refine (N.out _).mono ?_
    rintro e w1 ⟨rfl, rfl⟩
    go_wp2_with fail
    go_ret
    exact ⟨rfl, rfl⟩
  · rw [decide_eq_false h1] at N
    have hz := zero_eq (b := b) ⟨h, by omega⟩
    replace N := Lib.hid N
    by_cases h2 : rgF b = 0
    · rw [if_pos (.inr h2)]
      rw [decide_eq_true h2] at hz
      replace F := Lib.hid F
      clear h1 h2
      go_enter Try.func64, Try.ntmps64
      go_wp2_with fail
      refine (N.out _).mono ?_
      rintro e w1 ⟨rfl, rfl⟩
      go_wp2_with fail
      go_ret
      exact ⟨rfl, rfl⟩
    · rw [if_neg (by omega)]
      rw [decide_eq_false h2] at hz
      by_cases h3 : rgF b = 9218868437227405312
      · rw [if_pos h3]
        rw [decide_eq_true h3] at F
        replace F := Lib.hid F
        clear h1 h2 h3
        generalize (if 9223372036854775808 ≤ b then 18442240474082181119 else 9218868437227405311) = cv at *
        go_enter Try.func64, Try.ntmps64
        go_wp2_with fail
        refine (N.out _).mono ?_
        rintro e w1 ⟨rfl, rfl⟩
        go_wp2_with fail
        refine (F.out _).mono ?_
        rintro e w1 ⟨rfl, rfl⟩
        go_wp2_with fail
        refine (CP.out _).mono ?_
        rintro e w1 ⟨rfl, rfl⟩
        go_wp2_with fail
        go_ret
        exact ⟨rfl, rfl⟩
      · rw [if_neg h3]
        rw [decide_eq_false h3] at F
        replace F := Lib.hid F
        clear h1 h2 h3
        go_enter Try.func64, Try.ntmps64
        go_wp2_with fail
        refine (N.out _).mono ?_
        rintro e w1 ⟨rfl, rfl⟩
        go_wp2_with fail
        refine (F.out _).mono ?_
        rintro e w1 ⟨rfl, rfl⟩
        go_wp2_with fail
        go_ret
        exact ⟨rfl, rfl⟩
theorem refclean_all (b : Nat) (h : b < 18446744073709551616) (w : World) : Calls Try.prog 65 #[.float .f64 b] w fun e w' => e = .returned (.float .f64 (cleanB b)) ∧ w = w' := by
  have n0 := self_ne h
  unfold cleanB
  by_cases h1 : 9218868437227405312 < rgF b
  · rw [if_pos (.inl h1)]
    rw [decide_eq_true h1] at n0
    clear h1
    go_enter Try.func65, Try.ntmps65
    go_wp2_with fail
    go_ret
    exact ⟨rfl, rfl⟩
  · rw [decide_eq_false h1] at n0
    have hok : okF b := ⟨h, by omega⟩
    have hz := zero_eq hok
    have g1 := fgt hok fm_ok
    have g2 := flt hok fn_ok
    rw [show srF 9218868437227405311 = 9218868437227405311 from rfl] at g1
    rw [show srF 18442240474082181119 = -9218868437227405311 from rfl] at g2
    rw [srF_rg h] at g1 g2
    replace g1 : (FloatKind.f64.format.order b 9218868437227405311 == some Ordering.gt) = _ := g1
    replace g2 : (FloatKind.f64.format.order b 18442240474082181119 == some Ordering.lt) = _ := g2
    by_cases h2 : rgF b = 0
    · rw [if_pos (.inr h2)]
      rw [decide_eq_true h2] at hz
      clear h1 h2 g1 g2
      go_enter Try.func65, Try.ntmps65
      go_wp2_with fail
      go_ret
      exact ⟨rfl, rfl⟩
    · rw [if_neg (by omega)]
      rw [decide_eq_false h2] at hz
      by_cases h3 : rgF b = 9218868437227405312
      · rw [if_pos h3]
        rw [h3] at g1 g2
        by_cases e : 9223372036854775808 ≤ b
        · rw [if_pos e] at g1 g2 ⊢
          rw [decide_eq_false (by omega)] at g1
          rw [decide_eq_true (by omega)] at g2
          clear h1 h2 h3 e
          go_enter Try.func65, Try.ntmps65
          go_wp2_with fail
          go_ret
          exact ⟨rfl, rfl⟩
        · rw [if_neg e] at g1 g2 ⊢
          rw [decide_eq_true (by omega)] at g1
          clear h1 h2 h3 e g2
          go_enter Try.func65, Try.ntmps65
          go_wp2_with fail
          go_ret
          exact ⟨rfl, rfl⟩
      · rw [if_neg h3]
        rw [decide_eq_false (by split <;> omega)] at g1 g2
        clear h1 h2 h3
        go_enter Try.func65, Try.ntmps65
        go_wp2_with fail
        go_ret
        exact ⟨rfl, rfl⟩
/-- What a clean number is. -/
structure ClF (b : Nat) : Prop where
  fin : finF b
  zero : srF b = 0 ↔ b = 0
theorem clF {b : Nat} (h : b < 18446744073709551616) : ClF (cleanB b) := ⟨cleanB_fin h, cleanB_zero h⟩
theorem ClF.ne {b : Nat} (h : ClF b) : (FloatKind.f64.format.order b b != some Ordering.eq) = false := by
  rw [self_ne h.fin.1, decide_eq_false (by have := h.fin.2; omega)]
theorem key_all {b : Nat} (h : ClF b) (w : World) : Calls Try.prog 52 #[.float .f64 b] w fun e w' => e = .returned (.int .u64 (keyB b)) ∧ w = w' := by
  have N := fun W => isnan_all b h.fin.1 W
  rw [decide_eq_false (by have := h.fin.2; omega)] at N
  replace N := Lib.hid N
  have hlt := h.fin.1
  have hz : (FloatKind.f64.format.order b 0 == some Ordering.eq) = decide (b = 0) := by
    show (Ieee.double.order b 0 == _) = _
    rw [feq h.fin.ok fz_ok, show srF 0 = 0 from rfl]
    simp only [decide_eq_decide]
    exact h.zero
  have h1 := run_f64bits b
  unfold keyB
  by_cases e : b = 0
  · subst e
    rw [decide_eq_true rfl] at hz
    go_enter Try.func52, Try.ntmps52
    go_wp2_with fail
    refine (N.out _).mono ?_
    rintro e w1 ⟨rfl, rfl⟩
    go_wp2_with fail
    go_ret
    exact ⟨rfl, rfl⟩
  · rw [decide_eq_false e] at hz
    have h2 := and_any b hlt
    by_cases es : b < 9223372036854775808
    · have h3 := or_sign b es
      rw [if_neg (by omega)] at h2
      rw [if_pos es]
      clear h
      replace e := Lib.hid e
      replace es := Lib.hid es
      go_enter Try.func52, Try.ntmps52
      go_wp2_with fail
      refine (N.out _).mono ?_
      rintro e w1 ⟨rfl, rfl⟩
      go_wp2_with fail
      go_ret
      exact ⟨rfl, rfl⟩
    · rw [if_pos (by omega)] at h2
      rw [if_neg es]
      clear h
      replace e := Lib.hid e
      replace es := Lib.hid es
      go_enter Try.func52, Try.ntmps52
      go_wp2_with fail
      refine (N.out _).mono ?_
      rintro e w1 ⟨rfl, rfl⟩
      go_wp2_with fail
      go_ret
      exact ⟨by rw [← xor_max b hlt]; rfl, rfl⟩
theorem refless_all {b c : Nat} (hb : ClF b) (hc : ClF c) (w : World) : Calls Try.prog 59 #[.float .f64 b, .float .f64 c] w fun e w' => e = .returned (.bool (decide (srF b < srF c))) ∧ w = w' := by
  have n1 := hb.ne
  have n2 := hc.ne
  have g : (FloatKind.f64.format.order b c == some Ordering.lt) = _ := flt hb.fin.ok hc.fin.ok
  obtain ⟨t, ht⟩ : ∃ t, decide (srF b < srF c) = t := ⟨_, rfl⟩
  rw [ht] at g ⊢
  replace ht := Lib.hid ht
  clear hb hc
  go_enter Try.func59, Try.ntmps59
  go_wp2_with fail
  go_ret
  exact ⟨by first | rfl | (rw [← g]; rfl), rfl⟩
theorem same_all {b : Nat} (hb : ClF b) (w : World) : Calls Try.prog 27 #[.float .f64 b, .float .f64 b] w fun e w' => e = .returned (.bool true) ∧ w = w' := by
  have n1 := hb.ne
  have h1 := run_f64bits b
  clear hb
  go_enter Try.func27, Try.ntmps27
  go_wp2_with fail
  go_ret
  exact ⟨by simp, rfl⟩
end Go.Proofs.Ytnmmjchhinfbpaa
