/- least: Burden, the document's too. -/
import Derived.Test.YtnmmjchhinfbpaaLeastH
import Derived.Laws.Cover2
import Derived.Laws.FloatArith
namespace Go.Proofs.Ytnmmjchhinfbpaa
open Go Go.RowKit Go.Deep

def cvF (n : Int) : Nat := floatOfInt .f64 n
def mulF (x y : Nat) : Nat := (floatBits .mul .f64 x y).getD 0
def divF (x y : Nat) : Nat := (floatBits .quo .f64 x y).getD 0
theorem cut_none (z : Nat) : Ieee.Toward.even.cut false z 0 = z := by
  unfold Ieee.Toward.cut
  simp [Nat.mod_one]
theorem nearest_int {m : Nat} (h1 : 1 ≤ m) (hk : m.log2 ≤ 41) : Ieee.double.nearest false m 0 = min ((m.log2 + 1022) * 4503599627370496 + m * 2 ^ (52 - m.log2)) 9218868437227405312 := by
  unfold Ieee.Format.nearest
  rw [if_neg (by omega)]
  dsimp only
  have eF : ((Ieee.double.fractionBits : Nat) : Int) = 52 := rfl
  have eL : Ieee.double.leastPlace = -1074 := rfl
  have eB : Ieee.double.binade = 4503599627370496 := rfl
  have eI : Ieee.double.infRung = 9218868437227405312 := rfl
  rw [eF, eL, eB, eI]
  generalize m.log2 = k at *
  have e1 : max ((0 : Int) + (k : Nat) - 52) (-1074) = (k : Int) - 52 := by omega
  rw [e1]
  have e2 : ((0 : Int) - ((k : Int) - 52)).toNat = 52 - k := by omega
  have e3 : ((k : Int) - 52 - 0).toNat = 0 := by omega
  have e4 : ((k : Int) - 52 - -1074).toNat = k + 1022 := by omega
  rw [e2, e3, e4, cut_none, Nat.shiftLeft_eq]
  unfold Ieee.Format.word
  rw [if_neg (by simp)]
theorem cvF_fin {m : Nat} (h1 : 1 ≤ m) (h2 : m ≤ 2199023255552) : finF (cvF (m : Int)) ∧ 4503599627370496 ≤ cvF (m : Int) ∧ cvF (m : Int) < 9218868437227405312 := by
  have hk : m.log2 ≤ 41 := by
    have : m.log2 < 42 := (Nat.log2_lt (by omega)).2 (by omega)
    omega
  have hk1 : 2 ^ m.log2 ≤ m := Nat.log2_self_le (by omega)
  have hk2 : m < 2 ^ (m.log2 + 1) := Nat.lt_log2_self
  have e : cvF (m : Int) = Ieee.double.nearest (decide ((m : Int) < 0)) ((m : Int).natAbs) 0 := rfl
  rw [decide_eq_false (by omega), Int.natAbs_natCast, nearest_int h1 hk] at e
  have e6 : m * 2 ^ (52 - m.log2) < 9007199254740992 := by
    have : m * 2 ^ (52 - m.log2) < 2 ^ (m.log2 + 1) * 2 ^ (52 - m.log2) := Nat.mul_lt_mul_of_pos_right hk2 (Nat.two_pow_pos _)
    rw [← Nat.pow_add, show m.log2 + 1 + (52 - m.log2) = 53 by omega] at this
    exact this
  have e7 : 4503599627370496 ≤ m * 2 ^ (52 - m.log2) := by
    have : 2 ^ m.log2 * 2 ^ (52 - m.log2) ≤ m * 2 ^ (52 - m.log2) := Nat.mul_le_mul_right _ hk1
    rw [← Nat.pow_add, show m.log2 + (52 - m.log2) = 52 by omega] at this
    exact this
  generalize m * 2 ^ (52 - m.log2) = z at *
  generalize m.log2 = k at *
  generalize cvF (m : Int) = c at *
  clear hk1 hk2
  have key : 4503599627370496 ≤ c ∧ c < 9218868437227405312 := by omega
  refine ⟨⟨by omega, ?_⟩, key⟩
  unfold rgF
  rw [Nat.mod_eq_of_lt (by omega)]
  exact key.2
theorem mul_fin {x y : Nat} (hx : finF x) (hy : finF y) : floatBits .mul .f64 x y = some (mulF x y) ∧ mulF x y < 18446744073709551616 := by
  have h : ∃ r, floatBits .mul .f64 x y = some r := by
    show ∃ r, ((Ieee.double.read x).product (Ieee.double.read y)).map _ = some r
    rw [read_fin hx, read_fin hy]
    exact ⟨_, rfl⟩
  obtain ⟨r, hr⟩ := h
  unfold mulF
  rw [hr]
  refine ⟨rfl, ?_⟩
  exact Ieee.double.mul_lt (show Ieee.double.mul x y = some r from hr)
theorem quot_num (d : Nat) (s : Bool) (m : Nat) (i : Int) (t : Bool) (n : Nat) (j : Int) (h : n ≠ 0) : ∃ q, Ieee.Datum.quotient d (.number s m i) (.number t n j) = some q := by
  unfold Ieee.Datum.quotient
  dsimp only
  rw [if_neg h]
  exact ⟨_, rfl⟩
theorem div_fin {x y : Nat} (hx : finF x) (hy : finF y) (h0 : maF (rgF y) ≠ 0) : floatBits .quo .f64 x y = some (divF x y) ∧ divF x y < 18446744073709551616 := by
  have h : ∃ r, floatBits .quo .f64 x y = some r := by
    have e : floatBits .quo .f64 x y = ((Ieee.double.read x).quotient 54 (Ieee.double.read y)).map Ieee.double.write := rfl
    obtain ⟨q, hq⟩ := quot_num 54 (decide (9223372036854775808 ≤ x)) (maF (rgF x)) (-1074 + (upF (rgF x) : Nat)) (decide (9223372036854775808 ≤ y)) (maF (rgF y)) (-1074 + (upF (rgF y) : Nat)) h0
    rw [e, read_fin hx, read_fin hy, hq]
    exact ⟨_, rfl⟩
  obtain ⟨r, hr⟩ := h
  unfold divF
  rw [hr]
  refine ⟨rfl, ?_⟩
  exact Ieee.double.div_lt (show Ieee.double.div x y = some r from hr)
/-- What a time, a load and a weight come to. -/
def brdB (t : Nat) (n wt : Int) : Nat := if n < 0 ∨ 1099511627776 < n ∨ wt < 1 ∨ 1000 < wt then 9218868437227405311 else cleanB (divF (cleanB (mulF (cleanB t) (cvF (n + 1)))) (cvF wt))
theorem brdB_steps {t : Nat} {n wt : Int} (ht : t < 18446744073709551616) (hn : 0 ≤ n ∧ n ≤ 1099511627776) (hw : 1 ≤ wt ∧ wt ≤ 1000) :
    (∀ w : World, (binOp .mul 55 (.float .f64 (cleanB t)) (.float .f64 (cvF (n + 1)))).run Try.prog w = .ok (.float .f64 (mulF (cleanB t) (cvF (n + 1)))) w) ∧ mulF (cleanB t) (cvF (n + 1)) < 18446744073709551616 ∧
    (∀ w : World, (binOp .quo 55 (.float .f64 (cleanB (mulF (cleanB t) (cvF (n + 1))))) (.float .f64 (cvF wt))).run Try.prog w = .ok (.float .f64 (divF (cleanB (mulF (cleanB t) (cvF (n + 1)))) (cvF wt))) w) ∧ divF (cleanB (mulF (cleanB t) (cvF (n + 1)))) (cvF wt) < 18446744073709551616 := by
  obtain ⟨a, rfl⟩ : ∃ a : Nat, n = (a : Int) := ⟨n.toNat, by omega⟩
  obtain ⟨b, rfl⟩ : ∃ b : Nat, wt = (b : Int) := ⟨wt.toNat, by omega⟩
  have c1 := cvF_fin (m := a + 1) (by omega) (by omega)
  have c2 := cvF_fin (m := b) (by omega) (by omega)
  rw [show (((a + 1 : Nat)) : Int) = (a : Int) + 1 from rfl] at c1
  obtain ⟨m1, m2⟩ := mul_fin (cleanB_fin ht) c1.1
  have h0 : maF (rgF (cvF (b : Int))) ≠ 0 := by
    unfold maF rgF
    rw [Nat.mod_eq_of_lt (by have := c2.2.2; omega), if_neg (by have := c2.2.1; omega)]
    omega
  obtain ⟨d1, d2⟩ := div_fin (cleanB_fin m2) c2.1 h0
  exact ⟨fun w => run_float_arith w .mul _ .f64 _ _ _ m1, m2, fun w => run_float_arith w .quo _ .f64 _ _ _ d1, d2⟩
theorem brdB_cl {t : Nat} {n wt : Int} (ht : t < 18446744073709551616) : ClF (brdB t n wt) := by
  unfold brdB
  split
  · exact ⟨⟨by omega, by decide⟩, by decide⟩
  · rename_i h
    exact clF (brdB_steps ht (by omega) (by omega)).2.2.2
set_option maxHeartbeats 4000000 in
theorem burden_all (t : Nat) (n wt : Int) (ht : t < 18446744073709551616) (w : World) : Calls Try.prog 28 #[.float .f64 t, .int .i64 n, .int .i64 wt] w fun e w' => e = .returned (.float .f64 (brdB t n wt)) ∧ w = w' := by
  unfold brdB
  by_cases h1 : n < 0
  · have d1 : decide (n < 0) = true := by simpa using h1
    rw [if_pos (.inl h1)]
    clear h1
    go_enter Try.func28, Try.ntmps28
    go_wp2_with fail
    go_ret
    exact ⟨rfl, rfl⟩
  have d1 : decide (n < 0) = false := by simpa using h1
  by_cases h2 : 1099511627776 < n
  · have d2 : decide (1099511627776 < n) = true := by simpa using h2
    rw [if_pos (.inr (.inl h2))]
    clear h1 h2
    go_enter Try.func28, Try.ntmps28
    go_wp2_with fail
    go_ret
    exact ⟨rfl, rfl⟩
  have d2 : decide (1099511627776 < n) = false := by simpa using h2
  by_cases h3 : wt < 1
  · have d3 : decide (wt < 1) = true := by simpa using h3
    rw [if_pos (.inr (.inr (.inl h3)))]
    clear h1 h2 h3
    go_enter Try.func28, Try.ntmps28
    go_wp2_with fail
    go_ret
    exact ⟨rfl, rfl⟩
  have d3 : decide (wt < 1) = false := by simpa using h3
  by_cases h4 : 1000 < wt
  · have d4 : decide (1000 < wt) = true := by simpa using h4
    rw [if_pos (.inr (.inr (.inr h4)))]
    clear h1 h2 h3 h4
    go_enter Try.func28, Try.ntmps28
    go_wp2_with fail
    go_ret
    exact ⟨rfl, rfl⟩
  have d4 : decide (1000 < wt) = false := by simpa using h4
  rw [if_neg (by omega)]
  obtain ⟨s2, m2, s4, m4⟩ := brdB_steps ht (show 0 ≤ n ∧ n ≤ 1099511627776 by omega) (show 1 ≤ wt ∧ wt ≤ 1000 by omega)
  have C1 := Lib.hid fun W => clean_all _ ht W
  have C2 := Lib.hid fun W => clean_all _ m2 W
  have C3 := Lib.hid fun W => clean_all _ m4 W
  have n0 : 0 ≤ n := by omega
  have n1 : n ≤ 1099511627776 := by omega
  clear h1 h2 h3 h4 m2 m4
  unfold cvF at *
  generalize cleanB t = ct at *
  generalize mulF ct (floatOfInt FloatKind.f64 (n + 1)) = x at *
  generalize cleanB x = cx at *
  generalize divF cx (floatOfInt FloatKind.f64 wt) = y at *
  generalize cleanB y = cy at *
  go_enter Try.func28, Try.ntmps28
  go_wp2_with fail
  refine (C1.out _).mono ?_
  rintro e w1 ⟨rfl, rfl⟩
  go_wp2_with fail
  refine (C2.out _).mono ?_
  rintro e w1 ⟨rfl, rfl⟩
  go_wp2_with fail
  refine (C3.out _).mono ?_
  rintro e w1 ⟨rfl, rfl⟩
  go_wp2_with fail
  go_ret
  exact ⟨rfl, rfl⟩
set_option maxHeartbeats 4000000 in
theorem refburden_all (t : Nat) (n wt : Int) (ht : t < 18446744073709551616) (w : World) : Calls Try.prog 29 #[.float .f64 t, .int .i64 n, .int .i64 wt] w fun e w' => e = .returned (.float .f64 (brdB t n wt)) ∧ w = w' := by
  unfold brdB
  by_cases h1 : n < 0
  · have d1 : decide (n < 0) = true := by simpa using h1
    rw [if_pos (.inl h1)]
    clear h1
    go_enter Try.func29, Try.ntmps29
    go_wp2_with fail
    go_ret
    exact ⟨rfl, rfl⟩
  have d1 : decide (n < 0) = false := by simpa using h1
  by_cases h2 : 1099511627776 < n
  · have d2 : decide (1099511627776 < n) = true := by simpa using h2
    rw [if_pos (.inr (.inl h2))]
    clear h1 h2
    go_enter Try.func29, Try.ntmps29
    go_wp2_with fail
    go_ret
    exact ⟨rfl, rfl⟩
  have d2 : decide (1099511627776 < n) = false := by simpa using h2
  by_cases h3 : wt < 1
  · have d3 : decide (wt < 1) = true := by simpa using h3
    rw [if_pos (.inr (.inr (.inl h3)))]
    clear h1 h2 h3
    go_enter Try.func29, Try.ntmps29
    go_wp2_with fail
    go_ret
    exact ⟨rfl, rfl⟩
  have d3 : decide (wt < 1) = false := by simpa using h3
  by_cases h4 : 1000 < wt
  · have d4 : decide (1000 < wt) = true := by simpa using h4
    rw [if_pos (.inr (.inr (.inr h4)))]
    clear h1 h2 h3 h4
    go_enter Try.func29, Try.ntmps29
    go_wp2_with fail
    go_ret
    exact ⟨rfl, rfl⟩
  have d4 : decide (1000 < wt) = false := by simpa using h4
  rw [if_neg (by omega)]
  obtain ⟨s2, m2, s4, m4⟩ := brdB_steps ht (show 0 ≤ n ∧ n ≤ 1099511627776 by omega) (show 1 ≤ wt ∧ wt ≤ 1000 by omega)
  have C1 := Lib.hid fun W => refclean_all _ ht W
  have C2 := Lib.hid fun W => refclean_all _ m2 W
  have C3 := Lib.hid fun W => refclean_all _ m4 W
  have n0 : 0 ≤ n := by omega
  have n1 : n ≤ 1099511627776 := by omega
  clear h1 h2 h3 h4 m2 m4
  unfold cvF at *
  generalize cleanB t = ct at *
  generalize mulF ct (floatOfInt FloatKind.f64 (n + 1)) = x at *
  generalize cleanB x = cx at *
  generalize divF cx (floatOfInt FloatKind.f64 wt) = y at *
  generalize cleanB y = cy at *
  go_enter Try.func29, Try.ntmps29
  go_wp2_with fail
  refine (C1.out _).mono ?_
  rintro e w1 ⟨rfl, rfl⟩
  go_wp2_with fail
  refine (C2.out _).mono ?_
  rintro e w1 ⟨rfl, rfl⟩
  go_wp2_with fail
  refine (C3.out _).mono ?_
  rintro e w1 ⟨rfl, rfl⟩
  go_wp2_with fail
  go_ret
  exact ⟨rfl, rfl⟩
end Go.Proofs.Ytnmmjchhinfbpaa
