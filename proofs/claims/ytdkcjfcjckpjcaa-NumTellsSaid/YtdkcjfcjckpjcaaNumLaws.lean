/- cloakroomlaw01: the contracts of NumTells, NumCross, NumScale. -/
import Derived.Test.YtdkcjfcjckpjcaaNumD
namespace Go.Proofs.Ytdkcjfcjckpjcaa
open Go Go.RowKit Go.Deep

theorem cross_int (a b c d : Int) (w : World) (a0 : 0 ≤ a) (ha : a < 18446744073709551616) (b0 : 0 ≤ b) (hb : b < 18446744073709551616) (c0 : 0 ≤ c) (hc : c < 18446744073709551616) (d0 : 0 ≤ d) (hd : d < 18446744073709551616) :
    Calls Try.prog 63 #[.int .u64 a, .int .u64 b, .int .u64 c, .int .u64 d] w fun e w' => e = .returned (.int .i64 (cmpI (a * b) (c * d))) ∧ Below w.heap.size w w' := by
  obtain ⟨a, rfl⟩ := Int.eq_ofNat_of_zero_le a0
  obtain ⟨b, rfl⟩ := Int.eq_ofNat_of_zero_le b0
  obtain ⟨c, rfl⟩ := Int.eq_ofNat_of_zero_le c0
  obtain ⟨d, rfl⟩ := Int.eq_ofNat_of_zero_le d0
  have := cross_any a b c d w (by omega) (by omega) (by omega) (by omega)
  rw [Int.natCast_mul, Int.natCast_mul] at this
  exact this

set_option maxRecDepth 100000 in
set_option maxHeartbeats 1000000 in
theorem numTells_calls (a b c d : Nat) (n m : Int) (w : World) (ha : a < 18446744073709551616) (hb : b < 18446744073709551616) (hc : c < 18446744073709551616) (hd : d < 18446744073709551616) (hm0 : -9223372036854775808 ≤ m) (hm : m ≤ 9223372036854775807) :
    Calls Try.prog 11 #[.int .u64 a, .int .u64 b, .int .u64 c, .int .u64 d, .int .i64 n, .int .i64 m] w fun e w' => e = .returned (.bool true) ∧ Below w.heap.size w w' := by
  have C1 := fun W => cross_any a b c d W ha hb hc hd
  have C2 := fun W => refcross_any a b c d W ha hb hc hd
  generalize cmpI ((a * b : Nat) : Int) ((c * d : Nat) : Int) = x at C1 C2
  replace C1 := Lib.hid C1
  replace C2 := Lib.hid C2
  go_enter Try.func11, Try.ntmps11
  go_wp2_with (first
    | (go_at_call 63; refine (C1.out _).mono ?_; rintro e w1 ⟨rfl, hb1⟩; have z1 := hb1.size)
    | (go_at_call 67; refine (C2.out _).mono ?_; rintro e w' ⟨rfl, rfl⟩)
    | (go_at_call 68; refine (mask_any _ _).mono ?_; rintro e w' ⟨rfl, rfl⟩)
    | (go_at_call 69; refine (refmask_any _ _).mono ?_; rintro e w' ⟨rfl, rfl⟩)
    | (go_at_call 70; refine (width_any _ _ ha).mono ?_; rintro e w' ⟨rfl, rfl⟩)
    | (go_at_call 71; refine (refwidth_any _ _ ha).mono ?_; rintro e w' ⟨rfl, rfl⟩)
    | (go_at_call 65; refine (scale_any _ _ _ ha).mono ?_; rintro e w2 ⟨rfl, hb2⟩; have z2 := hb2.size)
    | (go_at_call 72; refine (refscale_any _ _ _ ha).mono ?_; rintro e w' ⟨rfl, rfl⟩)
    | (go_at_call 73; refine (round_any _ _ _ hm0 hm).mono ?_; rintro e w' ⟨rfl, rfl⟩)
    | (go_at_call 74; refine (refround_any _ _ _ hm0 hm).mono ?_; rintro e w' ⟨rfl, rfl⟩)
    | (go_at_call 66; refine (ahead_any _ _ _ (by omega) (by omega) (by omega) (by omega)).mono ?_; rintro e w' ⟨rfl, rfl⟩)
    | (go_at_call 75; refine (refahead_any _ _ _ (by omega) (by omega) (by omega) (by omega)).mono ?_; rintro e w' ⟨rfl, rfl⟩)
    | (go_at_call 64; refine (awake01 _).mono ?_; rintro e w3 ⟨rfl, hb3⟩))
  go_ret
  exact ⟨rfl, below_call (below_call hb1 z1 hb2) (by omega) hb3⟩

theorem cmpI_neg (x y : Int) : cmpI x y = -cmpI y x := by unfold cmpI; repeat' split <;> omega
theorem cmpI_self (x : Int) : cmpI x x = 0 := by unfold cmpI; rw [if_neg (by omega), if_neg (by omega)]
theorem mul_small (x y : Int) (x0 : 0 ≤ x) (x1 : x < 4294967296) (y0 : 0 ≤ y) (y1 : y < 4294967296) : 0 ≤ x * y ∧ x * y < 18446744073709551616 := by
  refine ⟨Int.mul_nonneg x0 y0, ?_⟩
  have : x * y ≤ 4294967295 * 4294967295 := Int.mul_le_mul (by omega) (by omega) y0 (by omega)
  omega

set_option maxRecDepth 100000 in
set_option maxHeartbeats 1000000 in
theorem numCross_calls (a b c d : Int) (w : World) (a0 : 0 ≤ a) (ha : a < 18446744073709551616) (b0 : 0 ≤ b) (hb : b < 18446744073709551616) (c0 : 0 ≤ c) (hc : c < 18446744073709551616) (d0 : 0 ≤ d) (hd : d < 18446744073709551616) :
    Calls Try.prog 9 #[.int .u64 a, .int .u64 b, .int .u64 c, .int .u64 d] w fun e w' => e = .returned (.bool true) ∧ Below w.heap.size w w' := by
  have C1 := fun W => cross_int a b c d W a0 ha b0 hb c0 hc d0 hd
  have C2 := fun W => cross_int c d a b W c0 hc d0 hd a0 ha b0 hb
  have C3 := fun W => cross_int a b b a W a0 ha b0 hb b0 hb a0 ha
  have C4 := fun W => cross_int (a / 4294967296) (b / 4294967296) (c / 4294967296) (d / 4294967296) W (by omega) (by omega) (by omega) (by omega) (by omega) (by omega) (by omega) (by omega)
  rw [Int.mul_comm b a, cmpI_self] at C3
  have hn := cmpI_neg (a * b) (c * d)
  have mx := mul_small (a / 4294967296) (b / 4294967296) (by omega) (by omega) (by omega) (by omega)
  have my := mul_small (c / 4294967296) (d / 4294967296) (by omega) (by omega) (by omega) (by omega)
  have wx : IntKind.u64.wrap (a / 4294967296 * (b / 4294967296)) = a / 4294967296 * (b / 4294967296) := by rw [wrap_u64]; exact Int.emod_eq_of_lt mx.1 mx.2
  have wy : IntKind.u64.wrap (c / 4294967296 * (d / 4294967296)) = c / 4294967296 * (d / 4294967296) := by rw [wrap_u64]; exact Int.emod_eq_of_lt my.1 my.2
  generalize hX : a / 4294967296 * (b / 4294967296) = X at C4 wx mx
  generalize hY : c / 4294967296 * (d / 4294967296) = Y at C4 wy my
  have hq : -1 ≤ cmpI (c * d) (a * b) ∧ cmpI (c * d) (a * b) ≤ 1 := by unfold cmpI; repeat' split <;> omega
  generalize cmpI (a * b) (c * d) = p at C1 hn
  generalize cmpI (c * d) (a * b) = q at C2 hn hq
  obtain ⟨hq1, hq2⟩ := hq
  have hb1 : (p != -q) = false := by simp [hn]
  clear hn
  replace C1 := Lib.hid C1
  replace C2 := Lib.hid C2
  replace C3 := Lib.hid C3
  replace C4 := Lib.hid C4
  go_enter Try.func9, Try.ntmps9
  go_wp2_with fail
  refine (C1.out _).mono ?_
  rintro e w1 ⟨rfl, h1⟩
  go_wp2_with fail
  refine (C2.out _).mono ?_
  rintro e w2 ⟨rfl, h2⟩
  go_wp2_with fail
  refine (C3.out _).mono ?_
  rintro e w3 ⟨rfl, h3⟩
  go_wp2_with fail
  have htri : X < Y ∨ X = Y ∨ Y < X := by omega
  rcases htri with ht | ht | ht
  · have e : cmpI X Y = -1 := by unfold cmpI; repeat' split <;> omega
    have n1 : ¬ Y < X := by omega
    have n2 : (X == Y) = false := by rw [beq_eq_false_iff_ne]; omega
    have C4' := C4.out
    rw [e] at C4'
    refine (C4' _).mono ?_
    clear C4' e
    rintro e w4 ⟨rfl, h4⟩
    have hB := below_call (below_call (below_call h1 h1.size h2) (by have := h1.size; have := h2.size; omega) h3) (by have := h1.size; have := h2.size; have := h3.size; omega) h4
    have z4 := hB.size
    clear h1 h2 h3 h4
    go_wp2_with (go_at_call 64; refine (awake01 _).mono ?_; rintro e w5 ⟨rfl, h5⟩)
    go_ret
    exact ⟨ret_bool (by simp [n1]), below_call hB z4 h5⟩
  · have e : cmpI X Y = 0 := by unfold cmpI; repeat' split <;> omega
    have n1 : ¬ Y < X := by omega
    have n3 : ¬ X < Y := by omega
    have n2 : (X == Y) = true := by rw [beq_iff_eq]; exact ht
    have C4' := C4.out
    rw [e] at C4'
    refine (C4' _).mono ?_
    clear C4' e
    rintro e w4 ⟨rfl, h4⟩
    have hB := below_call (below_call (below_call h1 h1.size h2) (by have := h1.size; have := h2.size; omega) h3) (by have := h1.size; have := h2.size; have := h3.size; omega) h4
    have z4 := hB.size
    clear h1 h2 h3 h4
    go_wp2_with (go_at_call 64; refine (awake01 _).mono ?_; rintro e w5 ⟨rfl, h5⟩)
    go_ret
    exact ⟨ret_bool (by simp [n1]), below_call hB z4 h5⟩
  · have e : cmpI X Y = 1 := by unfold cmpI; repeat' split <;> omega
    have n1 : ¬ X < Y := by omega
    have n2 : (X == Y) = false := by rw [beq_eq_false_iff_ne]; omega
    have C4' := C4.out
    rw [e] at C4'
    refine (C4' _).mono ?_
    clear C4' e
    rintro e w4 ⟨rfl, h4⟩
    have hB := below_call (below_call (below_call h1 h1.size h2) (by have := h1.size; have := h2.size; omega) h3) (by have := h1.size; have := h2.size; have := h3.size; omega) h4
    have z4 := hB.size
    clear h1 h2 h3 h4
    go_wp2_with (go_at_call 64; refine (awake01 _).mono ?_; rintro e w5 ⟨rfl, h5⟩)
    go_ret
    exact ⟨ret_bool (by simp [n1]), below_call hB z4 h5⟩

set_option maxRecDepth 100000 in
set_option maxHeartbeats 1000000 in
theorem numScale_calls (x y : Nat) (n : Int) (w : World) (hx : x < 18446744073709551616) (hy : y < 18446744073709551616) (n0 : 0 ≤ n) (hn : n ≤ 65535) :
    Calls Try.prog 10 #[.int .u64 x, .int .u64 y, .int .u16 n] w fun e w' => e = .returned (.bool true) ∧ Below w.heap.size w w' := by
  have C1 := fun W => scale_any x (1 + n) W hx
  have C2 := fun W => scale_any y (1 + n) W hy
  have s1 : 0 ≤ scaleI x (1 + n) ∧ scaleI x (1 + n) < 1 + n := by
    have := scale_lt x (1 + n).toNat hx (by omega)
    have e : ((x * (1 + n).toNat : Nat) : Int) = x * (1 + n) := by rw [Int.natCast_mul]; congr 1; omega
    unfold scaleI
    rw [if_neg (by omega), ← e]
    omega
  have s2 : x ≤ y → scaleI x (1 + n) ≤ scaleI y (1 + n) := by
    intro h
    unfold scaleI
    rw [if_neg (by omega), if_neg (by omega)]
    refine Int.ediv_le_ediv (by omega) (Int.mul_le_mul_of_nonneg_right (by omega) (by omega))
  generalize scaleI x (1 + n) = a at *
  generalize scaleI y (1 + n) = b at *
  obtain ⟨s1, s3⟩ := s1
  replace C1 := Lib.hid C1
  replace C2 := Lib.hid C2
  obtain ⟨f, hf⟩ : ∃ f, (x : Int) % 4294967296 = f := ⟨_, rfl⟩
  obtain ⟨t, ht⟩ : ∃ t, (y : Int) % 4294967296 = t := ⟨_, rfl⟩
  have f0 : 0 ≤ f := by omega
  have f1 : f < 4294967296 := by omega
  have t0 : 0 ≤ t := by omega
  have t1 : t < 4294967296 := by omega
  have A1 := fun W => ahead_any f t W f0 f1 t0 t1
  have A2 := fun W => ahead_any t f W t0 t1 f0 f1
  have e1 : f = t → aheadI f t = 0 ∧ aheadI t f = 0 := by unfold aheadI; omega
  have e2 : f ≠ t → aheadI f t + aheadI t f = 4294967296 := by unfold aheadI; omega
  have e3 : (f + aheadI f t) % 4294967296 = t := by unfold aheadI; omega
  have g1 : 0 ≤ aheadI f t ∧ aheadI f t < 4294967296 := by unfold aheadI; omega
  have g2 : 0 ≤ aheadI t f ∧ aheadI t f < 4294967296 := by unfold aheadI; omega
  generalize aheadI f t = p at *
  generalize aheadI t f = q at *
  obtain ⟨p0, p1⟩ := g1
  obtain ⟨q0, q1⟩ := g2
  have hk : x ≤ y ∨ y < x := by omega
  have e4 : IntKind.u32.wrap (f + p) = t := by rw [wrap_u32, e3]
  replace A1 := Lib.hid A1
  replace A2 := Lib.hid A2
  by_cases hft : f = t
  · obtain ⟨rfl, rfl⟩ := e1 hft
    subst hft
    clear e1 e2 e3
    rcases hk with hk | hk
    · have hab := s2 hk
      have hn2 : ¬ y < x := by omega
      clear s2
      go_enter Try.func10, Try.ntmps10
      go_wp2_with fail
      refine (C1.out _).mono ?_
      rintro e w1 ⟨rfl, h1⟩
      go_wp2_with fail
      refine (C2.out _).mono ?_
      rintro e w2 ⟨rfl, h2⟩
      have hB := below_call h1 h1.size h2
      have z2 := hB.size
      clear h1 h2
      go_wp2_with fail
      refine (A1.out _).mono ?_
      rintro e w' ⟨rfl, rfl⟩
      go_wp2_with fail
      refine (A2.out _).mono ?_
      rintro e w' ⟨rfl, rfl⟩
      go_wp2_with fail
      refine (A1.out _).mono ?_
      rintro e w' ⟨rfl, rfl⟩
      go_wp2_with (go_at_call 64; refine (awake01 _).mono ?_; rintro e w5 ⟨rfl, h5⟩)
      go_ret
      exact ⟨rfl, below_call hB z2 h5⟩
    · have hn2 : ¬ x ≤ y := by omega
      clear s2
      go_enter Try.func10, Try.ntmps10
      go_wp2_with fail
      refine (C1.out _).mono ?_
      rintro e w1 ⟨rfl, h1⟩
      go_wp2_with fail
      refine (C2.out _).mono ?_
      rintro e w2 ⟨rfl, h2⟩
      have hB := below_call h1 h1.size h2
      have z2 := hB.size
      clear h1 h2
      go_wp2_with fail
      refine (A1.out _).mono ?_
      rintro e w' ⟨rfl, rfl⟩
      go_wp2_with fail
      refine (A2.out _).mono ?_
      rintro e w' ⟨rfl, rfl⟩
      go_wp2_with fail
      refine (A1.out _).mono ?_
      rintro e w' ⟨rfl, rfl⟩
      go_wp2_with (go_at_call 64; refine (awake01 _).mono ?_; rintro e w5 ⟨rfl, h5⟩)
      go_ret
      exact ⟨rfl, below_call hB z2 h5⟩
  · have b1 : (f == t) = false := by simp [hft]
    have b2 : (f != t) = true := by simp [hft]
    have b3 : (p + q == 4294967296) = true := by rw [beq_iff_eq]; exact e2 hft
    replace hft := Lib.hid hft
    clear e1 e2 e3
    rcases hk with hk | hk
    · have hab := s2 hk
      have hn2 : ¬ y < x := by omega
      clear s2
      go_enter Try.func10, Try.ntmps10
      go_wp2_with fail
      refine (C1.out _).mono ?_
      rintro e w1 ⟨rfl, h1⟩
      go_wp2_with fail
      refine (C2.out _).mono ?_
      rintro e w2 ⟨rfl, h2⟩
      have hB := below_call h1 h1.size h2
      have z2 := hB.size
      clear h1 h2
      go_wp2_with fail
      refine (A1.out _).mono ?_
      rintro e w' ⟨rfl, rfl⟩
      go_wp2_with fail
      refine (A2.out _).mono ?_
      rintro e w' ⟨rfl, rfl⟩
      go_wp2_with fail
      refine (A1.out _).mono ?_
      rintro e w' ⟨rfl, rfl⟩
      go_wp2_with (go_at_call 64; refine (awake01 _).mono ?_; rintro e w5 ⟨rfl, h5⟩)
      go_ret
      exact ⟨rfl, below_call hB z2 h5⟩
    · have hn2 : ¬ x ≤ y := by omega
      clear s2
      go_enter Try.func10, Try.ntmps10
      go_wp2_with fail
      refine (C1.out _).mono ?_
      rintro e w1 ⟨rfl, h1⟩
      go_wp2_with fail
      refine (C2.out _).mono ?_
      rintro e w2 ⟨rfl, h2⟩
      have hB := below_call h1 h1.size h2
      have z2 := hB.size
      clear h1 h2
      go_wp2_with fail
      refine (A1.out _).mono ?_
      rintro e w' ⟨rfl, rfl⟩
      go_wp2_with fail
      refine (A2.out _).mono ?_
      rintro e w' ⟨rfl, rfl⟩
      go_wp2_with fail
      refine (A1.out _).mono ?_
      rintro e w' ⟨rfl, rfl⟩
      go_wp2_with (go_at_call 64; refine (awake01 _).mono ?_; rintro e w5 ⟨rfl, h5⟩)
      go_ret
      exact ⟨rfl, below_call hB z2 h5⟩
end Go.Proofs.Ytdkcjfcjckpjcaa
