/- num: Scale, Round, Ahead; awake. -/
import Derived.Test.YtdkcjfcjckpjcaaNumC
namespace Go.Proofs.Ytdkcjfcjckpjcaa
open Go Go.RowKit Go.Deep

def scaleI (x n : Int) : Int := if n < 1 ∨ 2147483648 < n then 0 else x * n / 18446744073709551616
theorem wide_fst (p q : Int) (w : World) : (Instr.index 141 (.agg #[.int .u64 p, .int .u64 q]) (.int .i64 0)).run Try.prog w = .ok (.int .u64 p) w := by kernel_rfl
theorem scale_lt (x n : Nat) (hx : x < 18446744073709551616) (hn : 1 ≤ n) : x * n / 18446744073709551616 < n := by
  rw [Nat.div_lt_iff_lt_mul (by omega), Nat.mul_comm n]
  exact Nat.mul_lt_mul_of_pos_right hx (by omega)

theorem scale_any (x : Nat) (n : Int) (w : World) (hx : x < 18446744073709551616) : Calls Try.prog 65 #[.int .u64 x, .int .i64 n] w fun e w' => e = .returned (.int .i64 (scaleI x n)) ∧ Below w.heap.size w w' := by
  by_cases h : n < 1 ∨ 2147483648 < n
  · have e : scaleI x n = 0 := by unfold scaleI; rw [if_pos h]
    replace e := Lib.hid e
    go_enter Try.func65, Try.ntmps65
    go_wp2_with fail
    all_goals go_ret
    all_goals exact ⟨by rw [e.out]; rfl, (by repeat (first | exact Below.refl _ _ | assumption | refine below_alloc ?_ _ | refine below_chain (by assumption) ?_ | refine below_call2 (by assumption) ?_ (by first | omega | (simp; done) | (simp; omega) | (simp [World.setCell]; omega)) | refine below_drewN ?_ _ | refine Below.drew ?_ | refine Below.alloc ?_ (by first | omega | (simp; done) | (simp; omega) | (simp [World.setCell]; omega)) _ | refine Below.setCell ?_ (by first | omega | (simp; done) | (simp; omega) | (simp [World.setCell]; omega)) _))⟩
  · have h1 : 1 ≤ n := by omega
    have h2 : n ≤ 2147483648 := by omega
    obtain ⟨m, rfl⟩ : ∃ m : Nat, n = m := ⟨n.toNat, by omega⟩
    have e : scaleI x m = ((x * m : Nat) : Int) / 18446744073709551616 := by unfold scaleI; rw [if_neg h]; simp
    have hlt := scale_lt x m hx (by omega)
    have C := product_any x m
    obtain ⟨P, hP⟩ : ∃ P : Int, P = ((x * m : Nat) : Int) / 18446744073709551616 := ⟨_, rfl⟩
    obtain ⟨Q, hQ⟩ : ∃ Q : Int, Q = ((x * m : Nat) : Int) % 18446744073709551616 := ⟨_, rfl⟩
    rw [← hP] at C e
    rw [← hQ] at C
    have hP0 : 0 ≤ P := by omega
    have hP1 : P ≤ 2147483648 := by omega
    replace C := Lib.hid C
    replace e := Lib.hid e
    clear hP hQ hlt h
    have hi := wide_fst P Q
    go_enter Try.func65, Try.ntmps65
    go_wp2_with (go_at_call 106; refine (C.out _ hx (by omega)).mono ?_; rintro e w1 ⟨rfl, hb1⟩)
    go_ret
    exact ⟨by rw [e.out]; rfl, (by repeat (first | exact Below.refl _ _ | assumption | refine below_alloc ?_ _ | refine below_chain (by assumption) ?_ | refine below_call2 (by assumption) ?_ (by first | omega | (simp; done) | (simp; omega) | (simp [World.setCell]; omega)) | refine below_drewN ?_ _ | refine Below.drew ?_ | refine Below.alloc ?_ (by first | omega | (simp; done) | (simp; omega) | (simp [World.setCell]; omega)) _ | refine Below.setCell ?_ (by first | omega | (simp; done) | (simp; omega) | (simp [World.setCell]; omega)) _))⟩
theorem refscale_any (x : Nat) (n : Int) (w : World) (hx : x < 18446744073709551616) : Calls Try.prog 72 #[.int .u64 x, .int .i64 n] w fun e w' => e = .returned (.int .i64 (scaleI x n)) ∧ w = w' := by
  by_cases h : n < 1 ∨ 2147483648 < n
  · have e : scaleI x n = 0 := by unfold scaleI; rw [if_pos h]
    replace e := Lib.hid e
    go_enter Try.func72, Try.ntmps72
    go_wp2_with fail
    all_goals go_ret
    all_goals exact ⟨by rw [e.out]; rfl, rfl⟩
  · have h1 : 1 ≤ n := by omega
    have h2 : n ≤ 2147483648 := by omega
    obtain ⟨m, rfl⟩ : ∃ m : Nat, n = m := ⟨n.toNat, by omega⟩
    have e : scaleI x m = ((x * m : Nat) : Int) / 18446744073709551616 := by unfold scaleI; rw [if_neg h]; simp
    have hlt := scale_lt x m hx (by omega)
    have C := mul_any x m
    obtain ⟨P, hP⟩ : ∃ P : Int, P = ((x * m : Nat) : Int) / 18446744073709551616 := ⟨_, rfl⟩
    obtain ⟨Q, hQ⟩ : ∃ Q : Int, Q = ((x * m : Nat) : Int) % 18446744073709551616 := ⟨_, rfl⟩
    rw [← hP] at C e
    rw [← hQ] at C
    have hP0 : 0 ≤ P := by omega
    have hP1 : P ≤ 2147483648 := by omega
    replace C := Lib.hid C
    replace e := Lib.hid e
    clear hP hQ hlt h
    go_enter Try.func72, Try.ntmps72
    go_wp2_with (go_at_call 109; refine (C.out _ hx (by omega)).mono ?_; rintro e w1 ⟨rfl, rfl⟩)
    go_ret
    exact ⟨by rw [e.out]; rfl, rfl⟩

def roundI (n m : Int) : Int := if m < 1 then 0 else n % m
theorem tmod_bounds (n m : Int) (h : 1 ≤ m) : -m < n.tmod m ∧ n.tmod m < m := ⟨by have := Int.lt_tmod_of_pos n (show 0 < m by omega); omega, Int.tmod_lt_of_pos n (by omega)⟩
theorem emod_tmod (n m : Int) : n % m = n.tmod m % m := by
  have e : n = m * n.tdiv m + n.tmod m := (Int.mul_tdiv_add_tmod n m).symm
  have h := Int.mul_add_emod_self_left m (n.tdiv m) (n.tmod m)
  rw [← e] at h
  exact h
theorem round_pos (n m : Int) (h : 1 ≤ m) (hr : 0 ≤ n.tmod m) : n.tmod m = roundI n m := by
  have hb := tmod_bounds n m h
  unfold roundI
  rw [if_neg (by omega), emod_tmod, Int.emod_eq_of_lt hr hb.2]
theorem round_neg (n m : Int) (h : 1 ≤ m) (hr : n.tmod m < 0) : n.tmod m + m = roundI n m := by
  have hb := tmod_bounds n m h
  unfold roundI
  rw [if_neg (by omega), emod_tmod]
  have h2 := Int.add_emod_right (n.tmod m) m
  rw [← h2, Int.emod_eq_of_lt (by omega) (by omega)]
theorem round_any (n m : Int) (w : World) (hm0 : -9223372036854775808 ≤ m) (hm : m ≤ 9223372036854775807) : Calls Try.prog 73 #[.int .i64 n, .int .i64 m] w fun e w' => e = .returned (.int .i64 (roundI n m)) ∧ w = w' := by
  by_cases h : m < 1
  · have e : roundI n m = 0 := by unfold roundI; rw [if_pos h]
    replace e := Lib.hid e
    go_enter Try.func73, Try.ntmps73
    go_wp2_with fail
    go_ret
    exact ⟨by rw [e.out]; rfl, rfl⟩
  · have h1 : 1 ≤ m := by omega
    have hb := tmod_bounds n m h1
    obtain ⟨hb1, hb2⟩ := hb
    go_enter Try.func73, Try.ntmps73
    go_wp2_with fail
    all_goals go_ret
    · exact ⟨ret_int (round_pos n m h1 (by assumption)), rfl⟩
    · exact ⟨ret_int (round_neg n m h1 (by assumption)), rfl⟩
theorem refround_any (n m : Int) (w : World) (hm0 : -9223372036854775808 ≤ m) (hm : m ≤ 9223372036854775807) : Calls Try.prog 74 #[.int .i64 n, .int .i64 m] w fun e w' => e = .returned (.int .i64 (roundI n m)) ∧ w = w' := by
  by_cases h : m < 1
  · have e : roundI n m = 0 := by unfold roundI; rw [if_pos h]
    replace e := Lib.hid e
    go_enter Try.func74, Try.ntmps74
    go_wp2_with fail
    go_ret
    exact ⟨by rw [e.out]; rfl, rfl⟩
  · have h1 : 1 ≤ m := by omega
    obtain ⟨hb1, hb2⟩ := tmod_bounds n m h1
    by_cases hr : n.tmod m < 0
    · go_enter Try.func74, Try.ntmps74
      go_wp2_with fail
      go_ret
      exact ⟨ret_int (round_neg n m h1 hr), rfl⟩
    · go_enter Try.func74, Try.ntmps74
      go_wp2_with fail
      go_ret
      exact ⟨ret_int (round_pos n m h1 (by omega)), rfl⟩

def aheadI (f t : Int) : Int := (t - f) % 4294967296
theorem wrap_u32 (n : Int) : IntKind.u32.wrap n = n % 4294967296 := by simp [IntKind.wrap, IntKind.bits, IntKind.signed]
theorem ahead_any (f t : Int) (w : World) (_f0 : 0 ≤ f) (_f1 : f < 4294967296) (_t0 : 0 ≤ t) (_t1 : t < 4294967296) : Calls Try.prog 66 #[.int .u32 f, .int .u32 t] w fun e w' => e = .returned (.int .i64 (aheadI f t)) ∧ w = w' := by
  have e : IntKind.u32.wrap (t - f) = aheadI f t := wrap_u32 _
  have e1 : 0 ≤ aheadI f t := by unfold aheadI; omega
  have e2 : aheadI f t < 4294967296 := by unfold aheadI; omega
  go_enter Try.func66, Try.ntmps66
  go_wp2_with fail
  go_ret
  exact ⟨rfl, rfl⟩
theorem refahead_any (f t : Int) (w : World) (f0 : 0 ≤ f) (f1 : f < 4294967296) (t0 : 0 ≤ t) (t1 : t < 4294967296) : Calls Try.prog 75 #[.int .u32 f, .int .u32 t] w fun e w' => e = .returned (.int .i64 (aheadI f t)) ∧ w = w' := by
  go_enter Try.func75, Try.ntmps75
  go_wp2_with fail
  all_goals go_ret
  all_goals refine ⟨ret_int ?_, rfl⟩
  all_goals (unfold aheadI; omega)

set_option maxRecDepth 100000 in
theorem awake01 (w : World) : Calls Try.prog 64 #[] w fun e w' => e = .returned (.bool true) ∧ Below w.heap.size w w' := by
  have k1 : cmpI ((2 * 3 : Nat) : Int) ((1 * 7 : Nat) : Int) = -1 := by decide
  have k2 : maskI 4 = 15 := by decide
  have k3 : scaleI ((9223372036854775808 : Nat) : Int) 10 = 5 := by unfold scaleI; simp
  have k4 : aheadI 4294967295 1 = 2 := by decide
  have k5 : roundI (-1) 5 = 4 := by decide
  have C1 := fun W => cross_any 2 3 1 7 W (by omega) (by omega) (by omega) (by omega)
  have C2 := fun W => mask_any 4 W
  have C3 := fun W => scale_any 9223372036854775808 10 W (by omega)
  have C4 := fun W => ahead_any 4294967295 1 W (by omega) (by omega) (by omega) (by omega)
  have C5 := fun W => round_any (-1) 5 W (by omega) (by omega)
  rw [k1] at C1
  rw [k2] at C2
  rw [k3] at C3
  rw [k4] at C4
  rw [k5] at C5
  clear k1 k2 k3 k4 k5
  replace C1 := Lib.hid C1
  replace C2 := Lib.hid C2
  replace C3 := Lib.hid C3
  replace C4 := Lib.hid C4
  replace C5 := Lib.hid C5
  go_enter Try.func64, Try.ntmps64
  go_wp2_with (first
    | (go_at_call 63; refine (C1.out _).mono ?_; rintro e w1 ⟨rfl, hb1⟩)
    | (go_at_call 68; refine (C2.out _).mono ?_; rintro e w' ⟨rfl, rfl⟩)
    | (go_at_call 65; refine (C3.out _).mono ?_; rintro e w2 ⟨rfl, hb2⟩)
    | (go_at_call 66; refine (C4.out _).mono ?_; rintro e w' ⟨rfl, rfl⟩)
    | (go_at_call 73; refine (C5.out _).mono ?_; rintro e w' ⟨rfl, rfl⟩))
  go_ret
  have := hb1.size
  exact ⟨rfl, (by repeat (first | exact Below.refl _ _ | assumption | refine below_alloc ?_ _ | refine below_chain (by assumption) ?_ | refine below_call2 (by assumption) ?_ (by first | omega | (simp; done) | (simp; omega) | (simp [World.setCell]; omega)) | refine below_drewN ?_ _ | refine Below.drew ?_ | refine Below.alloc ?_ (by first | omega | (simp; done) | (simp; omega) | (simp [World.setCell]; omega)) _ | refine Below.setCell ?_ (by first | omega | (simp; done) | (simp; omega) | (simp [World.setCell]; omega)) _))⟩
end Go.Proofs.Ytdkcjfcjckpjcaa
