/- Plain arithmetic of products in two halves. num: contracts. num: the program's functions and the reference's. num: masks, widths, scaled and rounded numbers. num: Scale, Round, Ahead; awake. cookie: payloads and masks as plain numbers. -/
import Derived.Test.YteklkljndchjiaaGreatJ2
import Derived.Laws.BitsAllLaws
import Derived.Test.YteklkljndchjiaaGreatJ7
import Derived.Test.YteklkljndchjiaaGreatShelf
import Derived.Deep.RegionHeld3
import Derived.Laws.Bits64
import Derived.Laws.Bits64b
namespace Go.Proofs.YteklkljndchjiaaGreat
open Go Go.RowKit
def dbl (hi lo add : Nat) : Nat := (hi * 18446744073709551616 + lo) * 2 + add
def part (a b i : Nat) : Nat := a / 2 ^ i * b
end Go.Proofs.YteklkljndchjiaaGreat
namespace Go.Proofs.YteklkljndchjiaaGreat
open Go Go.RowKit Go.Deep
def bitAt (a j : Nat) : Bool := a / 2 ^ j % 2 == 1
theorem product_any (a b : Nat) (w : World) (ha : a < 18446744073709551616) (hb : b < 18446744073709551616) :
  Calls Tryz.prog 255 #[.int .u64 a, .int .u64 b] w fun e w' => e = .returned (.agg #[.int .u64 (((a * b : Nat) : Int) / 18446744073709551616), .int .u64 (((a * b : Nat) : Int) % 18446744073709551616)]) ∧ Below w.heap.size w w' := by
 go_enter Tryz.func255, Tryz.ntmps255
 go_wp2_with (go_at_call 291; refine (Tryz.bits_Mul64 _ _ ha hb _).mono ?_; rintro e w' ⟨rfl, rfl⟩)
 refine bodyPost_ret (v := .agg #[.int .u64 (((a * b : Nat) : Int) / 18446744073709551616), .int .u64 (((a * b : Nat) : Int) % 18446744073709551616)]) (by simp [results, Tryz.results255, go_sem]) rfl ⟨rfl, (by repeat (first | exact Below.refl _ _ | assumption | refine below_alloc ?_ _ | refine below_chain (by assumption) ?_ | refine below_call2 (by assumption) ?_ (by first | omega | (simp; done) | (simp; omega) | (simp [World.setCell]; omega)) | refine below_drewN ?_ _ | refine Below.drew ?_ | refine Below.alloc ?_ (by first | omega | (simp; done) | (simp; omega) | (simp [World.setCell]; omega)) _ | refine Below.setCell ?_ (by first | omega | (simp; done) | (simp; omega) | (simp [World.setCell]; omega)) _))⟩
def cmpI (x y : Int) : Int := if x < y then -1 else if y < x then 1 else 0
def orI (x y : Int) : Int := if x = 0 then y else x
theorem or_any (x y : Int) (g : Nat) (w : World) (h : Blk w g 3 #[.int .i64 x, .int .i64 y]) : Calls Tryz.prog 235 #[.slice (some ⟨g, 0, none⟩) 2 2] w fun e w' => e = .returned (.int .i64 (orI x y)) ∧ w = w' := by
 have c0 := h.cell 0
 have c1 := h.cell 1
 simp at c0 c1
 go_enter Tryz.func235, Tryz.ntmps235
 go_wp2_with fail
 refine wp_loop_rounds 3 ?_
 iterate 3 (all_goals (try (rw [rounds_succ])); all_goals (go_wp2_with fail))
 all_goals go_ret
 all_goals refine ⟨ret_int ?_, rfl⟩
 all_goals simp_all [orI]
def maskI (k : Int) : Int := if k < 0 ∨ 64 < k then 0 else ((2 ^ k.toNat - 1 : Nat) : Int)
theorem mask_val : ∀ k : Fin 65, bits BinOp.xor IntKind.u64 IntKind.u64.max (IntKind.u64.wrap (18446744073709551615 * 2 ^ k.val)) = ((2 ^ k.val - 1 : Nat) : Int) := by decide +kernel
theorem mask_any (k : Int) (w : World) : Calls Tryz.prog 157 #[.int .i64 k] w fun e w' => e = .returned (.int .u64 (maskI k)) ∧ w = w' := by
 go_enter Tryz.func157, Tryz.ntmps157
 go_wp2
 all_goals go_ret
 all_goals refine ⟨ret_int ?_, rfl⟩
 · unfold maskI; rw [if_pos (by assumption)]
 ·
  have h : 0 ≤ k ∧ k ≤ 64 := by assumption
  unfold maskI; rw [if_neg (by omega)]
  exact mask_val ⟨k.toNat, by omega⟩
 ·
  have h : k < 0 := by assumption
  unfold maskI; rw [if_pos (by omega)]
def scaleI (x n : Int) : Int := if n < 1 ∨ 2147483648 < n then 0 else x * n / 18446744073709551616
theorem wide_fst (p q : Int) (w : World) : (Instr.index 304 (.agg #[.int .u64 p, .int .u64 q]) (.int .i64 0)).run Tryz.prog w = .ok (.int .u64 p) w := by kernel_rfl
theorem scale_lt (x n : Nat) (hx : x < 18446744073709551616) (hn : 1 ≤ n) : x * n / 18446744073709551616 < n := by
 rw [Nat.div_lt_iff_lt_mul (by omega), Nat.mul_comm n]
 exact Nat.mul_lt_mul_of_pos_right hx (by omega)
theorem scale_any (x : Nat) (n : Int) (w : World) (hx : x < 18446744073709551616) : Calls Tryz.prog 210 #[.int .u64 x, .int .i64 n] w fun e w' => e = .returned (.int .i64 (scaleI x n)) ∧ Below w.heap.size w w' := by
 by_cases h : n < 1 ∨ 2147483648 < n
 ·
  have e : scaleI x n = 0 := by unfold scaleI; rw [if_pos h]
  replace e := Lib.hid e
  go_enter Tryz.func210, Tryz.ntmps210
  go_wp2_with fail
  all_goals go_ret
  all_goals exact ⟨by rw [e.out]; rfl, (by repeat (first | exact Below.refl _ _ | assumption | refine below_alloc ?_ _ | refine below_chain (by assumption) ?_ | refine below_call2 (by assumption) ?_ (by first | omega | (simp; done) | (simp; omega) | (simp [World.setCell]; omega)) | refine below_drewN ?_ _ | refine Below.drew ?_ | refine Below.alloc ?_ (by first | omega | (simp; done) | (simp; omega) | (simp [World.setCell]; omega)) _ | refine Below.setCell ?_ (by first | omega | (simp; done) | (simp; omega) | (simp [World.setCell]; omega)) _))⟩
 ·
  have h1 : 1 ≤ n := by omega
  have h2 : n ≤ 2147483648 := by omega
  obtain ⟨m, rfl⟩ : ∃ m : Nat, n = m := ⟨n.toNat, by omega⟩
  have e : scaleI x m = ((x * m : Nat) : Int) / 18446744073709551616 := by unfold scaleI; rw [if_neg h]; simp
  have hlt := scale_lt x m hx (by omega)
  have C := product_any x m
  obtain ⟨P, hP⟩ : ∃ P : Int, P = ((x * m : Nat) : Int) / 18446744073709551616 := ⟨_, rfl⟩
  obtain ⟨Q, hQ⟩ : ∃ Q : Int, Q = ((x * m : Nat) : Int) % 18446744073709551616 := ⟨_, rfl⟩
  rw [← hP] at C e
  rw [← hQ] at C
  have hP0 : 0 ≤ P := by omega
  have hP1 : P ≤ 2147483648 := by omega
  replace C := Lib.hid C
  replace e := Lib.hid e
  clear hP hQ hlt h
  have hi := wide_fst P Q
  go_enter Tryz.func210, Tryz.ntmps210
  go_wp2_with (go_at_call 255; refine (C.out _ hx (by omega)).mono ?_; rintro e w1 ⟨rfl, hb1⟩)
  go_ret
  exact ⟨by rw [e.out]; rfl, (by repeat (first | exact Below.refl _ _ | assumption | refine below_alloc ?_ _ | refine below_chain (by assumption) ?_ | refine below_call2 (by assumption) ?_ (by first | omega | (simp; done) | (simp; omega) | (simp [World.setCell]; omega)) | refine below_drewN ?_ _ | refine Below.drew ?_ | refine Below.alloc ?_ (by first | omega | (simp; done) | (simp; omega) | (simp [World.setCell]; omega)) _ | refine Below.setCell ?_ (by first | omega | (simp; done) | (simp; omega) | (simp [World.setCell]; omega)) _))⟩
def roundI (n m : Int) : Int := if m < 1 then 0 else n % m
def aheadI (f t : Int) : Int := (t - f) % 4294967296
def layOk (wd : Bool) (sl gn : Int) : Bool := decide (0 ≤ sl ∧ sl ≤ 12 ∧ 0 ≤ gn ∧ gn ≤ (if wd then 63 else 16) - sl)
def layW (wd : Bool) (sl gn : Int) : Int := if layOk wd sl gn then (if wd then 64 else 16) else 0
theorem layOk_iff {wd : Bool} {sl gn : Int} : layOk wd sl gn = true ↔ 0 ≤ sl ∧ sl ≤ 12 ∧ 0 ≤ gn ∧ gn ≤ (if wd then 63 else 16) - sl := by
 unfold layOk
 exact decide_eq_true_iff
theorem layOk_nat {wd : Bool} {sl gn : Int} (h : layOk wd sl gn = true) : ∃ a b : Nat, sl = a ∧ gn = b ∧ a ≤ 12 ∧ a + b ≤ (if wd then 63 else 16) := by
 have := layOk_iff.1 h
 refine ⟨sl.toNat, gn.toNat, by omega, by omega, by omega, ?_⟩
 cases wd <;> simp at this ⊢ <;> omega
theorem maskI_nat (k : Nat) (h : k ≤ 64) : maskI (k : Int) = ((2 ^ k - 1 : Nat) : Int) := by
 unfold maskI
 rw [if_neg (by omega)]
 rfl
theorem pow63 (k : Nat) (h : k ≤ 63) : 2 ^ k ≤ 9223372036854775808 := Nat.le_trans (Nat.pow_le_pow_right (by omega) h) (by decide)
theorem pow64' (k : Nat) (h : k ≤ 64) : 2 ^ k ≤ 18446744073709551616 := Nat.le_trans (Nat.pow_le_pow_right (by omega) h) (by decide)
theorem and_maskI (x k : Nat) (hx : x < 18446744073709551616) (h : k ≤ 64) : bits BinOp.and IntKind.u64 (x : Int) (maskI (k : Int)) = ((x % 2 ^ k : Nat) : Int) := by
 have := pow64' k h
 have h0 : 0 < 2 ^ k := Nat.pow_pos (by omega)
 rw [maskI_nat k h, bits_and_u64_nat x (2 ^ k - 1) hx (by omega), Nat.and_two_pow_sub_one_eq_mod]
theorem wrapN (x : Nat) (h : x < 18446744073709551616) : IntKind.u64.wrap (x : Int) = (x : Int) := by
 rw [IntKind.wrap_u64]
 omega
def packV (sl gn slot gen : Nat) : Nat := gen % 2 ^ gn * 2 ^ sl + slot
theorem packV_lt {sl gn slot gen : Nat} (h : slot < 2 ^ sl) : packV sl gn slot gen < 2 ^ (sl + gn) := by
 unfold packV
 have h1 : gen % 2 ^ gn < 2 ^ gn := Nat.mod_lt _ (Nat.pow_pos (by omega))
 have h2 : (gen % 2 ^ gn + 1) * 2 ^ sl ≤ 2 ^ gn * 2 ^ sl := Nat.mul_le_mul_right _ h1
 rw [Nat.pow_add, Nat.mul_comm (2 ^ sl)]
 rw [Nat.succ_mul] at h2
 omega
theorem pack_code (sl gn slot gen : Nat) (h1 : sl + gn ≤ 63) (hs : slot < 2 ^ sl) (hg : gen < 18446744073709551616) :
  bits BinOp.or IntKind.u64 (IntKind.u64.wrap (bits BinOp.and IntKind.u64 (gen : Int) (maskI (gn : Int)) * 2 ^ sl)) (slot : Int) = ((packV sl gn slot gen : Nat) : Int) := by
 have hl := packV_lt (gn := gn) (gen := gen) hs
 have h63 := pow63 (sl + gn) h1
 have h63' := pow63 sl (by omega)
 rw [and_maskI gen gn hg (by omega)]
 have e : ((gen % 2 ^ gn : Nat) : Int) * 2 ^ sl = ((gen % 2 ^ gn * 2 ^ sl : Nat) : Int) := by simp
 rw [e]
 have hb : gen % 2 ^ gn * 2 ^ sl < 18446744073709551616 := by
  unfold packV at hl
  omega
 rw [wrapN _ hb, bits_or_u64_nat _ _ hb (by omega)]
 unfold packV
 rw [Nat.mul_comm, ← Nat.two_pow_add_eq_or_of_lt hs]
theorem unpack_slot {sl gn slot gen : Nat} (hs : slot < 2 ^ sl) : packV sl gn slot gen % 2 ^ sl = slot := by
 unfold packV
 rw [Nat.add_comm, Nat.add_mul_mod_self_right, Nat.mod_eq_of_lt hs]
theorem unpack_gen {sl gn slot gen : Nat} (hs : slot < 2 ^ sl) : packV sl gn slot gen / 2 ^ sl = gen % 2 ^ gn := by
 unfold packV
 rw [Nat.add_comm, Nat.add_mul_div_right _ _ (Nat.pow_pos (by omega)), Nat.div_eq_of_lt hs, Nat.zero_add]
def hideV (W h n : Nat) : Nat := (n ^^^ h) % 2 ^ W
theorem hide_hide (W h : Nat) {n : Nat} (hn : n < 2 ^ W) : hideV W h (hideV W h n) = n := by
 unfold hideV
 rw [Nat.xor_mod_two_pow, Nat.mod_mod, Nat.xor_mod_two_pow, Nat.xor_assoc, Nat.xor_self, Nat.xor_zero, Nat.mod_eq_of_lt hn]
theorem hideV_lt (W h n : Nat) : hideV W h n < 2 ^ W := Nat.mod_lt _ (Nat.pow_pos (by omega))
theorem hide_code (W h n : Nat) (hW : W ≤ 64) (hh : h < 18446744073709551616) (hn : n < 18446744073709551616) :
  bits BinOp.and IntKind.u64 (bits BinOp.xor IntKind.u64 (n : Int) (h : Int)) (maskI (W : Int)) = ((hideV W h n : Nat) : Int) := by
 rw [bits_xor_u64_nat n h hn hh, and_maskI _ W (Nat.xor_lt_two_pow (n := 64) hn hh) hW]
 rfl
end Go.Proofs.YteklkljndchjiaaGreat
