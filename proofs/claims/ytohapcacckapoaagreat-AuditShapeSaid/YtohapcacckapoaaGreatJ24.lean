/- Plain arithmetic of products in two halves. num: contracts. num: the program's functions and the reference's. num: masks, widths, scaled and rounded numbers. num: Scale, Round, Ahead; awake. cookie: payloads and masks as plain numbers. -/
import Derived.Test.YtohapcacckapoaaGreatJ2
import Derived.Laws.BitsAllLaws
import Derived.Test.YtohapcacckapoaaGreatJ7
import Derived.Test.YtohapcacckapoaaGreatShelf
import Derived.Deep.RegionHeld3
import Derived.Laws.Bits64
import Derived.Laws.Bits64b
namespace Go.Proofs.YtohapcacckapoaaGreat
open Go Go.RowKit
def dbl (hi lo add : Nat) : Nat := (hi * 18446744073709551616 + lo) * 2 + add
def part (a b i : Nat) : Nat := a / 2 ^ i * b
end Go.Proofs.YtohapcacckapoaaGreat
namespace Go.Proofs.YtohapcacckapoaaGreat
open Go Go.RowKit Go.Deep
def bitAt (a j : Nat) : Bool := a / 2 ^ j % 2 == 1
def cmpI (x y : Int) : Int := if x < y then -1 else if y < x then 1 else 0
def orI (x y : Int) : Int := if x = 0 then y else x
theorem or_any (x y : Int) (g : Nat) (w : World) (h : Blk w g 3 #[.int .i64 x, .int .i64 y]) : Calls Tryz.prog 141 #[.slice (some ⟨g, 0, none⟩) 2 2] w fun e w' => e = .returned (.int .i64 (orI x y)) ∧ w = w' := by
 have c0 := h.cell 0
 have c1 := h.cell 1
 simp at c0 c1
 go_enter Tryz.func141, Tryz.ntmps141
 go_wp2_with fail
 refine wp_loop_rounds 3 ?_
 iterate 3 (all_goals (try (rw [rounds_succ])); all_goals (go_wp2_with fail))
 all_goals go_ret
 all_goals refine ⟨ret_int ?_, rfl⟩
 all_goals simp_all [orI]
def maskI (k : Int) : Int := if k < 0 ∨ 64 < k then 0 else ((2 ^ k.toNat - 1 : Nat) : Int)
def scaleI (x n : Int) : Int := if n < 1 ∨ 2147483648 < n then 0 else x * n / 18446744073709551616
def roundI (n m : Int) : Int := if m < 1 then 0 else n % m
def aheadI (f t : Int) : Int := (t - f) % 4294967296
def layOk (wd : Bool) (sl gn : Int) : Bool := decide (0 ≤ sl ∧ sl ≤ 12 ∧ 0 ≤ gn ∧ gn ≤ (if wd then 63 else 16) - sl)
def layW (wd : Bool) (sl gn : Int) : Int := if layOk wd sl gn then (if wd then 64 else 16) else 0
theorem layOk_iff {wd : Bool} {sl gn : Int} : layOk wd sl gn = true ↔ 0 ≤ sl ∧ sl ≤ 12 ∧ 0 ≤ gn ∧ gn ≤ (if wd then 63 else 16) - sl := by
 unfold layOk
 exact decide_eq_true_iff
theorem layOk_nat {wd : Bool} {sl gn : Int} (h : layOk wd sl gn = true) : ∃ a b : Nat, sl = a ∧ gn = b ∧ a ≤ 12 ∧ a + b ≤ (if wd then 63 else 16) := by
 have := layOk_iff.1 h
 refine ⟨sl.toNat, gn.toNat, by omega, by omega, by omega, ?_⟩
 cases wd <;> simp at this ⊢ <;> omega
def packV (sl gn slot gen : Nat) : Nat := gen % 2 ^ gn * 2 ^ sl + slot
def hideV (W h n : Nat) : Nat := (n ^^^ h) % 2 ^ W
end Go.Proofs.YtohapcacckapoaaGreat
