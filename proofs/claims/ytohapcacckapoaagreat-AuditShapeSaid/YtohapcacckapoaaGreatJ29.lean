/- cookie: the document's functions. -/
import Derived.Test.YtohapcacckapoaaGreatJ27
import Derived.Test.YtohapcacckapoaaGreatJ28
namespace Go.Proofs.YtohapcacckapoaaGreat
open Go Go.RowKit Go.Deep
set_option maxRecDepth 100000 in
set_option maxHeartbeats 2000000 in
theorem refck_right (wd : Bool) (sl gn : Int) (w : World) : Calls Tryz.prog 71 #[layV wd sl gn] w fun e w' => e = .returned (.bool (layOk wd sl gn)) ∧ Below w.heap.size w w' := by
 have BC := Blk.new w 26 #[.bool wd, .int .i64 sl, .int .i64 gn]
 have hb0 : Below w.heap.size w (w.alloc (.cells #[.bool wd, .int .i64 sl, .int .i64 gn] 26)) := below_alloc (Below.refl _ _) _
 have hlay : layOk wd sl gn = (decide (0 ≤ sl) && decide (sl ≤ 12) && decide (0 ≤ gn) && decide (gn ≤ (if wd then 63 else 16) - sl)) := by
  unfold layOk
  rw [Bool.eq_iff_iff]
  simp only [decide_eq_true_eq, Bool.and_eq_true]
  omega
 by_cases h0 : 0 ≤ sl
 ·
  have x0 : decide (0 ≤ sl) = true := by simpa using h0
  by_cases h1 : sl ≤ 12
  ·
   have x1 : decide (sl ≤ 12) = true := by simpa using h1
   have hw1 : IntKind.i64.wrap (63 - sl) = 63 - sl := by simp [IntKind.wrap, IntKind.bits, IntKind.signed]; omega
   have hw2 : IntKind.i64.wrap (16 - sl) = 16 - sl := by simp [IntKind.wrap, IntKind.bits, IntKind.signed]; omega
   have hw3 : wrap64 (63 - sl) = 63 - sl := by unfold wrap64; omega
   have hw4 : wrap64 (16 - sl) = 16 - sl := by unfold wrap64; omega
   by_cases h2 : 0 ≤ gn
   ·
    have x2 : decide (0 ≤ gn) = true := by simpa using h2
    rw [x0, x1, x2] at hlay
    obtain ⟨q, hq⟩ : ∃ q, decide (gn ≤ (if wd then 63 else 16) - sl) = q := ⟨_, rfl⟩
    rw [hq] at hlay
    replace hlay := Lib.hid hlay
    cases wd
    all_goals
     simp only [Bool.false_eq_true, if_true, if_false] at hq
     go_enter Tryz.func71, Tryz.ntmps71
     go_wp2_with fail
     go_ret
     exact ⟨by rw [hlay.out]; rfl, hb0⟩
   ·
    have x2 : decide (0 ≤ gn) = false := by simpa using h2
    rw [x0, x1, x2] at hlay
    replace hlay := Lib.hid hlay
    cases wd
    all_goals
     go_enter Tryz.func71, Tryz.ntmps71
     go_wp2_with fail
     go_ret
     exact ⟨by rw [hlay.out]; rfl, hb0⟩
  ·
   have x1 : decide (sl ≤ 12) = false := by simpa using h1
   rw [x0, x1] at hlay
   replace hlay := Lib.hid hlay
   cases wd
   all_goals
    go_enter Tryz.func71, Tryz.ntmps71
    go_wp2_with fail
    go_ret
    exact ⟨by rw [hlay.out]; rfl, hb0⟩
 ·
  have x0 : decide (0 ≤ sl) = false := by simpa using h0
  rw [x0] at hlay
  replace hlay := Lib.hid hlay
  cases wd
  all_goals
   go_enter Tryz.func71, Tryz.ntmps71
   go_wp2_with fail
   go_ret
   exact ⟨by rw [hlay.out]; rfl, hb0⟩
end Go.Proofs.YtohapcacckapoaaGreat
