/- cloakroomlaw18.awake: true. -/
import Derived.Test.YtdkcjfcjckpjcaaConnRun
namespace Go.Proofs.Ytdkcjfcjckpjcaa
open Go Go.RowKit Go.Deep

theorem name_three (w : World) : Calls Try.prog 34 #[.int .i64 3] w fun e w' => e = .returned (.string ⟨#[99, 108, 111, 115, 105, 110, 103]⟩) ∧ Below w.heap.size w w' := by
  go_enter Try.func34, Try.ntmps34
  go_wp2
  go_ret
  exact ⟨rfl, (by repeat (first | exact Below.refl _ _ | assumption | refine below_call2 (by assumption) ?_ (by simp; done) | refine below_call2 (by assumption) ?_ (by simp; omega) | refine below_drewN ?_ _ | refine Below.drew ?_ | refine Below.alloc ?_ (by simp; done) _ | refine Below.alloc ?_ (by simp; omega) _ | refine Below.setCell ?_ (by simp; done) _ | refine Below.setCell ?_ (by simp; omega) _))⟩

def idleS (a b c d s : Int) : Int := if s = 1 then a else if s = 2 then b else if s = 3 then c else if s = 5 then d else 0
set_option maxHeartbeats 400000 in
theorem times_any (a b c d : Int) (w : World) : Calls Try.prog 100 #[.agg #[.int .i64 a, .int .i64 b, .int .i64 c, .int .i64 d]] w fun e w' =>
    e = .returned (.agg #[.int .i64 0, .int .i64 a, .int .i64 b, .int .i64 c, .int .i64 0, .int .i64 d]) ∧ Below w.heap.size w w' := by
  go_enter Try.func100, Try.ntmps100
  go_wp2
  refine bodyPost_ret (v := .agg #[.int .i64 0, .int .i64 a, .int .i64 b, .int .i64 c, .int .i64 0, .int .i64 d]) (by simp [results, Try.results100, go_sem]) rfl ⟨rfl, ?_⟩
  exact (by repeat (first | exact Below.refl _ _ | assumption | refine below_call2 (by assumption) ?_ (by simp; done) | refine below_call2 (by assumption) ?_ (by simp; omega) | refine below_drewN ?_ _ | refine Below.drew ?_ | refine Below.alloc ?_ (by simp; done) _ | refine Below.alloc ?_ (by simp; omega) _ | refine Below.setCell ?_ (by simp; done) _ | refine Below.setCell ?_ (by simp; omega) _))
set_option maxHeartbeats 400000 in
theorem idx_fact (a b c d : Int) : ∀ s : Int, s ∈ [0, 1, 2, 3, 4, 5] → ∀ w, (Instr.index 132 (.agg #[.int .i64 0, .int .i64 a, .int .i64 b, .int .i64 c, .int .i64 0, .int .i64 d]) (.int .i64 s)).run Try.prog w = .ok (.int .i64 (idleS a b c d s)) w := by
  intro s hs w
  simp at hs
  rcases hs with rfl | rfl | rfl | rfl | rfl | rfl
  all_goals kernel_rfl
set_option maxHeartbeats 400000 in
theorem idle_any (a b c d s : Int) (w : World) : Calls Try.prog 32 #[.agg #[.int .i64 a, .int .i64 b, .int .i64 c, .int .i64 d], .int .i64 s] w fun e w' => e = .returned (.int .i64 (idleS a b c d s)) ∧ Below w.heap.size w w' := by
  by_cases h : 0 ≤ s ∧ s ≤ 5
  · have hs : s = 0 ∨ s = 1 ∨ s = 2 ∨ s = 3 ∨ s = 4 ∨ s = 5 := by omega
    clear h
    have i0 := idx_fact a b c d
    rcases hs with rfl | rfl | rfl | rfl | rfl | rfl
    · have i0 := i0 0 (by decide)
      go_enter Try.func32, Try.ntmps32
      go_wp2_with (first | (go_at_call 100; refine (times_any _ _ _ _ _).mono ?_; rintro e w1 ⟨rfl, hb1⟩) | go_in)
      go_ret
      exact ⟨rfl, (by repeat (first | exact Below.refl _ _ | assumption | refine below_call2 (by assumption) ?_ (by simp; done) | refine below_call2 (by assumption) ?_ (by simp; omega) | refine below_drewN ?_ _ | refine Below.drew ?_ | refine Below.alloc ?_ (by simp; done) _ | refine Below.alloc ?_ (by simp; omega) _ | refine Below.setCell ?_ (by simp; done) _ | refine Below.setCell ?_ (by simp; omega) _))⟩
    · have i0 := i0 1 (by decide)
      go_enter Try.func32, Try.ntmps32
      go_wp2_with (first | (go_at_call 100; refine (times_any _ _ _ _ _).mono ?_; rintro e w1 ⟨rfl, hb1⟩) | go_in)
      go_ret
      exact ⟨rfl, (by repeat (first | exact Below.refl _ _ | assumption | refine below_call2 (by assumption) ?_ (by simp; done) | refine below_call2 (by assumption) ?_ (by simp; omega) | refine below_drewN ?_ _ | refine Below.drew ?_ | refine Below.alloc ?_ (by simp; done) _ | refine Below.alloc ?_ (by simp; omega) _ | refine Below.setCell ?_ (by simp; done) _ | refine Below.setCell ?_ (by simp; omega) _))⟩
    · have i0 := i0 2 (by decide)
      go_enter Try.func32, Try.ntmps32
      go_wp2_with (first | (go_at_call 100; refine (times_any _ _ _ _ _).mono ?_; rintro e w1 ⟨rfl, hb1⟩) | go_in)
      go_ret
      exact ⟨rfl, (by repeat (first | exact Below.refl _ _ | assumption | refine below_call2 (by assumption) ?_ (by simp; done) | refine below_call2 (by assumption) ?_ (by simp; omega) | refine below_drewN ?_ _ | refine Below.drew ?_ | refine Below.alloc ?_ (by simp; done) _ | refine Below.alloc ?_ (by simp; omega) _ | refine Below.setCell ?_ (by simp; done) _ | refine Below.setCell ?_ (by simp; omega) _))⟩
    · have i0 := i0 3 (by decide)
      go_enter Try.func32, Try.ntmps32
      go_wp2_with (first | (go_at_call 100; refine (times_any _ _ _ _ _).mono ?_; rintro e w1 ⟨rfl, hb1⟩) | go_in)
      go_ret
      exact ⟨rfl, (by repeat (first | exact Below.refl _ _ | assumption | refine below_call2 (by assumption) ?_ (by simp; done) | refine below_call2 (by assumption) ?_ (by simp; omega) | refine below_drewN ?_ _ | refine Below.drew ?_ | refine Below.alloc ?_ (by simp; done) _ | refine Below.alloc ?_ (by simp; omega) _ | refine Below.setCell ?_ (by simp; done) _ | refine Below.setCell ?_ (by simp; omega) _))⟩
    · have i0 := i0 4 (by decide)
      go_enter Try.func32, Try.ntmps32
      go_wp2_with (first | (go_at_call 100; refine (times_any _ _ _ _ _).mono ?_; rintro e w1 ⟨rfl, hb1⟩) | go_in)
      go_ret
      exact ⟨rfl, (by repeat (first | exact Below.refl _ _ | assumption | refine below_call2 (by assumption) ?_ (by simp; done) | refine below_call2 (by assumption) ?_ (by simp; omega) | refine below_drewN ?_ _ | refine Below.drew ?_ | refine Below.alloc ?_ (by simp; done) _ | refine Below.alloc ?_ (by simp; omega) _ | refine Below.setCell ?_ (by simp; done) _ | refine Below.setCell ?_ (by simp; omega) _))⟩
    · have i0 := i0 5 (by decide)
      go_enter Try.func32, Try.ntmps32
      go_wp2_with (first | (go_at_call 100; refine (times_any _ _ _ _ _).mono ?_; rintro e w1 ⟨rfl, hb1⟩) | go_in)
      go_ret
      exact ⟨rfl, (by repeat (first | exact Below.refl _ _ | assumption | refine below_call2 (by assumption) ?_ (by simp; done) | refine below_call2 (by assumption) ?_ (by simp; omega) | refine below_drewN ?_ _ | refine Below.drew ?_ | refine Below.alloc ?_ (by simp; done) _ | refine Below.alloc ?_ (by simp; omega) _ | refine Below.setCell ?_ (by simp; done) _ | refine Below.setCell ?_ (by simp; omega) _))⟩
  · have e : idleS a b c d s = 0 := by unfold idleS; repeat' split <;> omega
    replace e := Lib.hid e
    have h0 : s < 0 ∨ 5 < s := by omega
    clear h
    rcases h0 with h | h
    · have h2 : ¬ 0 ≤ s := by omega
      go_enter Try.func32, Try.ntmps32
      go_wp2
      go_ret
      exact ⟨by rw [e.out]; rfl, (by repeat (first | exact Below.refl _ _ | assumption | refine below_call2 (by assumption) ?_ (by simp; done) | refine below_call2 (by assumption) ?_ (by simp; omega) | refine below_drewN ?_ _ | refine Below.drew ?_ | refine Below.alloc ?_ (by simp; done) _ | refine Below.alloc ?_ (by simp; omega) _ | refine Below.setCell ?_ (by simp; done) _ | refine Below.setCell ?_ (by simp; omega) _))⟩
    · have h2 : 0 ≤ s := by omega
      have h3 : ¬ s ≤ 5 := by omega
      go_enter Try.func32, Try.ntmps32
      go_wp2
      go_ret
      exact ⟨by rw [e.out]; rfl, (by repeat (first | exact Below.refl _ _ | assumption | refine below_call2 (by assumption) ?_ (by simp; done) | refine below_call2 (by assumption) ?_ (by simp; omega) | refine below_drewN ?_ _ | refine Below.drew ?_ | refine Below.alloc ?_ (by simp; done) _ | refine Below.alloc ?_ (by simp; omega) _ | refine Below.setCell ?_ (by simp; done) _ | refine Below.setCell ?_ (by simp; omega) _))⟩
set_option maxHeartbeats 400000 in
theorem awake18 (w : World) : Calls Try.prog 16 #[] w fun e w' => e = .returned (.bool true) ∧ Below w.heap.size w w' := by
  have R : runS 6 [2, 16, 1, 4] = [1, 2, 3, 4] := by decide
  replace R := Lib.hid R
  go_enter Try.func16, Try.ntmps16
  go_wp2_with fail
  refine (run_any 6 _ 4 [2, 16, 1, 4] _ (reads_ints w _ _ [2, 16, 1, 4] (by simp)) (by decide)).mono ?_
  rintro e w1 ⟨rfl, hrow, hb1⟩
  rw [R.out] at hrow
  have hz1 := hb1.size
  have hr1 := reads_of_row (B := w1.heap.size) (xs := [1, 2, 3, 4]) hrow hrow.lt
  clear hrow
  rw [World.size_alloc] at hr1 hz1 hb1
  go_wp2_with fail
  refine (sameInts_any _ _ 4 4 [1, 2, 3, 4] [1, 2, 3, 4] _ (w1.heap.size + 1) ((hr1.alloc (Nat.le_refl _) _).more (by omega)) (reads_ints w1 _ _ [1, 2, 3, 4] (by omega)) (by simp) (by simp)).mono ?_
  rintro e w2 ⟨rfl, m, rfl⟩
  have S : sameL [1, 2, 3, 4] [1, 2, 3, 4] = true := by decide
  go_wp2_with fail
  refine (name_three _).mono ?_
  rintro e w2 ⟨rfl, hb2⟩
  have hB : Below w.heap.size w w2 := below_call (below_drewN ((below_call ((Below.refl _ _).alloc (Nat.le_refl _) _) (by simp) (by rwa [World.size_alloc])).alloc (by omega) _) m) (by simp; omega) hb2
  clear hb2 hb1 hr1 hz1
  go_wp2_with fail
  refine (idle_any _ _ _ _ _ _).mono ?_
  rintro e w3 ⟨rfl, hb3⟩
  replace hB := below_call hB hB.size hb3
  clear hb3
  have I : idleS 0 0 7 0 3 = 7 := by decide
  go_wp2_with fail
  refine (first_any _ _ _).mono ?_
  rintro e w4 ⟨rfl, rfl⟩
  have F : firstB 6 18 = false := by decide
  go_wp2_with fail
  go_ret
  exact ⟨rfl, hB⟩
end Go.Proofs.Ytdkcjfcjckpjcaa
