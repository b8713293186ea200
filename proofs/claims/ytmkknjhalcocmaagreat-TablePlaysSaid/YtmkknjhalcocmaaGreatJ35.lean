/- table: New at arguments that may not be. -/
import Derived.Test.YtmkknjhalcocmaaGreatJ34
namespace Go.Proofs.YtmkknjhalcocmaaGreat
open Go Go.RowKit Go.Deep Go.Maps Go.ChangeMaps

set_option maxRecDepth 100000 in
set_option maxHeartbeats 4000000 in
theorem tab_new_no (b a1 a2 a3 a4 G : Int) (hbad : b < 0 ∨ 12 < b ∨ rightS a1 a2 a3 a4 = false ∨ G < 1 ∨ 1024 < G) (w : World) :
    Calls Tryz.prog 5 #[.int .i64 b, .agg #[.int .i64 a1, .int .i64 a2, .int .i64 a3, .int .i64 a4], .int .i64 G] w fun e w' => e = .returned (.tuple #[.pointer none, .int .i64 1]) ∧ Below w.heap.size w w' := by
  have RT := Lib.hid fun W => right_any a1 a2 a3 a4 W
  obtain ⟨rt, hrt⟩ : ∃ v, rightS a1 a2 a3 a4 = v := ⟨_, rfl⟩
  rw [hrt] at RT hbad
  have R0 := Blk.new w 23 #[.int .i64 a1, .int .i64 a2, .int .i64 a3, .int .i64 a4]
  have hb0 : Below w.heap.size w (w.alloc (.cells #[.int .i64 a1, .int .i64 a2, .int .i64 a3, .int .i64 a4] 23)) := below_alloc (Below.refl _ _) _
  go_enter Tryz.func5, Tryz.ntmps5
  go_upto_region 1 with fail
  generalize w.alloc (.cells #[.int .i64 a1, .int .i64 a2, .int .i64 a3, .int .i64 a4] 23) = w0 at *
  obtain ⟨r, hrr⟩ : ∃ r, w.heap.size = r := ⟨_, rfl⟩
  rw [hrr] at R0
  try rw [hrr]
  have RC := Lib.hid fun W (h : Below w0.heap.size w0 W) => show W.cell? ⟨r, 0, none⟩ = some (.int .i64 a1) ∧ W.cell? ⟨r, 1, none⟩ = some (.int .i64 a2) ∧ W.cell? ⟨r, 2, none⟩ = some (.int .i64 a3) ∧ W.cell? ⟨r, 3, none⟩ = some (.int .i64 a4) from ⟨(R0.call h).cell 0, (R0.call h).cell 1, (R0.call h).cell 2, (R0.call h).cell 3⟩
  obtain ⟨c0, c1, c2, c3⟩ := RC.out w0 (Below.refl _ _)
  have WG := Lib.hid fun (h : 1 ≤ G ∧ G ≤ 1024) W => wheelp_new G W h
  have WB := Lib.hid fun (h : G < 1 ∨ 1024 < G) W => wheel_new_bad G W h
  clear R0 hrt
  by_cases hG : 1 ≤ G ∧ G ≤ 1024
  · have WN := Lib.hid (WG.out hG)
    clear WG WB
    by_cases b1 : b < 0
    · have x1 : decide (b < 0) = true := by simpa using b1
      clear hbad
      go_wp2_with (first
        | (go_at_call 18; (with_reducible refine (WN.out _).mono ?_); rintro e w1 ⟨g1, X1, rfl, -, hb1, -⟩; clear c0 c1 c2 c3; obtain ⟨c0, c1, c2, c3⟩ := RC.out w1 (by repeat (first | exact Below.refl _ _ | assumption | refine below_alloc ?_ _ | refine below_chain (by assumption) ?_ | refine below_call2 (by assumption) ?_ (by first | omega | (simp; done) | (simp; omega) | (simp [World.setCell]; omega)) | refine below_drewN ?_ _ | refine Below.drew ?_ | refine Below.alloc ?_ (by first | omega | (simp; done) | (simp; omega) | (simp [World.setCell]; omega)) _ | refine Below.setCell ?_ (by first | omega | (simp; done) | (simp; omega) | (simp [World.setCell]; omega)) _)))
        | (go_at_call 19; (with_reducible refine (RT.out _).mono ?_); rintro e w2 ⟨rfl, hb2⟩))
      go_ret2
      exact ⟨rfl, (by repeat (first | exact Below.refl _ _ | assumption | refine below_alloc ?_ _ | refine below_chain (by assumption) ?_ | refine below_call2 (by assumption) ?_ (by first | omega | (simp; done) | (simp; omega) | (simp [World.setCell]; omega)) | refine below_drewN ?_ _ | refine Below.drew ?_ | refine Below.alloc ?_ (by first | omega | (simp; done) | (simp; omega) | (simp [World.setCell]; omega)) _ | refine Below.setCell ?_ (by first | omega | (simp; done) | (simp; omega) | (simp [World.setCell]; omega)) _))⟩
    · have x1 : decide (b < 0) = false := by simpa using b1
      by_cases b2 : 12 < b
      · have x2 : decide (12 < b) = true := by simpa using b2
        clear hbad
        go_wp2_with (first
          | (go_at_call 18; (with_reducible refine (WN.out _).mono ?_); rintro e w1 ⟨g1, X1, rfl, -, hb1, -⟩; clear c0 c1 c2 c3; obtain ⟨c0, c1, c2, c3⟩ := RC.out w1 (by repeat (first | exact Below.refl _ _ | assumption | refine below_alloc ?_ _ | refine below_chain (by assumption) ?_ | refine below_call2 (by assumption) ?_ (by first | omega | (simp; done) | (simp; omega) | (simp [World.setCell]; omega)) | refine below_drewN ?_ _ | refine Below.drew ?_ | refine Below.alloc ?_ (by first | omega | (simp; done) | (simp; omega) | (simp [World.setCell]; omega)) _ | refine Below.setCell ?_ (by first | omega | (simp; done) | (simp; omega) | (simp [World.setCell]; omega)) _)))
          | (go_at_call 19; (with_reducible refine (RT.out _).mono ?_); rintro e w2 ⟨rfl, hb2⟩))
        go_ret2
        exact ⟨rfl, (by repeat (first | exact Below.refl _ _ | assumption | refine below_alloc ?_ _ | refine below_chain (by assumption) ?_ | refine below_call2 (by assumption) ?_ (by first | omega | (simp; done) | (simp; omega) | (simp [World.setCell]; omega)) | refine below_drewN ?_ _ | refine Below.drew ?_ | refine Below.alloc ?_ (by first | omega | (simp; done) | (simp; omega) | (simp [World.setCell]; omega)) _ | refine Below.setCell ?_ (by first | omega | (simp; done) | (simp; omega) | (simp [World.setCell]; omega)) _))⟩
      · have x2 : decide (12 < b) = false := by simpa using b2
        obtain rfl : rt = false := by
          rcases hbad with h | h | h | h | h
          · exact absurd h b1
          · exact absurd h b2
          · exact h
          · omega
          · omega
        clear hbad
        go_wp2_with (first
          | (go_at_call 18; (with_reducible refine (WN.out _).mono ?_); rintro e w1 ⟨g1, X1, rfl, -, hb1, -⟩; clear c0 c1 c2 c3; obtain ⟨c0, c1, c2, c3⟩ := RC.out w1 (by repeat (first | exact Below.refl _ _ | assumption | refine below_alloc ?_ _ | refine below_chain (by assumption) ?_ | refine below_call2 (by assumption) ?_ (by first | omega | (simp; done) | (simp; omega) | (simp [World.setCell]; omega)) | refine below_drewN ?_ _ | refine Below.drew ?_ | refine Below.alloc ?_ (by first | omega | (simp; done) | (simp; omega) | (simp [World.setCell]; omega)) _ | refine Below.setCell ?_ (by first | omega | (simp; done) | (simp; omega) | (simp [World.setCell]; omega)) _)))
          | (go_at_call 19; (with_reducible refine (RT.out _).mono ?_); rintro e w2 ⟨rfl, hb2⟩))
        go_ret2
        exact ⟨rfl, (by repeat (first | exact Below.refl _ _ | assumption | refine below_alloc ?_ _ | refine below_chain (by assumption) ?_ | refine below_call2 (by assumption) ?_ (by first | omega | (simp; done) | (simp; omega) | (simp [World.setCell]; omega)) | refine below_drewN ?_ _ | refine Below.drew ?_ | refine Below.alloc ?_ (by first | omega | (simp; done) | (simp; omega) | (simp [World.setCell]; omega)) _ | refine Below.setCell ?_ (by first | omega | (simp; done) | (simp; omega) | (simp [World.setCell]; omega)) _))⟩
  · have WN := Lib.hid (WB.out (by omega))
    clear WG WB
    by_cases b1 : b < 0
    · have x1 : decide (b < 0) = true := by simpa using b1
      clear hbad
      go_wp2_with (first
        | (go_at_call 18; (with_reducible refine (WN.out _).mono ?_); rintro e w1 ⟨rfl, rfl⟩)
        | (go_at_call 19; (with_reducible refine (RT.out _).mono ?_); rintro e w2 ⟨rfl, hb2⟩))
      go_ret2
      exact ⟨rfl, (by repeat (first | exact Below.refl _ _ | assumption | refine below_alloc ?_ _ | refine below_chain (by assumption) ?_ | refine below_call2 (by assumption) ?_ (by first | omega | (simp; done) | (simp; omega) | (simp [World.setCell]; omega)) | refine below_drewN ?_ _ | refine Below.drew ?_ | refine Below.alloc ?_ (by first | omega | (simp; done) | (simp; omega) | (simp [World.setCell]; omega)) _ | refine Below.setCell ?_ (by first | omega | (simp; done) | (simp; omega) | (simp [World.setCell]; omega)) _))⟩
    · have x1 : decide (b < 0) = false := by simpa using b1
      by_cases b2 : 12 < b
      · have x2 : decide (12 < b) = true := by simpa using b2
        clear hbad
        go_wp2_with (first
          | (go_at_call 18; (with_reducible refine (WN.out _).mono ?_); rintro e w1 ⟨rfl, rfl⟩)
          | (go_at_call 19; (with_reducible refine (RT.out _).mono ?_); rintro e w2 ⟨rfl, hb2⟩))
        go_ret2
        exact ⟨rfl, (by repeat (first | exact Below.refl _ _ | assumption | refine below_alloc ?_ _ | refine below_chain (by assumption) ?_ | refine below_call2 (by assumption) ?_ (by first | omega | (simp; done) | (simp; omega) | (simp [World.setCell]; omega)) | refine below_drewN ?_ _ | refine Below.drew ?_ | refine Below.alloc ?_ (by first | omega | (simp; done) | (simp; omega) | (simp [World.setCell]; omega)) _ | refine Below.setCell ?_ (by first | omega | (simp; done) | (simp; omega) | (simp [World.setCell]; omega)) _))⟩
      · have x2 : decide (12 < b) = false := by simpa using b2
        cases rt
        · skip
          clear hbad
          go_wp2_with (first
            | (go_at_call 18; (with_reducible refine (WN.out _).mono ?_); rintro e w1 ⟨rfl, rfl⟩)
            | (go_at_call 19; (with_reducible refine (RT.out _).mono ?_); rintro e w2 ⟨rfl, hb2⟩))
          go_ret2
          exact ⟨rfl, (by repeat (first | exact Below.refl _ _ | assumption | refine below_alloc ?_ _ | refine below_chain (by assumption) ?_ | refine below_call2 (by assumption) ?_ (by first | omega | (simp; done) | (simp; omega) | (simp [World.setCell]; omega)) | refine below_drewN ?_ _ | refine Below.drew ?_ | refine Below.alloc ?_ (by first | omega | (simp; done) | (simp; omega) | (simp [World.setCell]; omega)) _ | refine Below.setCell ?_ (by first | omega | (simp; done) | (simp; omega) | (simp [World.setCell]; omega)) _))⟩
        · skip
          clear hbad
          go_wp2_with (first
            | (go_at_call 18; (with_reducible refine (WN.out _).mono ?_); rintro e w1 ⟨rfl, rfl⟩)
            | (go_at_call 19; (with_reducible refine (RT.out _).mono ?_); rintro e w2 ⟨rfl, hb2⟩))
          go_ret2
          exact ⟨rfl, (by repeat (first | exact Below.refl _ _ | assumption | refine below_alloc ?_ _ | refine below_chain (by assumption) ?_ | refine below_call2 (by assumption) ?_ (by first | omega | (simp; done) | (simp; omega) | (simp [World.setCell]; omega)) | refine below_drewN ?_ _ | refine Below.drew ?_ | refine Below.alloc ?_ (by first | omega | (simp; done) | (simp; omega) | (simp [World.setCell]; omega)) _ | refine Below.setCell ?_ (by first | omega | (simp; done) | (simp; omega) | (simp [World.setCell]; omega)) _))⟩
set_option maxRecDepth 100000 in
set_option maxHeartbeats 4000000 in
theorem dtab_new_no (b a1 a2 a3 a4 G : Int) (hbad : b < 0 ∨ 12 < b ∨ rightS a1 a2 a3 a4 = false ∨ G < 1 ∨ 1024 < G) (w : World) :
    Calls Tryz.prog 6 #[.int .i64 b, .agg #[.int .i64 a1, .int .i64 a2, .int .i64 a3, .int .i64 a4], .int .i64 G] w fun e w' => e = .returned (.pointer none) ∧ Below w.heap.size w w' := by
  have RT := Lib.hid fun W => refright_any a1 a2 a3 a4 W
  obtain ⟨rt, hrt⟩ : ∃ v, rightS a1 a2 a3 a4 = v := ⟨_, rfl⟩
  rw [hrt] at RT hbad
  have R0 := Blk.new w 23 #[.int .i64 a1, .int .i64 a2, .int .i64 a3, .int .i64 a4]
  have hb0 : Below w.heap.size w (w.alloc (.cells #[.int .i64 a1, .int .i64 a2, .int .i64 a3, .int .i64 a4] 23)) := below_alloc (Below.refl _ _) _
  go_enter Tryz.func6, Tryz.ntmps6
  go_upto_region 1 with fail
  generalize w.alloc (.cells #[.int .i64 a1, .int .i64 a2, .int .i64 a3, .int .i64 a4] 23) = w0 at *
  obtain ⟨r, hrr⟩ : ∃ r, w.heap.size = r := ⟨_, rfl⟩
  rw [hrr] at R0
  try rw [hrr]
  have RC := Lib.hid fun W (h : Below w0.heap.size w0 W) => show W.cell? ⟨r, 0, none⟩ = some (.int .i64 a1) ∧ W.cell? ⟨r, 1, none⟩ = some (.int .i64 a2) ∧ W.cell? ⟨r, 2, none⟩ = some (.int .i64 a3) ∧ W.cell? ⟨r, 3, none⟩ = some (.int .i64 a4) from ⟨(R0.call h).cell 0, (R0.call h).cell 1, (R0.call h).cell 2, (R0.call h).cell 3⟩
  obtain ⟨c0, c1, c2, c3⟩ := RC.out w0 (Below.refl _ _)
  have WG := Lib.hid fun (h : 1 ≤ G ∧ G ≤ 1024) W => rwheelp_new G W h
  have WB := Lib.hid fun (h : G < 1 ∨ 1024 < G) W => refwheel_new_bad G W h
  clear R0 hrt
  by_cases hG : 1 ≤ G ∧ G ≤ 1024
  · have WN := Lib.hid (WG.out hG)
    clear WG WB
    by_cases b1 : b < 0
    · have x1 : decide (b < 0) = true := by simpa using b1
      clear hbad
      go_wp2_with (first
        | (go_at_call 22; (with_reducible refine (WN.out _).mono ?_); rintro e w1 ⟨g1, X1, rfl, -, hb1, -⟩; clear c0 c1 c2 c3; obtain ⟨c0, c1, c2, c3⟩ := RC.out w1 (by repeat (first | exact Below.refl _ _ | assumption | refine below_alloc ?_ _ | refine below_chain (by assumption) ?_ | refine below_call2 (by assumption) ?_ (by first | omega | (simp; done) | (simp; omega) | (simp [World.setCell]; omega)) | refine below_drewN ?_ _ | refine Below.drew ?_ | refine Below.alloc ?_ (by first | omega | (simp; done) | (simp; omega) | (simp [World.setCell]; omega)) _ | refine Below.setCell ?_ (by first | omega | (simp; done) | (simp; omega) | (simp [World.setCell]; omega)) _)))
        | (go_at_call 21; (with_reducible refine (RT.out _).mono ?_); rintro e w2 ⟨rfl, hb2⟩))
      go_ret
      exact ⟨rfl, (by repeat (first | exact Below.refl _ _ | assumption | refine below_alloc ?_ _ | refine below_chain (by assumption) ?_ | refine below_call2 (by assumption) ?_ (by first | omega | (simp; done) | (simp; omega) | (simp [World.setCell]; omega)) | refine below_drewN ?_ _ | refine Below.drew ?_ | refine Below.alloc ?_ (by first | omega | (simp; done) | (simp; omega) | (simp [World.setCell]; omega)) _ | refine Below.setCell ?_ (by first | omega | (simp; done) | (simp; omega) | (simp [World.setCell]; omega)) _))⟩
    · have x1 : decide (b < 0) = false := by simpa using b1
      by_cases b2 : 12 < b
      · have x2 : decide (12 < b) = true := by simpa using b2
        clear hbad
        go_wp2_with (first
          | (go_at_call 22; (with_reducible refine (WN.out _).mono ?_); rintro e w1 ⟨g1, X1, rfl, -, hb1, -⟩; clear c0 c1 c2 c3; obtain ⟨c0, c1, c2, c3⟩ := RC.out w1 (by repeat (first | exact Below.refl _ _ | assumption | refine below_alloc ?_ _ | refine below_chain (by assumption) ?_ | refine below_call2 (by assumption) ?_ (by first | omega | (simp; done) | (simp; omega) | (simp [World.setCell]; omega)) | refine below_drewN ?_ _ | refine Below.drew ?_ | refine Below.alloc ?_ (by first | omega | (simp; done) | (simp; omega) | (simp [World.setCell]; omega)) _ | refine Below.setCell ?_ (by first | omega | (simp; done) | (simp; omega) | (simp [World.setCell]; omega)) _)))
          | (go_at_call 21; (with_reducible refine (RT.out _).mono ?_); rintro e w2 ⟨rfl, hb2⟩))
        go_ret
        exact ⟨rfl, (by repeat (first | exact Below.refl _ _ | assumption | refine below_alloc ?_ _ | refine below_chain (by assumption) ?_ | refine below_call2 (by assumption) ?_ (by first | omega | (simp; done) | (simp; omega) | (simp [World.setCell]; omega)) | refine below_drewN ?_ _ | refine Below.drew ?_ | refine Below.alloc ?_ (by first | omega | (simp; done) | (simp; omega) | (simp [World.setCell]; omega)) _ | refine Below.setCell ?_ (by first | omega | (simp; done) | (simp; omega) | (simp [World.setCell]; omega)) _))⟩
      · have x2 : decide (12 < b) = false := by simpa using b2
        obtain rfl : rt = false := by
          rcases hbad with h | h | h | h | h
          · exact absurd h b1
          · exact absurd h b2
          · exact h
          · omega
          · omega
        clear hbad
        go_wp2_with (first
          | (go_at_call 22; (with_reducible refine (WN.out _).mono ?_); rintro e w1 ⟨g1, X1, rfl, -, hb1, -⟩; clear c0 c1 c2 c3; obtain ⟨c0, c1, c2, c3⟩ := RC.out w1 (by repeat (first | exact Below.refl _ _ | assumption | refine below_alloc ?_ _ | refine below_chain (by assumption) ?_ | refine below_call2 (by assumption) ?_ (by first | omega | (simp; done) | (simp; omega) | (simp [World.setCell]; omega)) | refine below_drewN ?_ _ | refine Below.drew ?_ | refine Below.alloc ?_ (by first | omega | (simp; done) | (simp; omega) | (simp [World.setCell]; omega)) _ | refine Below.setCell ?_ (by first | omega | (simp; done) | (simp; omega) | (simp [World.setCell]; omega)) _)))
          | (go_at_call 21; (with_reducible refine (RT.out _).mono ?_); rintro e w2 ⟨rfl, hb2⟩))
        go_ret
        exact ⟨rfl, (by repeat (first | exact Below.refl _ _ | assumption | refine below_alloc ?_ _ | refine below_chain (by assumption) ?_ | refine below_call2 (by assumption) ?_ (by first | omega | (simp; done) | (simp; omega) | (simp [World.setCell]; omega)) | refine below_drewN ?_ _ | refine Below.drew ?_ | refine Below.alloc ?_ (by first | omega | (simp; done) | (simp; omega) | (simp [World.setCell]; omega)) _ | refine Below.setCell ?_ (by first | omega | (simp; done) | (simp; omega) | (simp [World.setCell]; omega)) _))⟩
  · have WN := Lib.hid (WB.out (by omega))
    clear WG WB
    by_cases b1 : b < 0
    · have x1 : decide (b < 0) = true := by simpa using b1
      clear hbad
      go_wp2_with (first
        | (go_at_call 22; (with_reducible refine (WN.out _).mono ?_); rintro e w1 ⟨rfl, rfl⟩)
        | (go_at_call 21; (with_reducible refine (RT.out _).mono ?_); rintro e w2 ⟨rfl, hb2⟩))
      go_ret
      exact ⟨rfl, (by repeat (first | exact Below.refl _ _ | assumption | refine below_alloc ?_ _ | refine below_chain (by assumption) ?_ | refine below_call2 (by assumption) ?_ (by first | omega | (simp; done) | (simp; omega) | (simp [World.setCell]; omega)) | refine below_drewN ?_ _ | refine Below.drew ?_ | refine Below.alloc ?_ (by first | omega | (simp; done) | (simp; omega) | (simp [World.setCell]; omega)) _ | refine Below.setCell ?_ (by first | omega | (simp; done) | (simp; omega) | (simp [World.setCell]; omega)) _))⟩
    · have x1 : decide (b < 0) = false := by simpa using b1
      by_cases b2 : 12 < b
      · have x2 : decide (12 < b) = true := by simpa using b2
        clear hbad
        go_wp2_with (first
          | (go_at_call 22; (with_reducible refine (WN.out _).mono ?_); rintro e w1 ⟨rfl, rfl⟩)
          | (go_at_call 21; (with_reducible refine (RT.out _).mono ?_); rintro e w2 ⟨rfl, hb2⟩))
        go_ret
        exact ⟨rfl, (by repeat (first | exact Below.refl _ _ | assumption | refine below_alloc ?_ _ | refine below_chain (by assumption) ?_ | refine below_call2 (by assumption) ?_ (by first | omega | (simp; done) | (simp; omega) | (simp [World.setCell]; omega)) | refine below_drewN ?_ _ | refine Below.drew ?_ | refine Below.alloc ?_ (by first | omega | (simp; done) | (simp; omega) | (simp [World.setCell]; omega)) _ | refine Below.setCell ?_ (by first | omega | (simp; done) | (simp; omega) | (simp [World.setCell]; omega)) _))⟩
      · have x2 : decide (12 < b) = false := by simpa using b2
        cases rt
        · skip
          clear hbad
          go_wp2_with (first
            | (go_at_call 22; (with_reducible refine (WN.out _).mono ?_); rintro e w1 ⟨rfl, rfl⟩)
            | (go_at_call 21; (with_reducible refine (RT.out _).mono ?_); rintro e w2 ⟨rfl, hb2⟩))
          go_ret
          exact ⟨rfl, (by repeat (first | exact Below.refl _ _ | assumption | refine below_alloc ?_ _ | refine below_chain (by assumption) ?_ | refine below_call2 (by assumption) ?_ (by first | omega | (simp; done) | (simp; omega) | (simp [World.setCell]; omega)) | refine below_drewN ?_ _ | refine Below.drew ?_ | refine Below.alloc ?_ (by first | omega | (simp; done) | (simp; omega) | (simp [World.setCell]; omega)) _ | refine Below.setCell ?_ (by first | omega | (simp; done) | (simp; omega) | (simp [World.setCell]; omega)) _))⟩
        · skip
          clear hbad
          go_wp2_with (first
            | (go_at_call 22; (with_reducible refine (WN.out _).mono ?_); rintro e w1 ⟨rfl, rfl⟩)
            | (go_at_call 21; (with_reducible refine (RT.out _).mono ?_); rintro e w2 ⟨rfl, hb2⟩))
          go_ret
          exact ⟨rfl, (by repeat (first | exact Below.refl _ _ | assumption | refine below_alloc ?_ _ | refine below_chain (by assumption) ?_ | refine below_call2 (by assumption) ?_ (by first | omega | (simp; done) | (simp; omega) | (simp [World.setCell]; omega)) | refine below_drewN ?_ _ | refine Below.drew ?_ | refine Below.alloc ?_ (by first | omega | (simp; done) | (simp; omega) | (simp [World.setCell]; omega)) _ | refine Below.setCell ?_ (by first | omega | (simp; done) | (simp; omega) | (simp [World.setCell]; omega)) _))⟩
end Go.Proofs.YtmkknjhalcocmaaGreat
