/- script.Right. -/
import Derived.Test.YtodbgjnccngljaaDoorJ23
import Derived.Test.YtodbgjnccngljaaDoorJ5
namespace Go.Proofs.YtodbgjnccngljaaDoor
open Go Go.RowKit Go.Deep

theorem right_kn {x : ActL} (h : ¬ (0 ≤ x.k ∧ x.k ≤ 11)) : rightL x = false := by
  cases hr : rightL x with
  | false => rfl
  | true => exact absurd (right_k hr) h
def numsOk (x : ActL) : Bool := [x.at_, x.id, x.n, x.pk, x.ps].all numOk
theorem right_eq (x : ActL) (h0 : 0 ≤ x.k) (h11 : x.k ≤ 11) : rightL x = (numsOk x && (eqL (bareL x) (zeroL x.k) && (decide (x.k ≠ 2) || adrOk x.v6 x.hi x.lo))) := by
  unfold rightL numsOk
  rw [decide_eq_true h0, decide_eq_true h11]
  simp [Bool.and_assoc]
set_option maxRecDepth 100000 in
set_option maxHeartbeats 8000000 in
theorem right_low (x : ActL) (w : World) (hk : x.k < 0) :
    Calls Tryd.prog 55 #[.agg #[.int .i64 x.k, .int .i64 x.at_, .int .i64 x.id, .int .i64 x.n, .string ⟨x.s.toArray⟩, .int .u64 ((x.a : Nat) : Int), .int .u64 ((x.b : Nat) : Int), .bool x.on, .bool x.v6, .int .u64 ((x.hi : Nat) : Int), .int .u64 ((x.lo : Nat) : Int), .int .i64 x.pk, .int .i64 x.ps]] w fun e w' => e = .returned (.bool false) ∧ Below w.heap.size w w' := by
  obtain ⟨w1, hw1⟩ : ∃ w1, w1 = w.alloc (.cells #[.int .i64 x.k, .int .i64 x.at_, .int .i64 x.id, .int .i64 x.n, .string ⟨x.s.toArray⟩, .int .u64 ((x.a : Nat) : Int), .int .u64 ((x.b : Nat) : Int), .bool x.on, .bool x.v6, .int .u64 ((x.hi : Nat) : Int), .int .u64 ((x.lo : Nat) : Int), .int .i64 x.pk, .int .i64 x.ps] 65) := ⟨_, rfl⟩
  have hb1 : Below w.heap.size w w1 := hw1 ▸ below_alloc (Below.refl _ _) _
  have hs1 : w.heap.size ≤ w1.heap.size := hb1.size
  have h1 : Blk w1 w.heap.size 65 (actCs x) := by rw [hw1]; exact Blk.new w 65 _
  obtain ⟨c0, c1, c2, c3, c4, c5, c6, c7, c8, c9, c10, c11, c12⟩ := act13 h1
  clear h1 hs1
  replace hb1 := Lib.hid hb1
  go_enter Tryd.func55, Tryd.ntmps55
  go_upto_region 1 with fail
  rw [← hw1]
  clear hw1
  go_wp2_with fail
  go_ret
  exact ⟨rfl, hb1.out⟩
set_option maxRecDepth 100000 in
set_option maxHeartbeats 8000000 in
theorem right_high (x : ActL) (w : World) (h0 : ¬ x.k < 0) (hk : 11 < x.k) :
    Calls Tryd.prog 55 #[.agg #[.int .i64 x.k, .int .i64 x.at_, .int .i64 x.id, .int .i64 x.n, .string ⟨x.s.toArray⟩, .int .u64 ((x.a : Nat) : Int), .int .u64 ((x.b : Nat) : Int), .bool x.on, .bool x.v6, .int .u64 ((x.hi : Nat) : Int), .int .u64 ((x.lo : Nat) : Int), .int .i64 x.pk, .int .i64 x.ps]] w fun e w' => e = .returned (.bool false) ∧ Below w.heap.size w w' := by
  obtain ⟨w1, hw1⟩ : ∃ w1, w1 = w.alloc (.cells #[.int .i64 x.k, .int .i64 x.at_, .int .i64 x.id, .int .i64 x.n, .string ⟨x.s.toArray⟩, .int .u64 ((x.a : Nat) : Int), .int .u64 ((x.b : Nat) : Int), .bool x.on, .bool x.v6, .int .u64 ((x.hi : Nat) : Int), .int .u64 ((x.lo : Nat) : Int), .int .i64 x.pk, .int .i64 x.ps] 65) := ⟨_, rfl⟩
  have hb1 : Below w.heap.size w w1 := hw1 ▸ below_alloc (Below.refl _ _) _
  have hs1 : w.heap.size ≤ w1.heap.size := hb1.size
  have h1 : Blk w1 w.heap.size 65 (actCs x) := by rw [hw1]; exact Blk.new w 65 _
  obtain ⟨c0, c1, c2, c3, c4, c5, c6, c7, c8, c9, c10, c11, c12⟩ := act13 h1
  clear h1 hs1
  replace hb1 := Lib.hid hb1
  go_enter Tryd.func55, Tryd.ntmps55
  go_upto_region 1 with fail
  rw [← hw1]
  clear hw1
  go_wp2_with fail
  go_ret
  exact ⟨rfl, hb1.out⟩
set_option maxRecDepth 100000 in
set_option maxHeartbeats 8000000 in
theorem right_num_no (x : ActL) (w : World) (h0 : ¬ x.k < 0) (hk : ¬ 11 < x.k) (hn : numsOk x = false) :
    Calls Tryd.prog 55 #[.agg #[.int .i64 x.k, .int .i64 x.at_, .int .i64 x.id, .int .i64 x.n, .string ⟨x.s.toArray⟩, .int .u64 ((x.a : Nat) : Int), .int .u64 ((x.b : Nat) : Int), .bool x.on, .bool x.v6, .int .u64 ((x.hi : Nat) : Int), .int .u64 ((x.lo : Nat) : Int), .int .i64 x.pk, .int .i64 x.ps]] w fun e w' => e = .returned (.bool false) ∧ Below w.heap.size w w' := by
  obtain ⟨w1, hw1⟩ : ∃ w1, w1 = w.alloc (.cells #[.int .i64 x.k, .int .i64 x.at_, .int .i64 x.id, .int .i64 x.n, .string ⟨x.s.toArray⟩, .int .u64 ((x.a : Nat) : Int), .int .u64 ((x.b : Nat) : Int), .bool x.on, .bool x.v6, .int .u64 ((x.hi : Nat) : Int), .int .u64 ((x.lo : Nat) : Int), .int .i64 x.pk, .int .i64 x.ps] 65) := ⟨_, rfl⟩
  have hb1 : Below w.heap.size w w1 := hw1 ▸ below_alloc (Below.refl _ _) _
  have hs1 : w.heap.size ≤ w1.heap.size := hb1.size
  have h1 : Blk w1 w.heap.size 65 (actCs x) := by rw [hw1]; exact Blk.new w 65 _
  obtain ⟨c0, c1, c2, c3, c4, c5, c6, c7, c8, c9, c10, c11, c12⟩ := act13 h1
  have M := scr_may [x.at_, x.id, x.n, x.pk, x.ps] w1.heap.size _ (Blk.new w1 3 _) (by simp)
  rw [show [x.at_, x.id, x.n, x.pk, x.ps].all numOk = false from hn] at M
  replace M := Lib.hid (show Calls Tryd.prog 70 #[.slice (some ⟨w1.heap.size, 0, none⟩) 5 5] (w1.alloc (.cells #[.int .i64 x.at_, .int .i64 x.id, .int .i64 x.n, .int .i64 x.pk, .int .i64 x.ps] 3)) _ from M)
  clear h1 hn hs1
  replace hb1 := Lib.hid hb1
  go_enter Tryd.func55, Tryd.ntmps55
  go_upto_region 1 with fail
  rw [← hw1]
  clear hw1
  go_wp2_with (go_at_call 70; (refine M.out.mono ?_); rintro e w3 ⟨rfl, hb3⟩)
  go_ret
  exact ⟨rfl, below_chain hb3 (below_alloc hb1.out _)⟩
set_option maxRecDepth 100000 in
set_option maxHeartbeats 16000000 in
theorem right_rest (x : ActL) (w : World) (h0 : ¬ x.k < 0) (hk : ¬ 11 < x.k) (hn : numsOk x = true) (B : Bool) (hB : B = (eqL (bareL x) (zeroL x.k) && (decide (x.k ≠ 2) || adrOk x.v6 x.hi x.lo))) :
    Calls Tryd.prog 55 #[.agg #[.int .i64 x.k, .int .i64 x.at_, .int .i64 x.id, .int .i64 x.n, .string ⟨x.s.toArray⟩, .int .u64 ((x.a : Nat) : Int), .int .u64 ((x.b : Nat) : Int), .bool x.on, .bool x.v6, .int .u64 ((x.hi : Nat) : Int), .int .u64 ((x.lo : Nat) : Int), .int .i64 x.pk, .int .i64 x.ps]] w fun e w' => e = .returned (.bool B) ∧ Below w.heap.size w w' := by
  obtain ⟨w1, hw1⟩ : ∃ w1, w1 = w.alloc (.cells #[.int .i64 x.k, .int .i64 x.at_, .int .i64 x.id, .int .i64 x.n, .string ⟨x.s.toArray⟩, .int .u64 ((x.a : Nat) : Int), .int .u64 ((x.b : Nat) : Int), .bool x.on, .bool x.v6, .int .u64 ((x.hi : Nat) : Int), .int .u64 ((x.lo : Nat) : Int), .int .i64 x.pk, .int .i64 x.ps] 65) := ⟨_, rfl⟩
  have hb1 : Below w.heap.size w w1 := hw1 ▸ below_alloc (Below.refl _ _) _
  have hs1 : w.heap.size ≤ w1.heap.size := hb1.size
  have h1 : Blk w1 w.heap.size 65 (actCs x) := by rw [hw1]; exact Blk.new w 65 _
  obtain ⟨c0, c1, c2, c3, c4, c5, c6, c7, c8, c9, c10, c11, c12⟩ := act13 h1
  have M := scr_may [x.at_, x.id, x.n, x.pk, x.ps] w1.heap.size _ (Blk.new w1 3 _) (by simp)
  rw [show [x.at_, x.id, x.n, x.pk, x.ps].all numOk = true from hn] at M
  replace M := Lib.hid (show Calls Tryd.prog 70 #[.slice (some ⟨w1.heap.size, 0, none⟩) 5 5] (w1.alloc (.cells #[.int .i64 x.at_, .int .i64 x.id, .int .i64 x.n, .int .i64 x.pk, .int .i64 x.ps] 3)) _ from M)
  have BR := Lib.hid fun W => show Calls Tryd.prog 71 #[.agg #[.int .i64 x.k, .int .i64 x.at_, .int .i64 x.id, .int .i64 x.n, .string ⟨x.s.toArray⟩, .int .u64 ((x.a : Nat) : Int), .int .u64 ((x.b : Nat) : Int), .bool x.on, .bool x.v6, .int .u64 ((x.hi : Nat) : Int), .int .u64 ((x.lo : Nat) : Int), .int .i64 x.pk, .int .i64 x.ps]] W _ from scr_bare x W (by omega) (by omega)
  obtain ⟨Y, hY⟩ : ∃ Y, actCs (bareL x) = Y := ⟨_, rfl⟩
  rw [hY] at BR
  obtain ⟨E, hE⟩ : ∃ E, eqL (bareL x) (zeroL x.k) = E := ⟨_, rfl⟩
  have EQ : ∀ W, (binOp .eql 65 (.agg Y) (.agg #[.int .i64 x.k, .int .i64 0, .int .i64 0, .int .i64 0, .string ⟨#[]⟩, .int .u64 0, .int .u64 0, .bool false, .bool false, .int .u64 0, .int .u64 0, .int .i64 0, .int .i64 0])).run Tryd.prog W = .ok (.bool E) W := fun W => by
    rw [← hY, ← hE]
    exact act_eql (bareL x) (zeroL x.k) W
  have RA := Lib.hid fun W => addr_right x.v6 x.hi x.lo W
  obtain ⟨ok, hok⟩ : ∃ ok, adrOk x.v6 x.hi x.lo = ok := ⟨_, rfl⟩
  rw [hok] at RA hB
  rw [hE] at hB
  have hG := act_guard
  have hC := Lib.hid fun W (hb : Below w1.heap.size w1 W) => act13 (h1.call hb)
  clear h1 hn hY hE hok hs1
  replace hb1 := Lib.hid hb1
  have key : ∃ p, p = B ∧ Calls Tryd.prog 55 #[.agg #[.int .i64 x.k, .int .i64 x.at_, .int .i64 x.id, .int .i64 x.n, .string ⟨x.s.toArray⟩, .int .u64 ((x.a : Nat) : Int), .int .u64 ((x.b : Nat) : Int), .bool x.on, .bool x.v6, .int .u64 ((x.hi : Nat) : Int), .int .u64 ((x.lo : Nat) : Int), .int .i64 x.pk, .int .i64 x.ps]] w fun e w' => e = .returned (.bool p) ∧ Below w.heap.size w w' := by
    cases E
    · refine ⟨false, by rw [hB]; simp, ?_⟩
      clear hB
      go_enter Tryd.func55, Tryd.ntmps55
      go_upto_region 1 with fail
      rw [← hw1]
      clear hw1
      go_upto_region 3 with (go_at_call 70; (refine M.out.mono ?_); rintro e w3 ⟨rfl, hb3⟩)
      have hb4 : Below w1.heap.size w1 w3 := below_chain hb3 (below_alloc (Below.refl _ _) _)
      clear c0 c1 c2 c3 c4 c5 c6 c7 c8 c9 c10 c11 c12 hb3
      have hbD : Below w1.heap.size w1 w3.drew := hb4.drew
      have hS0 := And.intro hbD (hC.out w3.drew hbD)
      refine wp_region_held_drew (S := fun W => Below w1.heap.size w1 W ∧ W.cell? ⟨w.heap.size, 0, none⟩ = some (.int .i64 x.k) ∧ W.cell? ⟨w.heap.size, 1, none⟩ = some (.int .i64 x.at_) ∧ W.cell? ⟨w.heap.size, 2, none⟩ = some (.int .i64 x.id) ∧ W.cell? ⟨w.heap.size, 3, none⟩ = some (.int .i64 x.n) ∧ W.cell? ⟨w.heap.size, 4, none⟩ = some (.string ⟨x.s.toArray⟩) ∧ W.cell? ⟨w.heap.size, 5, none⟩ = some (.int .u64 ((x.a : Nat) : Int)) ∧ W.cell? ⟨w.heap.size, 6, none⟩ = some (.int .u64 ((x.b : Nat) : Int)) ∧ W.cell? ⟨w.heap.size, 7, none⟩ = some (.bool x.on) ∧ W.cell? ⟨w.heap.size, 8, none⟩ = some (.bool x.v6) ∧ W.cell? ⟨w.heap.size, 9, none⟩ = some (.int .u64 ((x.hi : Nat) : Int)) ∧ W.cell? ⟨w.heap.size, 10, none⟩ = some (.int .u64 ((x.lo : Nat) : Int)) ∧ W.cell? ⟨w.heap.size, 11, none⟩ = some (.int .i64 x.pk) ∧ W.cell? ⟨w.heap.size, 12, none⟩ = some (.int .i64 x.ps)) (by kernel_rfl) hS0 (fun hHeld => ?_)
      generalize w3.drew = wd at *
      refine' tk 0 rfl rfl ?_ ?_; rotate_left; · ((intro w hSw; (try dsimp only at hSw); go_simp) <;> with_reducible rfl); try go_frame
      refine' tk 2 rfl rfl ?_ ?_; rotate_left; · ((intro w hSw; (try dsimp only at hSw); go_simp) <;> with_reducible rfl); try go_frame
      refine' tk 3 rfl rfl ?_ ?_; rotate_left; · ((intro w hSw; (try dsimp only at hSw); go_simp) <;> with_reducible rfl); try go_frame
      refine' tk 4 rfl rfl ?_ ?_; rotate_left; · ((intro w hSw; (try dsimp only at hSw); go_simp) <;> with_reducible rfl); try go_frame
      refine wpAnyH_ready (rs := [1]) (by kernel_rfl) (by simp) ?_; refine consH rfl (fun K hK => ?_) AllReadyH.nil
      go_simp
      (go_at_call 71; (with_reducible refine (BR.out _).mono ?_))
      rintro e w5 ⟨rfl, hb5⟩
      have hbS := below_chain hb5 hHeld.1
      have hS5 := And.intro hbS (hC.out _ hbS)
      refine hK.out _ _ hS5 (fun hHeld1 => ?_)
      clear hK K hHeld
      try go_frame
      refine' tk 5 rfl rfl ?_ ?_; rotate_left; · ((intro w hSw; (try dsimp only at hSw); go_simp) <;> with_reducible rfl); try go_frame
      refine' tk 6 rfl rfl ?_ ?_; rotate_left; · ((intro w hSw; (try dsimp only at hSw); go_simp) <;> with_reducible rfl); try go_frame
      refine' tn 7 rfl (by kernel_rfl) ?_; try go_frame
      refine' tn 8 rfl (by kernel_rfl) ?_; try go_frame
      refine' tn 9 rfl (by kernel_rfl) ?_; try go_frame
      refine' tn 10 rfl (by kernel_rfl) ?_; try go_frame
      refine' tn 11 rfl (by kernel_rfl) ?_; try go_frame
      refine' tn 12 rfl (by kernel_rfl) ?_; try go_frame
      refine' tn 13 rfl (by kernel_rfl) ?_; try go_frame
      refine' tn 14 rfl (by kernel_rfl) ?_; try go_frame
      refine' tk 15 rfl rfl ?_ ?_; rotate_left; · ((intro w hSw; (try dsimp only at hSw); go_simp) <;> with_reducible rfl); try go_frame
      refine' tk 16 rfl rfl ?_ ?_; rotate_left; · ((intro w hSw; (try dsimp only at hSw); go_simp) <;> with_reducible rfl); try go_frame
      refine wpAnyH_done (by kernel_rfl) ?_ _
      go_wp2_with fail
      go_ret
      exact ⟨by first | rfl | simp, below_chain hbS hb1.out⟩
    by_cases h2 : x.k = 2
    · have e2 : (x.k != 2) = false := by simp [h2]
      refine ⟨ok, by rw [hB]; simp [h2], ?_⟩
      clear hB
      replace h2 := Lib.hid h2
      go_enter Tryd.func55, Tryd.ntmps55
      go_upto_region 1 with fail
      rw [← hw1]
      clear hw1
      go_upto_region 3 with (go_at_call 70; (refine M.out.mono ?_); rintro e w3 ⟨rfl, hb3⟩)
      have hb4 : Below w1.heap.size w1 w3 := below_chain hb3 (below_alloc (Below.refl _ _) _)
      clear c0 c1 c2 c3 c4 c5 c6 c7 c8 c9 c10 c11 c12 hb3
      obtain ⟨c0, c1, c2, c3, c4, c5, c6, c7, c8, c9, c10, c11, c12⟩ := hC.out w3 hb4
      go_region_with (first
        | (go_at_call 71; (with_reducible refine (BR.out _).mono ?_); rintro e w5 ⟨rfl, hb5⟩; have hbS := below_chain hb5 (by first | assumption | exact Below.drew (by assumption)); obtain ⟨c0, c1, c2, c3, c4, c5, c6, c7, c8, c9, c10, c11, c12⟩ := hC.out _ hbS)
        | (go_at_call 11; (with_reducible refine (RA.out _).mono ?_); rintro e w6 ⟨rfl, hb6⟩; have hbT := below_chain hb6 (by first | assumption | exact Below.drew (by assumption)); obtain ⟨c0, c1, c2, c3, c4, c5, c6, c7, c8, c9, c10, c11, c12⟩ := hC.out _ hbT))
      all_goals
        go_wp2_with fail
        go_ret
        exact ⟨by first | rfl | simp, below_chain (by assumption) hb1.out⟩
    · have e2 : (x.k != 2) = true := by simp [h2]
      refine ⟨true, by rw [hB]; simp [h2], ?_⟩
      clear hB
      go_enter Tryd.func55, Tryd.ntmps55
      go_upto_region 1 with fail
      rw [← hw1]
      clear hw1
      go_upto_region 3 with (go_at_call 70; (refine M.out.mono ?_); rintro e w3 ⟨rfl, hb3⟩)
      have hb4 : Below w1.heap.size w1 w3 := below_chain hb3 (below_alloc (Below.refl _ _) _)
      clear c0 c1 c2 c3 c4 c5 c6 c7 c8 c9 c10 c11 c12 hb3
      have hbD : Below w1.heap.size w1 w3.drew := hb4.drew
      have hS0 := And.intro hbD (hC.out w3.drew hbD)
      refine wp_region_held_drew (S := fun W => Below w1.heap.size w1 W ∧ W.cell? ⟨w.heap.size, 0, none⟩ = some (.int .i64 x.k) ∧ W.cell? ⟨w.heap.size, 1, none⟩ = some (.int .i64 x.at_) ∧ W.cell? ⟨w.heap.size, 2, none⟩ = some (.int .i64 x.id) ∧ W.cell? ⟨w.heap.size, 3, none⟩ = some (.int .i64 x.n) ∧ W.cell? ⟨w.heap.size, 4, none⟩ = some (.string ⟨x.s.toArray⟩) ∧ W.cell? ⟨w.heap.size, 5, none⟩ = some (.int .u64 ((x.a : Nat) : Int)) ∧ W.cell? ⟨w.heap.size, 6, none⟩ = some (.int .u64 ((x.b : Nat) : Int)) ∧ W.cell? ⟨w.heap.size, 7, none⟩ = some (.bool x.on) ∧ W.cell? ⟨w.heap.size, 8, none⟩ = some (.bool x.v6) ∧ W.cell? ⟨w.heap.size, 9, none⟩ = some (.int .u64 ((x.hi : Nat) : Int)) ∧ W.cell? ⟨w.heap.size, 10, none⟩ = some (.int .u64 ((x.lo : Nat) : Int)) ∧ W.cell? ⟨w.heap.size, 11, none⟩ = some (.int .i64 x.pk) ∧ W.cell? ⟨w.heap.size, 12, none⟩ = some (.int .i64 x.ps)) (by kernel_rfl) hS0 (fun hHeld => ?_)
      generalize w3.drew = wd at *
      refine' tk 0 rfl rfl ?_ ?_; rotate_left; · ((intro w hSw; (try dsimp only at hSw); go_simp) <;> with_reducible rfl); try go_frame
      refine' tk 2 rfl rfl ?_ ?_; rotate_left; · ((intro w hSw; (try dsimp only at hSw); go_simp) <;> with_reducible rfl); try go_frame
      refine' tk 3 rfl rfl ?_ ?_; rotate_left; · ((intro w hSw; (try dsimp only at hSw); go_simp) <;> with_reducible rfl); try go_frame
      refine' tk 4 rfl rfl ?_ ?_; rotate_left; · ((intro w hSw; (try dsimp only at hSw); go_simp) <;> with_reducible rfl); try go_frame
      refine wpAnyH_ready (rs := [1]) (by kernel_rfl) (by simp) ?_; refine consH rfl (fun K hK => ?_) AllReadyH.nil
      go_simp
      (go_at_call 71; (with_reducible refine (BR.out _).mono ?_))
      rintro e w5 ⟨rfl, hb5⟩
      have hbS := below_chain hb5 hHeld.1
      have hS5 := And.intro hbS (hC.out _ hbS)
      refine hK.out _ _ hS5 (fun hHeld1 => ?_)
      clear hK K hHeld
      try go_frame
      refine' tk 5 rfl rfl ?_ ?_; rotate_left; · ((intro w hSw; (try dsimp only at hSw); go_simp) <;> with_reducible rfl); try go_frame
      refine' tk 6 rfl rfl ?_ ?_; rotate_left; · ((intro w hSw; (try dsimp only at hSw); go_simp) <;> with_reducible rfl); try go_frame
      refine' tk 7 rfl rfl ?_ ?_; rotate_left; · ((intro w hSw; (try dsimp only at hSw); go_simp) <;> with_reducible rfl); try go_frame
      refine' tk 8 rfl rfl ?_ ?_; rotate_left; · ((intro w hSw; (try dsimp only at hSw); go_simp) <;> with_reducible rfl); try go_frame
      refine' tk 9 rfl rfl ?_ ?_; rotate_left; · ((intro w hSw; (try dsimp only at hSw); go_simp) <;> with_reducible rfl); try go_frame
      refine' tk 10 rfl rfl ?_ ?_; rotate_left; · ((intro w hSw; (try dsimp only at hSw); go_simp) <;> with_reducible rfl); try go_frame
      refine' tn 11 rfl (by kernel_rfl) ?_; try go_frame
      refine' tn 12 rfl (by kernel_rfl) ?_; try go_frame
      refine' tn 13 rfl (by kernel_rfl) ?_; try go_frame
      refine' tk 14 rfl rfl ?_ ?_; rotate_left; · ((intro w hSw; (try dsimp only at hSw); go_simp) <;> with_reducible rfl); try go_frame
      refine' tk 15 rfl rfl ?_ ?_; rotate_left; · ((intro w hSw; (try dsimp only at hSw); go_simp) <;> with_reducible rfl); try go_frame
      refine' tk 16 rfl rfl ?_ ?_; rotate_left; · ((intro w hSw; (try dsimp only at hSw); go_simp) <;> with_reducible rfl); try go_frame
      refine wpAnyH_done (by kernel_rfl) ?_ _
      go_wp2_with fail
      go_ret
      exact ⟨by first | rfl | simp, below_chain hbS hb1.out⟩
  obtain ⟨p, rfl, h⟩ := key
  exact h
theorem scr_right (x : ActL) (w : World) :
    Calls Tryd.prog 55 #[.agg (actCs x)] w fun e w' => e = .returned (.bool (rightL x)) ∧ Below w.heap.size w w' := by
  by_cases h0 : x.k < 0
  · rw [right_kn (by omega)]; exact right_low x w h0
  by_cases h11 : 11 < x.k
  · rw [right_kn (by omega)]; exact right_high x w h0 h11
  rw [right_eq x (by omega) (by omega)]
  cases hn : numsOk x with
  | false => exact right_num_no x w h0 h11 hn
  | true => rw [Bool.true_and]; exact right_rest x w h0 h11 hn _ rfl
end Go.Proofs.YtodbgjnccngljaaDoor
