/- script.Right. The document's Right. -/
import Derived.Test.YtodbgjnccngljaaGreatDoorJ24
import Derived.Test.YtodbgjnccngljaaGreatDoorJ5
import Derived.Test.YtodbgjnccngljaaGreatDoorJ25
namespace Go.Proofs.YtodbgjnccngljaaGreatDoor
open Go Go.RowKit Go.Deep
theorem right_kn {x : ActL} (h : ¬ (0 ≤ x.k ∧ x.k ≤ 11)) : rightL x = false := by
 cases hr : rightL x with
 | false => rfl
 | true => exact absurd (right_k hr) h
def numsOk (x : ActL) : Bool := [x.at_, x.id, x.n, x.pk, x.ps].all numOk
theorem right_eq (x : ActL) (h0 : 0 ≤ x.k) (h11 : x.k ≤ 11) : rightL x = (numsOk x && (eqL (bareL x) (zeroL x.k) && (decide (x.k ≠ 2) || adrOk x.v6 x.hi x.lo))) := by
 unfold rightL numsOk
 rw [decide_eq_true h0, decide_eq_true h11]
 simp [Bool.and_assoc]
set_option maxRecDepth 100000 in
set_option maxHeartbeats 8000000 in
theorem right_low (x : ActL) (w : World) (hk : x.k < 0) :
  Calls Tryz.prog 11 #[.agg #[.int .i64 x.k, .int .i64 x.at_, .int .i64 x.id, .int .i64 x.n, .string ⟨x.s.toArray⟩, .int .u64 ((x.a : Nat) : Int), .int .u64 ((x.b : Nat) : Int), .bool x.on, .bool x.v6, .int .u64 ((x.hi : Nat) : Int), .int .u64 ((x.lo : Nat) : Int), .int .i64 x.pk, .int .i64 x.ps]] w fun e w' => e = .returned (.bool false) ∧ Below w.heap.size w w' := by
 obtain ⟨w1, hw1⟩ : ∃ w1, w1 = w.alloc (.cells #[.int .i64 x.k, .int .i64 x.at_, .int .i64 x.id, .int .i64 x.n, .string ⟨x.s.toArray⟩, .int .u64 ((x.a : Nat) : Int), .int .u64 ((x.b : Nat) : Int), .bool x.on, .bool x.v6, .int .u64 ((x.hi : Nat) : Int), .int .u64 ((x.lo : Nat) : Int), .int .i64 x.pk, .int .i64 x.ps] 34) := ⟨_, rfl⟩
 have hb1 : Below w.heap.size w w1 := hw1 ▸ below_alloc (Below.refl _ _) _
 have hs1 : w.heap.size ≤ w1.heap.size := hb1.size
 have h1 : Blk w1 w.heap.size 34 (actCs x) := by rw [hw1]; exact Blk.new w 34 _
 obtain ⟨c0, c1, c2, c3, c4, c5, c6, c7, c8, c9, c10, c11, c12⟩ := act13 h1
 clear h1 hs1
 replace hb1 := Lib.hid hb1
 go_enter Tryz.func11, Tryz.ntmps11
 go_upto_region 1 with fail
 rw [← hw1]
 clear hw1
 go_wp2_with fail
 go_ret
 exact ⟨rfl, hb1.out⟩
set_option maxRecDepth 100000 in
set_option maxHeartbeats 8000000 in
theorem right_high (x : ActL) (w : World) (h0 : ¬ x.k < 0) (hk : 11 < x.k) :
  Calls Tryz.prog 11 #[.agg #[.int .i64 x.k, .int .i64 x.at_, .int .i64 x.id, .int .i64 x.n, .string ⟨x.s.toArray⟩, .int .u64 ((x.a : Nat) : Int), .int .u64 ((x.b : Nat) : Int), .bool x.on, .bool x.v6, .int .u64 ((x.hi : Nat) : Int), .int .u64 ((x.lo : Nat) : Int), .int .i64 x.pk, .int .i64 x.ps]] w fun e w' => e = .returned (.bool false) ∧ Below w.heap.size w w' := by
 obtain ⟨w1, hw1⟩ : ∃ w1, w1 = w.alloc (.cells #[.int .i64 x.k, .int .i64 x.at_, .int .i64 x.id, .int .i64 x.n, .string ⟨x.s.toArray⟩, .int .u64 ((x.a : Nat) : Int), .int .u64 ((x.b : Nat) : Int), .bool x.on, .bool x.v6, .int .u64 ((x.hi : Nat) : Int), .int .u64 ((x.lo : Nat) : Int), .int .i64 x.pk, .int .i64 x.ps] 34) := ⟨_, rfl⟩
 have hb1 : Below w.heap.size w w1 := hw1 ▸ below_alloc (Below.refl _ _) _
 have hs1 : w.heap.size ≤ w1.heap.size := hb1.size
 have h1 : Blk w1 w.heap.size 34 (actCs x) := by rw [hw1]; exact Blk.new w 34 _
 obtain ⟨c0, c1, c2, c3, c4, c5, c6, c7, c8, c9, c10, c11, c12⟩ := act13 h1
 clear h1 hs1
 replace hb1 := Lib.hid hb1
 go_enter Tryz.func11, Tryz.ntmps11
 go_upto_region 1 with fail
 rw [← hw1]
 clear hw1
 go_wp2_with fail
 go_ret
 exact ⟨rfl, hb1.out⟩
set_option maxRecDepth 100000 in
set_option maxHeartbeats 8000000 in
theorem right_num_no (x : ActL) (w : World) (h0 : ¬ x.k < 0) (hk : ¬ 11 < x.k) (hn : numsOk x = false) :
  Calls Tryz.prog 11 #[.agg #[.int .i64 x.k, .int .i64 x.at_, .int .i64 x.id, .int .i64 x.n, .string ⟨x.s.toArray⟩, .int .u64 ((x.a : Nat) : Int), .int .u64 ((x.b : Nat) : Int), .bool x.on, .bool x.v6, .int .u64 ((x.hi : Nat) : Int), .int .u64 ((x.lo : Nat) : Int), .int .i64 x.pk, .int .i64 x.ps]] w fun e w' => e = .returned (.bool false) ∧ Below w.heap.size w w' := by
 obtain ⟨w1, hw1⟩ : ∃ w1, w1 = w.alloc (.cells #[.int .i64 x.k, .int .i64 x.at_, .int .i64 x.id, .int .i64 x.n, .string ⟨x.s.toArray⟩, .int .u64 ((x.a : Nat) : Int), .int .u64 ((x.b : Nat) : Int), .bool x.on, .bool x.v6, .int .u64 ((x.hi : Nat) : Int), .int .u64 ((x.lo : Nat) : Int), .int .i64 x.pk, .int .i64 x.ps] 34) := ⟨_, rfl⟩
 have hb1 : Below w.heap.size w w1 := hw1 ▸ below_alloc (Below.refl _ _) _
 have hs1 : w.heap.size ≤ w1.heap.size := hb1.size
 have h1 : Blk w1 w.heap.size 34 (actCs x) := by rw [hw1]; exact Blk.new w 34 _
 obtain ⟨c0, c1, c2, c3, c4, c5, c6, c7, c8, c9, c10, c11, c12⟩ := act13 h1
 have M := scr_may [x.at_, x.id, x.n, x.pk, x.ps] w1.heap.size _ (Blk.new w1 3 _) (by simp)
 rw [show [x.at_, x.id, x.n, x.pk, x.ps].all numOk = false from hn] at M
 replace M := Lib.hid (show Calls Tryz.prog 37 #[.slice (some ⟨w1.heap.size, 0, none⟩) 5 5] (w1.alloc (.cells #[.int .i64 x.at_, .int .i64 x.id, .int .i64 x.n, .int .i64 x.pk, .int .i64 x.ps] 3)) _ from M)
 clear h1 hn hs1
 replace hb1 := Lib.hid hb1
 go_enter Tryz.func11, Tryz.ntmps11
 go_upto_region 1 with fail
 rw [← hw1]
 clear hw1
 go_wp2_with (go_at_call 37; (refine M.out.mono ?_); rintro e w3 ⟨rfl, hb3⟩)
 go_ret
 exact ⟨rfl, below_chain hb3 (below_alloc hb1.out _)⟩
set_option maxRecDepth 100000 in
set_option maxHeartbeats 16000000 in
theorem right_rest (x : ActL) (w : World) (h0 : ¬ x.k < 0) (hk : ¬ 11 < x.k) (hn : numsOk x = true) (B : Bool) (hB : B = (eqL (bareL x) (zeroL x.k) && (decide (x.k ≠ 2) || adrOk x.v6 x.hi x.lo))) :
  Calls Tryz.prog 11 #[.agg #[.int .i64 x.k, .int .i64 x.at_, .int .i64 x.id, .int .i64 x.n, .string ⟨x.s.toArray⟩, .int .u64 ((x.a : Nat) : Int), .int .u64 ((x.b : Nat) : Int), .bool x.on, .bool x.v6, .int .u64 ((x.hi : Nat) : Int), .int .u64 ((x.lo : Nat) : Int), .int .i64 x.pk, .int .i64 x.ps]] w fun e w' => e = .returned (.bool B) ∧ Below w.heap.size w w' := by
 obtain ⟨w1, hw1⟩ : ∃ w1, w1 = w.alloc (.cells #[.int .i64 x.k, .int .i64 x.at_, .int .i64 x.id, .int .i64 x.n, .string ⟨x.s.toArray⟩, .int .u64 ((x.a : Nat) : Int), .int .u64 ((x.b : Nat) : Int), .bool x.on, .bool x.v6, .int .u64 ((x.hi : Nat) : Int), .int .u64 ((x.lo : Nat) : Int), .int .i64 x.pk, .int .i64 x.ps] 34) := ⟨_, rfl⟩
 have hb1 : Below w.heap.size w w1 := hw1 ▸ below_alloc (Below.refl _ _) _
 have hs1 : w.heap.size ≤ w1.heap.size := hb1.size
 have h1 : Blk w1 w.heap.size 34 (actCs x) := by rw [hw1]; exact Blk.new w 34 _
 obtain ⟨c0, c1, c2, c3, c4, c5, c6, c7, c8, c9, c10, c11, c12⟩ := act13 h1
 have M := scr_may [x.at_, x.id, x.n, x.pk, x.ps] w1.heap.size _ (Blk.new w1 3 _) (by simp)
 rw [show [x.at_, x.id, x.n, x.pk, x.ps].all numOk = true from hn] at M
 replace M := Lib.hid (show Calls Tryz.prog 37 #[.slice (some ⟨w1.heap.size, 0, none⟩) 5 5] (w1.alloc (.cells #[.int .i64 x.at_, .int .i64 x.id, .int .i64 x.n, .int .i64 x.pk, .int .i64 x.ps] 3)) _ from M)
 have BR := Lib.hid fun W => show Calls Tryz.prog 38 #[.agg #[.int .i64 x.k, .int .i64 x.at_, .int .i64 x.id, .int .i64 x.n, .string ⟨x.s.toArray⟩, .int .u64 ((x.a : Nat) : Int), .int .u64 ((x.b : Nat) : Int), .bool x.on, .bool x.v6, .int .u64 ((x.hi : Nat) : Int), .int .u64 ((x.lo : Nat) : Int), .int .i64 x.pk, .int .i64 x.ps]] W _ from scr_bare x W (by omega) (by omega)
 obtain ⟨Y, hY⟩ : ∃ Y, actCs (bareL x) = Y := ⟨_, rfl⟩
 rw [hY] at BR
 obtain ⟨E, hE⟩ : ∃ E, eqL (bareL x) (zeroL x.k) = E := ⟨_, rfl⟩
 have EQ : ∀ W, (binOp .eql 34 (.agg Y) (.agg #[.int .i64 x.k, .int .i64 0, .int .i64 0, .int .i64 0, .string ⟨#[]⟩, .int .u64 0, .int .u64 0, .bool false, .bool false, .int .u64 0, .int .u64 0, .int .i64 0, .int .i64 0])).run Tryz.prog W = .ok (.bool E) W := fun W => by
  rw [← hY, ← hE]
  exact act_eql (bareL x) (zeroL x.k) W
 have RA := Lib.hid fun W => addr_right x.v6 x.hi x.lo W
 obtain ⟨ok, hok⟩ : ∃ ok, adrOk x.v6 x.hi x.lo = ok := ⟨_, rfl⟩
 rw [hok] at RA hB
 rw [hE] at hB
 have hG := act_guard
 have hC := Lib.hid fun W (hb : Below w1.heap.size w1 W) => act13 (h1.call hb)
 clear h1 hn hY hE hok hs1
 replace hb1 := Lib.hid hb1
 have key : ∃ p, p = B ∧ Calls Tryz.prog 11 #[.agg #[.int .i64 x.k, .int .i64 x.at_, .int .i64 x.id, .int .i64 x.n, .string ⟨x.s.toArray⟩, .int .u64 ((x.a : Nat) : Int), .int .u64 ((x.b : Nat) : Int), .bool x.on, .bool x.v6, .int .u64 ((x.hi : Nat) : Int), .int .u64 ((x.lo : Nat) : Int), .int .i64 x.pk, .int .i64 x.ps]] w fun e w' => e = .returned (.bool p) ∧ Below w.heap.size w w' := by
  cases E
  ·
   refine ⟨false, by rw [hB]; simp, ?_⟩
   clear hB
   go_enter Tryz.func11, Tryz.ntmps11
   go_upto_region 1 with fail
   rw [← hw1]
   clear hw1
   go_upto_region 3 with (go_at_call 37; (refine M.out.mono ?_); rintro e w3 ⟨rfl, hb3⟩)
   have hb4 : Below w1.heap.size w1 w3 := below_chain hb3 (below_alloc (Below.refl _ _) _)
   clear c0 c1 c2 c3 c4 c5 c6 c7 c8 c9 c10 c11 c12 hb3
   have hbD : Below w1.heap.size w1 w3.drew := hb4.drew
   have hS0 := And.intro hbD (hC.out w3.drew hbD)
   refine wp_region_held_drew (S := fun W => Below w1.heap.size w1 W ∧ W.cell? ⟨w.heap.size, 0, none⟩ = some (.int .i64 x.k) ∧ W.cell? ⟨w.heap.size, 1, none⟩ = some (.int .i64 x.at_) ∧ W.cell? ⟨w.heap.size, 2, none⟩ = some (.int .i64 x.id) ∧ W.cell? ⟨w.heap.size, 3, none⟩ = some (.int .i64 x.n) ∧ W.cell? ⟨w.heap.size, 4, none⟩ = some (.string ⟨x.s.toArray⟩) ∧ W.cell? ⟨w.heap.size, 5, none⟩ = some (.int .u64 ((x.a : Nat) : Int)) ∧ W.cell? ⟨w.heap.size, 6, none⟩ = some (.int .u64 ((x.b : Nat) : Int)) ∧ W.cell? ⟨w.heap.size, 7, none⟩ = some (.bool x.on) ∧ W.cell? ⟨w.heap.size, 8, none⟩ = some (.bool x.v6) ∧ W.cell? ⟨w.heap.size, 9, none⟩ = some (.int .u64 ((x.hi : Nat) : Int)) ∧ W.cell? ⟨w.heap.size, 10, none⟩ = some (.int .u64 ((x.lo : Nat) : Int)) ∧ W.cell? ⟨w.heap.size, 11, none⟩ = some (.int .i64 x.pk) ∧ W.cell? ⟨w.heap.size, 12, none⟩ = some (.int .i64 x.ps)) (by kernel_rfl) hS0 (fun hHeld => ?_)
   generalize w3.drew = wd at *
   refine' tk 0 rfl rfl ?_ ?_; rotate_left; · ((intro w hSw; (try dsimp only at hSw); go_simp) <;> with_reducible rfl); try go_frame
   refine' tk 2 rfl rfl ?_ ?_; rotate_left; · ((intro w hSw; (try dsimp only at hSw); go_simp) <;> with_reducible rfl); try go_frame
   refine' tk 3 rfl rfl ?_ ?_; rotate_left; · ((intro w hSw; (try dsimp only at hSw); go_simp) <;> with_reducible rfl); try go_frame
   refine' tk 4 rfl rfl ?_ ?_; rotate_left; · ((intro w hSw; (try dsimp only at hSw); go_simp) <;> with_reducible rfl); try go_frame
   refine wpAnyH_ready (rs := [1]) (by kernel_rfl) (by simp) ?_; refine consH rfl (fun K hK => ?_) AllReadyH.nil
   go_simp
   (go_at_call 38; (with_reducible refine (BR.out _).mono ?_))
   rintro e w5 ⟨rfl, hb5⟩
   have hbS := below_chain hb5 hHeld.1
   have hS5 := And.intro hbS (hC.out _ hbS)
   refine hK.out _ _ hS5 (fun hHeld1 => ?_)
   clear hK K hHeld
   try go_frame
   refine' tk 5 rfl rfl ?_ ?_; rotate_left; · ((intro w hSw; (try dsimp only at hSw); go_simp) <;> with_reducible rfl); try go_frame
   refine' tk 6 rfl rfl ?_ ?_; rotate_left; · ((intro w hSw; (try dsimp only at hSw); go_simp) <;> with_reducible rfl); try go_frame
   refine' tn 7 rfl (by kernel_rfl) ?_; try go_frame
   refine' tn 8 rfl (by kernel_rfl) ?_; try go_frame
   refine' tn 9 rfl (by kernel_rfl) ?_; try go_frame
   refine' tn 10 rfl (by kernel_rfl) ?_; try go_frame
   refine' tn 11 rfl (by kernel_rfl) ?_; try go_frame
   refine' tn 12 rfl (by kernel_rfl) ?_; try go_frame
   refine' tn 13 rfl (by kernel_rfl) ?_; try go_frame
   refine' tn 14 rfl (by kernel_rfl) ?_; try go_frame
   refine' tk 15 rfl rfl ?_ ?_; rotate_left; · ((intro w hSw; (try dsimp only at hSw); go_simp) <;> with_reducible rfl); try go_frame
   refine' tk 16 rfl rfl ?_ ?_; rotate_left; · ((intro w hSw; (try dsimp only at hSw); go_simp) <;> with_reducible rfl); try go_frame
   refine wpAnyH_done (by kernel_rfl) ?_ _
   go_wp2_with fail
   go_ret
   exact ⟨by first | rfl | simp, below_chain hbS hb1.out⟩
  by_cases h2 : x.k = 2
  ·
   have e2 : (x.k != 2) = false := by simp [h2]
   refine ⟨ok, by rw [hB]; simp [h2], ?_⟩
   clear hB
   replace h2 := Lib.hid h2
   go_enter Tryz.func11, Tryz.ntmps11
   go_upto_region 1 with fail
   rw [← hw1]
   clear hw1
   go_upto_region 3 with (go_at_call 37; (refine M.out.mono ?_); rintro e w3 ⟨rfl, hb3⟩)
   have hb4 : Below w1.heap.size w1 w3 := below_chain hb3 (below_alloc (Below.refl _ _) _)
   clear c0 c1 c2 c3 c4 c5 c6 c7 c8 c9 c10 c11 c12 hb3
   obtain ⟨c0, c1, c2, c3, c4, c5, c6, c7, c8, c9, c10, c11, c12⟩ := hC.out w3 hb4
   go_region_with (first
    | (go_at_call 38; (with_reducible refine (BR.out _).mono ?_); rintro e w5 ⟨rfl, hb5⟩; have hbS := below_chain hb5 (by first | assumption | exact Below.drew (by assumption)); obtain ⟨c0, c1, c2, c3, c4, c5, c6, c7, c8, c9, c10, c11, c12⟩ := hC.out _ hbS)
    | (go_at_call 39; (with_reducible refine (RA.out _).mono ?_); rintro e w6 ⟨rfl, hb6⟩; have hbT := below_chain hb6 (by first | assumption | exact Below.drew (by assumption)); obtain ⟨c0, c1, c2, c3, c4, c5, c6, c7, c8, c9, c10, c11, c12⟩ := hC.out _ hbT))
   all_goals
    go_wp2_with fail
    go_ret
    exact ⟨by first | rfl | simp, below_chain (by assumption) hb1.out⟩
  ·
   have e2 : (x.k != 2) = true := by simp [h2]
   refine ⟨true, by rw [hB]; simp [h2], ?_⟩
   clear hB
   go_enter Tryz.func11, Tryz.ntmps11
   go_upto_region 1 with fail
   rw [← hw1]
   clear hw1
   go_upto_region 3 with (go_at_call 37; (refine M.out.mono ?_); rintro e w3 ⟨rfl, hb3⟩)
   have hb4 : Below w1.heap.size w1 w3 := below_chain hb3 (below_alloc (Below.refl _ _) _)
   clear c0 c1 c2 c3 c4 c5 c6 c7 c8 c9 c10 c11 c12 hb3
   have hbD : Below w1.heap.size w1 w3.drew := hb4.drew
   have hS0 := And.intro hbD (hC.out w3.drew hbD)
   refine wp_region_held_drew (S := fun W => Below w1.heap.size w1 W ∧ W.cell? ⟨w.heap.size, 0, none⟩ = some (.int .i64 x.k) ∧ W.cell? ⟨w.heap.size, 1, none⟩ = some (.int .i64 x.at_) ∧ W.cell? ⟨w.heap.size, 2, none⟩ = some (.int .i64 x.id) ∧ W.cell? ⟨w.heap.size, 3, none⟩ = some (.int .i64 x.n) ∧ W.cell? ⟨w.heap.size, 4, none⟩ = some (.string ⟨x.s.toArray⟩) ∧ W.cell? ⟨w.heap.size, 5, none⟩ = some (.int .u64 ((x.a : Nat) : Int)) ∧ W.cell? ⟨w.heap.size, 6, none⟩ = some (.int .u64 ((x.b : Nat) : Int)) ∧ W.cell? ⟨w.heap.size, 7, none⟩ = some (.bool x.on) ∧ W.cell? ⟨w.heap.size, 8, none⟩ = some (.bool x.v6) ∧ W.cell? ⟨w.heap.size, 9, none⟩ = some (.int .u64 ((x.hi : Nat) : Int)) ∧ W.cell? ⟨w.heap.size, 10, none⟩ = some (.int .u64 ((x.lo : Nat) : Int)) ∧ W.cell? ⟨w.heap.size, 11, none⟩ = some (.int .i64 x.pk) ∧ W.cell? ⟨w.heap.size, 12, none⟩ = some (.int .i64 x.ps)) (by kernel_rfl) hS0 (fun hHeld => ?_)
   generalize w3.drew = wd at *
   refine' tk 0 rfl rfl ?_ ?_; rotate_left; · ((intro w hSw; (try dsimp only at hSw); go_simp) <;> with_reducible rfl); try go_frame
   refine' tk 2 rfl rfl ?_ ?_; rotate_left; · ((intro w hSw; (try dsimp only at hSw); go_simp) <;> with_reducible rfl); try go_frame
   refine' tk 3 rfl rfl ?_ ?_; rotate_left; · ((intro w hSw; (try dsimp only at hSw); go_simp) <;> with_reducible rfl); try go_frame
   refine' tk 4 rfl rfl ?_ ?_; rotate_left; · ((intro w hSw; (try dsimp only at hSw); go_simp) <;> with_reducible rfl); try go_frame
   refine wpAnyH_ready (rs := [1]) (by kernel_rfl) (by simp) ?_; refine consH rfl (fun K hK => ?_) AllReadyH.nil
   go_simp
   (go_at_call 38; (with_reducible refine (BR.out _).mono ?_))
   rintro e w5 ⟨rfl, hb5⟩
   have hbS := below_chain hb5 hHeld.1
   have hS5 := And.intro hbS (hC.out _ hbS)
   refine hK.out _ _ hS5 (fun hHeld1 => ?_)
   clear hK K hHeld
   try go_frame
   refine' tk 5 rfl rfl ?_ ?_; rotate_left; · ((intro w hSw; (try dsimp only at hSw); go_simp) <;> with_reducible rfl); try go_frame
   refine' tk 6 rfl rfl ?_ ?_; rotate_left; · ((intro w hSw; (try dsimp only at hSw); go_simp) <;> with_reducible rfl); try go_frame
   refine' tk 7 rfl rfl ?_ ?_; rotate_left; · ((intro w hSw; (try dsimp only at hSw); go_simp) <;> with_reducible rfl); try go_frame
   refine' tk 8 rfl rfl ?_ ?_; rotate_left; · ((intro w hSw; (try dsimp only at hSw); go_simp) <;> with_reducible rfl); try go_frame
   refine' tk 9 rfl rfl ?_ ?_; rotate_left; · ((intro w hSw; (try dsimp only at hSw); go_simp) <;> with_reducible rfl); try go_frame
   refine' tk 10 rfl rfl ?_ ?_; rotate_left; · ((intro w hSw; (try dsimp only at hSw); go_simp) <;> with_reducible rfl); try go_frame
   refine' tn 11 rfl (by kernel_rfl) ?_; try go_frame
   refine' tn 12 rfl (by kernel_rfl) ?_; try go_frame
   refine' tn 13 rfl (by kernel_rfl) ?_; try go_frame
   refine' tk 14 rfl rfl ?_ ?_; rotate_left; · ((intro w hSw; (try dsimp only at hSw); go_simp) <;> with_reducible rfl); try go_frame
   refine' tk 15 rfl rfl ?_ ?_; rotate_left; · ((intro w hSw; (try dsimp only at hSw); go_simp) <;> with_reducible rfl); try go_frame
   refine' tk 16 rfl rfl ?_ ?_; rotate_left; · ((intro w hSw; (try dsimp only at hSw); go_simp) <;> with_reducible rfl); try go_frame
   refine wpAnyH_done (by kernel_rfl) ?_ _
   go_wp2_with fail
   go_ret
   exact ⟨by first | rfl | simp, below_chain hbS hb1.out⟩
 obtain ⟨p, rfl, h⟩ := key
 exact h
theorem scr_right (x : ActL) (w : World) :
  Calls Tryz.prog 11 #[.agg (actCs x)] w fun e w' => e = .returned (.bool (rightL x)) ∧ Below w.heap.size w w' := by
 by_cases h0 : x.k < 0
 · rw [right_kn (by omega)]; exact right_low x w h0
 by_cases h11 : 11 < x.k
 · rw [right_kn (by omega)]; exact right_high x w h0 h11
 rw [right_eq x (by omega) (by omega)]
 cases hn : numsOk x with
 | false => exact right_num_no x w h0 h11 hn
 | true => rw [Bool.true_and]; exact right_rest x w h0 h11 hn _ rfl
theorem rnums {x : ActL} (h0 : 0 ≤ x.k) (h11 : x.k ≤ 11) (hn : numOk x.at_ = false ∨ numOk x.id = false ∨ numOk x.n = false ∨ numOk x.pk = false ∨ numOk x.ps = false) : rightL x = false := by
 rw [right_eq x h0 h11]
 unfold numsOk
 rcases hn with h | h | h | h | h <;> simp [h]
theorem rnums_ok {x : ActL} (h1 : numOk x.at_ = true) (h2 : numOk x.id = true) (h3 : numOk x.n = true) (h4 : numOk x.pk = true) (h5 : numOk x.ps = true) : numsOk x = true := by
 unfold numsOk; simp [h1, h2, h3, h4, h5]
set_option maxRecDepth 100000 in
set_option maxHeartbeats 8000000 in
theorem rr_low (x : ActL) (w : World) (hk : x.k < 0) :
  Calls Tryz.prog 12 #[.agg #[.int .i64 x.k, .int .i64 x.at_, .int .i64 x.id, .int .i64 x.n, .string ⟨x.s.toArray⟩, .int .u64 ((x.a : Nat) : Int), .int .u64 ((x.b : Nat) : Int), .bool x.on, .bool x.v6, .int .u64 ((x.hi : Nat) : Int), .int .u64 ((x.lo : Nat) : Int), .int .i64 x.pk, .int .i64 x.ps]] w fun e w' => e = .returned (.bool false) ∧ Below w.heap.size w w' := by
 obtain ⟨w1, hw1⟩ : ∃ w1, w1 = w.alloc (.cells #[.int .i64 x.k, .int .i64 x.at_, .int .i64 x.id, .int .i64 x.n, .string ⟨x.s.toArray⟩, .int .u64 ((x.a : Nat) : Int), .int .u64 ((x.b : Nat) : Int), .bool x.on, .bool x.v6, .int .u64 ((x.hi : Nat) : Int), .int .u64 ((x.lo : Nat) : Int), .int .i64 x.pk, .int .i64 x.ps] 28) := ⟨_, rfl⟩
 have hb1 : Below w.heap.size w w1 := hw1 ▸ below_alloc (Below.refl _ _) _
 have h1 : Blk w1 w.heap.size 28 (actCs x) := by rw [hw1]; exact Blk.new w 28 _
 obtain ⟨c0, c1, c2, c3, c4, c5, c6, c7, c8, c9, c10, c11, c12⟩ := act13 h1
 have N := Lib.hid rs_number
 clear h1
 replace hb1 := Lib.hid hb1
 go_enter Tryz.func12, Tryz.ntmps12
 go_upto_region 1 with fail
 rw [← hw1]
 clear hw1
 go_wp2_with fail
 go_ret
 exact ⟨rfl, hb1.out⟩
set_option maxRecDepth 100000 in
set_option maxHeartbeats 8000000 in
theorem rr_high (x : ActL) (w : World) (h0 : ¬ x.k < 0) (hk : 11 < x.k) :
  Calls Tryz.prog 12 #[.agg #[.int .i64 x.k, .int .i64 x.at_, .int .i64 x.id, .int .i64 x.n, .string ⟨x.s.toArray⟩, .int .u64 ((x.a : Nat) : Int), .int .u64 ((x.b : Nat) : Int), .bool x.on, .bool x.v6, .int .u64 ((x.hi : Nat) : Int), .int .u64 ((x.lo : Nat) : Int), .int .i64 x.pk, .int .i64 x.ps]] w fun e w' => e = .returned (.bool false) ∧ Below w.heap.size w w' := by
 obtain ⟨w1, hw1⟩ : ∃ w1, w1 = w.alloc (.cells #[.int .i64 x.k, .int .i64 x.at_, .int .i64 x.id, .int .i64 x.n, .string ⟨x.s.toArray⟩, .int .u64 ((x.a : Nat) : Int), .int .u64 ((x.b : Nat) : Int), .bool x.on, .bool x.v6, .int .u64 ((x.hi : Nat) : Int), .int .u64 ((x.lo : Nat) : Int), .int .i64 x.pk, .int .i64 x.ps] 28) := ⟨_, rfl⟩
 have hb1 : Below w.heap.size w w1 := hw1 ▸ below_alloc (Below.refl _ _) _
 have h1 : Blk w1 w.heap.size 28 (actCs x) := by rw [hw1]; exact Blk.new w 28 _
 obtain ⟨c0, c1, c2, c3, c4, c5, c6, c7, c8, c9, c10, c11, c12⟩ := act13 h1
 have N := Lib.hid rs_number
 clear h1
 replace hb1 := Lib.hid hb1
 go_enter Tryz.func12, Tryz.ntmps12
 go_upto_region 1 with fail
 rw [← hw1]
 clear hw1
 go_wp2_with fail
 go_ret
 exact ⟨rfl, hb1.out⟩
set_option maxRecDepth 100000 in
set_option maxHeartbeats 8000000 in
theorem rr_n0 (x : ActL) (w : World) (h0 : ¬ x.k < 0) (hk : ¬ 11 < x.k) (n0 : numOk x.at_ = false) :
  Calls Tryz.prog 12 #[.agg #[.int .i64 x.k, .int .i64 x.at_, .int .i64 x.id, .int .i64 x.n, .string ⟨x.s.toArray⟩, .int .u64 ((x.a : Nat) : Int), .int .u64 ((x.b : Nat) : Int), .bool x.on, .bool x.v6, .int .u64 ((x.hi : Nat) : Int), .int .u64 ((x.lo : Nat) : Int), .int .i64 x.pk, .int .i64 x.ps]] w fun e w' => e = .returned (.bool false) ∧ Below w.heap.size w w' := by
 obtain ⟨w1, hw1⟩ : ∃ w1, w1 = w.alloc (.cells #[.int .i64 x.k, .int .i64 x.at_, .int .i64 x.id, .int .i64 x.n, .string ⟨x.s.toArray⟩, .int .u64 ((x.a : Nat) : Int), .int .u64 ((x.b : Nat) : Int), .bool x.on, .bool x.v6, .int .u64 ((x.hi : Nat) : Int), .int .u64 ((x.lo : Nat) : Int), .int .i64 x.pk, .int .i64 x.ps] 28) := ⟨_, rfl⟩
 have hb1 : Below w.heap.size w w1 := hw1 ▸ below_alloc (Below.refl _ _) _
 have h1 : Blk w1 w.heap.size 28 (actCs x) := by rw [hw1]; exact Blk.new w 28 _
 obtain ⟨c0, c1, c2, c3, c4, c5, c6, c7, c8, c9, c10, c11, c12⟩ := act13 h1
 have N := Lib.hid rs_number
 clear h1
 replace hb1 := Lib.hid hb1
 go_enter Tryz.func12, Tryz.ntmps12
 go_upto_region 1 with fail
 rw [← hw1]
 clear hw1
 go_wp2_with (go_at_call 40; (with_reducible refine (N.out _ _).mono ?_); rintro e w5 ⟨rfl, rfl⟩)
 go_ret
 exact ⟨rfl, hb1.out⟩
set_option maxRecDepth 100000 in
set_option maxHeartbeats 8000000 in
theorem rr_n1 (x : ActL) (w : World) (h0 : ¬ x.k < 0) (hk : ¬ 11 < x.k) (n0 : numOk x.at_ = true) (n1 : numOk x.id = false) :
  Calls Tryz.prog 12 #[.agg #[.int .i64 x.k, .int .i64 x.at_, .int .i64 x.id, .int .i64 x.n, .string ⟨x.s.toArray⟩, .int .u64 ((x.a : Nat) : Int), .int .u64 ((x.b : Nat) : Int), .bool x.on, .bool x.v6, .int .u64 ((x.hi : Nat) : Int), .int .u64 ((x.lo : Nat) : Int), .int .i64 x.pk, .int .i64 x.ps]] w fun e w' => e = .returned (.bool false) ∧ Below w.heap.size w w' := by
 obtain ⟨w1, hw1⟩ : ∃ w1, w1 = w.alloc (.cells #[.int .i64 x.k, .int .i64 x.at_, .int .i64 x.id, .int .i64 x.n, .string ⟨x.s.toArray⟩, .int .u64 ((x.a : Nat) : Int), .int .u64 ((x.b : Nat) : Int), .bool x.on, .bool x.v6, .int .u64 ((x.hi : Nat) : Int), .int .u64 ((x.lo : Nat) : Int), .int .i64 x.pk, .int .i64 x.ps] 28) := ⟨_, rfl⟩
 have hb1 : Below w.heap.size w w1 := hw1 ▸ below_alloc (Below.refl _ _) _
 have h1 : Blk w1 w.heap.size 28 (actCs x) := by rw [hw1]; exact Blk.new w 28 _
 obtain ⟨c0, c1, c2, c3, c4, c5, c6, c7, c8, c9, c10, c11, c12⟩ := act13 h1
 have N := Lib.hid rs_number
 clear h1
 replace hb1 := Lib.hid hb1
 go_enter Tryz.func12, Tryz.ntmps12
 go_upto_region 1 with fail
 rw [← hw1]
 clear hw1
 go_wp2_with (go_at_call 40; (with_reducible refine (N.out _ _).mono ?_); rintro e w5 ⟨rfl, rfl⟩)
 go_ret
 exact ⟨rfl, hb1.out⟩
set_option maxRecDepth 100000 in
set_option maxHeartbeats 8000000 in
theorem rr_n2 (x : ActL) (w : World) (h0 : ¬ x.k < 0) (hk : ¬ 11 < x.k) (n0 : numOk x.at_ = true) (n1 : numOk x.id = true) (n2 : numOk x.n = false) :
  Calls Tryz.prog 12 #[.agg #[.int .i64 x.k, .int .i64 x.at_, .int .i64 x.id, .int .i64 x.n, .string ⟨x.s.toArray⟩, .int .u64 ((x.a : Nat) : Int), .int .u64 ((x.b : Nat) : Int), .bool x.on, .bool x.v6, .int .u64 ((x.hi : Nat) : Int), .int .u64 ((x.lo : Nat) : Int), .int .i64 x.pk, .int .i64 x.ps]] w fun e w' => e = .returned (.bool false) ∧ Below w.heap.size w w' := by
 obtain ⟨w1, hw1⟩ : ∃ w1, w1 = w.alloc (.cells #[.int .i64 x.k, .int .i64 x.at_, .int .i64 x.id, .int .i64 x.n, .string ⟨x.s.toArray⟩, .int .u64 ((x.a : Nat) : Int), .int .u64 ((x.b : Nat) : Int), .bool x.on, .bool x.v6, .int .u64 ((x.hi : Nat) : Int), .int .u64 ((x.lo : Nat) : Int), .int .i64 x.pk, .int .i64 x.ps] 28) := ⟨_, rfl⟩
 have hb1 : Below w.heap.size w w1 := hw1 ▸ below_alloc (Below.refl _ _) _
 have h1 : Blk w1 w.heap.size 28 (actCs x) := by rw [hw1]; exact Blk.new w 28 _
 obtain ⟨c0, c1, c2, c3, c4, c5, c6, c7, c8, c9, c10, c11, c12⟩ := act13 h1
 have N := Lib.hid rs_number
 clear h1
 replace hb1 := Lib.hid hb1
 go_enter Tryz.func12, Tryz.ntmps12
 go_upto_region 1 with fail
 rw [← hw1]
 clear hw1
 go_wp2_with (go_at_call 40; (with_reducible refine (N.out _ _).mono ?_); rintro e w5 ⟨rfl, rfl⟩)
 go_ret
 exact ⟨rfl, hb1.out⟩
set_option maxRecDepth 100000 in
set_option maxHeartbeats 8000000 in
theorem rr_n3 (x : ActL) (w : World) (h0 : ¬ x.k < 0) (hk : ¬ 11 < x.k) (n0 : numOk x.at_ = true) (n1 : numOk x.id = true) (n2 : numOk x.n = true) (n3 : numOk x.pk = false) :
  Calls Tryz.prog 12 #[.agg #[.int .i64 x.k, .int .i64 x.at_, .int .i64 x.id, .int .i64 x.n, .string ⟨x.s.toArray⟩, .int .u64 ((x.a : Nat) : Int), .int .u64 ((x.b : Nat) : Int), .bool x.on, .bool x.v6, .int .u64 ((x.hi : Nat) : Int), .int .u64 ((x.lo : Nat) : Int), .int .i64 x.pk, .int .i64 x.ps]] w fun e w' => e = .returned (.bool false) ∧ Below w.heap.size w w' := by
 obtain ⟨w1, hw1⟩ : ∃ w1, w1 = w.alloc (.cells #[.int .i64 x.k, .int .i64 x.at_, .int .i64 x.id, .int .i64 x.n, .string ⟨x.s.toArray⟩, .int .u64 ((x.a : Nat) : Int), .int .u64 ((x.b : Nat) : Int), .bool x.on, .bool x.v6, .int .u64 ((x.hi : Nat) : Int), .int .u64 ((x.lo : Nat) : Int), .int .i64 x.pk, .int .i64 x.ps] 28) := ⟨_, rfl⟩
 have hb1 : Below w.heap.size w w1 := hw1 ▸ below_alloc (Below.refl _ _) _
 have h1 : Blk w1 w.heap.size 28 (actCs x) := by rw [hw1]; exact Blk.new w 28 _
 obtain ⟨c0, c1, c2, c3, c4, c5, c6, c7, c8, c9, c10, c11, c12⟩ := act13 h1
 have N := Lib.hid rs_number
 clear h1
 replace hb1 := Lib.hid hb1
 go_enter Tryz.func12, Tryz.ntmps12
 go_upto_region 1 with fail
 rw [← hw1]
 clear hw1
 go_wp2_with (go_at_call 40; (with_reducible refine (N.out _ _).mono ?_); rintro e w5 ⟨rfl, rfl⟩)
 go_ret
 exact ⟨rfl, hb1.out⟩
set_option maxRecDepth 100000 in
set_option maxHeartbeats 8000000 in
theorem rr_n4 (x : ActL) (w : World) (h0 : ¬ x.k < 0) (hk : ¬ 11 < x.k) (n0 : numOk x.at_ = true) (n1 : numOk x.id = true) (n2 : numOk x.n = true) (n3 : numOk x.pk = true) (n4 : numOk x.ps = false) :
  Calls Tryz.prog 12 #[.agg #[.int .i64 x.k, .int .i64 x.at_, .int .i64 x.id, .int .i64 x.n, .string ⟨x.s.toArray⟩, .int .u64 ((x.a : Nat) : Int), .int .u64 ((x.b : Nat) : Int), .bool x.on, .bool x.v6, .int .u64 ((x.hi : Nat) : Int), .int .u64 ((x.lo : Nat) : Int), .int .i64 x.pk, .int .i64 x.ps]] w fun e w' => e = .returned (.bool false) ∧ Below w.heap.size w w' := by
 obtain ⟨w1, hw1⟩ : ∃ w1, w1 = w.alloc (.cells #[.int .i64 x.k, .int .i64 x.at_, .int .i64 x.id, .int .i64 x.n, .string ⟨x.s.toArray⟩, .int .u64 ((x.a : Nat) : Int), .int .u64 ((x.b : Nat) : Int), .bool x.on, .bool x.v6, .int .u64 ((x.hi : Nat) : Int), .int .u64 ((x.lo : Nat) : Int), .int .i64 x.pk, .int .i64 x.ps] 28) := ⟨_, rfl⟩
 have hb1 : Below w.heap.size w w1 := hw1 ▸ below_alloc (Below.refl _ _) _
 have h1 : Blk w1 w.heap.size 28 (actCs x) := by rw [hw1]; exact Blk.new w 28 _
 obtain ⟨c0, c1, c2, c3, c4, c5, c6, c7, c8, c9, c10, c11, c12⟩ := act13 h1
 have N := Lib.hid rs_number
 clear h1
 replace hb1 := Lib.hid hb1
 go_enter Tryz.func12, Tryz.ntmps12
 go_upto_region 1 with fail
 rw [← hw1]
 clear hw1
 go_wp2_with (go_at_call 40; (with_reducible refine (N.out _ _).mono ?_); rintro e w5 ⟨rfl, rfl⟩)
 go_ret
 exact ⟨rfl, hb1.out⟩
set_option maxRecDepth 100000 in
set_option maxHeartbeats 8000000 in
theorem rr_adr (x : ActL) (w : World) (h0 : ¬ x.k < 0) (hk : ¬ 11 < x.k) (n0 : numOk x.at_ = true) (n1 : numOk x.id = true) (n2 : numOk x.n = true) (n3 : numOk x.pk = true) (n4 : numOk x.ps = true) (h2 : x.k = 2) (ha : adrOk x.v6 x.hi x.lo = false) :
  Calls Tryz.prog 12 #[.agg #[.int .i64 x.k, .int .i64 x.at_, .int .i64 x.id, .int .i64 x.n, .string ⟨x.s.toArray⟩, .int .u64 ((x.a : Nat) : Int), .int .u64 ((x.b : Nat) : Int), .bool x.on, .bool x.v6, .int .u64 ((x.hi : Nat) : Int), .int .u64 ((x.lo : Nat) : Int), .int .i64 x.pk, .int .i64 x.ps]] w fun e w' => e = .returned (.bool false) ∧ Below w.heap.size w w' := by
 obtain ⟨w1, hw1⟩ : ∃ w1, w1 = w.alloc (.cells #[.int .i64 x.k, .int .i64 x.at_, .int .i64 x.id, .int .i64 x.n, .string ⟨x.s.toArray⟩, .int .u64 ((x.a : Nat) : Int), .int .u64 ((x.b : Nat) : Int), .bool x.on, .bool x.v6, .int .u64 ((x.hi : Nat) : Int), .int .u64 ((x.lo : Nat) : Int), .int .i64 x.pk, .int .i64 x.ps] 28) := ⟨_, rfl⟩
 have hb1 : Below w.heap.size w w1 := hw1 ▸ below_alloc (Below.refl _ _) _
 have h1 : Blk w1 w.heap.size 28 (actCs x) := by rw [hw1]; exact Blk.new w 28 _
 obtain ⟨c0, c1, c2, c3, c4, c5, c6, c7, c8, c9, c10, c11, c12⟩ := act13 h1
 have N := Lib.hid rs_number
 have RA := Lib.hid fun W => refaddr_right x.v6 x.hi x.lo W
 have e2 : (x.k == 2) = true := by simp [h2]
 replace h2 := Lib.hid h2
 clear h1
 replace hb1 := Lib.hid hb1
 go_enter Tryz.func12, Tryz.ntmps12
 go_upto_region 1 with fail
 rw [← hw1]
 clear hw1
 go_wp2_with (first
  | (go_at_call 40; (with_reducible refine (N.out _ _).mono ?_); rintro e w5 ⟨rfl, rfl⟩)
  | (go_at_call 41; (with_reducible refine (RA.out _).mono ?_); rintro e w6 ⟨rfl, hb6⟩))
 go_ret
 exact ⟨rfl, below_chain hb6 hb1.out⟩
set_option maxRecDepth 100000 in
set_option maxHeartbeats 16000000 in
theorem rr_fin2 (x : ActL) (w : World) (h0 : ¬ x.k < 0) (hk : ¬ 11 < x.k) (n0 : numOk x.at_ = true) (n1 : numOk x.id = true) (n2 : numOk x.n = true) (n3 : numOk x.pk = true) (n4 : numOk x.ps = true) (h2 : x.k = 2) (ha : adrOk x.v6 x.hi x.lo = true) :
  Calls Tryz.prog 12 #[.agg #[.int .i64 x.k, .int .i64 x.at_, .int .i64 x.id, .int .i64 x.n, .string ⟨x.s.toArray⟩, .int .u64 ((x.a : Nat) : Int), .int .u64 ((x.b : Nat) : Int), .bool x.on, .bool x.v6, .int .u64 ((x.hi : Nat) : Int), .int .u64 ((x.lo : Nat) : Int), .int .i64 x.pk, .int .i64 x.ps]] w fun e w' => e = .returned (.bool (eqL (bareL x) (zeroL x.k))) ∧ Below w.heap.size w w' := by
 obtain ⟨w1, hw1⟩ : ∃ w1, w1 = w.alloc (.cells #[.int .i64 x.k, .int .i64 x.at_, .int .i64 x.id, .int .i64 x.n, .string ⟨x.s.toArray⟩, .int .u64 ((x.a : Nat) : Int), .int .u64 ((x.b : Nat) : Int), .bool x.on, .bool x.v6, .int .u64 ((x.hi : Nat) : Int), .int .u64 ((x.lo : Nat) : Int), .int .i64 x.pk, .int .i64 x.ps] 28) := ⟨_, rfl⟩
 have hb1 : Below w.heap.size w w1 := hw1 ▸ below_alloc (Below.refl _ _) _
 have h1 : Blk w1 w.heap.size 28 (actCs x) := by rw [hw1]; exact Blk.new w 28 _
 obtain ⟨c0, c1, c2, c3, c4, c5, c6, c7, c8, c9, c10, c11, c12⟩ := act13 h1
 have N := Lib.hid rs_number
 have RA := Lib.hid fun W => refaddr_right x.v6 x.hi x.lo W
 have e2 : (x.k == 2) = true := by simp [h2]
 replace h2 := Lib.hid h2
 have BR := Lib.hid fun W => show Calls Tryz.prog 42 #[.agg #[.int .i64 x.k, .int .i64 x.at_, .int .i64 x.id, .int .i64 x.n, .string ⟨x.s.toArray⟩, .int .u64 ((x.a : Nat) : Int), .int .u64 ((x.b : Nat) : Int), .bool x.on, .bool x.v6, .int .u64 ((x.hi : Nat) : Int), .int .u64 ((x.lo : Nat) : Int), .int .i64 x.pk, .int .i64 x.ps]] W _ from rs_bare x W (by omega) (by omega)
 obtain ⟨Y, hY⟩ : ∃ Y, actCs (bareL x) = Y := ⟨_, rfl⟩
 rw [hY] at BR
 obtain ⟨E, hE⟩ : ∃ E, eqL (bareL x) (zeroL x.k) = E := ⟨_, rfl⟩
 have EQ : ∀ W, (binOp .eql 28 (.agg Y) (.agg #[.int .i64 x.k, .int .i64 0, .int .i64 0, .int .i64 0, .string ⟨#[]⟩, .int .u64 0, .int .u64 0, .bool false, .bool false, .int .u64 0, .int .u64 0, .int .i64 0, .int .i64 0])).run Tryz.prog W = .ok (.bool E) W := fun W => by
  rw [← hY, ← hE]
  exact ract_eql (bareL x) (zeroL x.k) W
 rw [hE]
 have hG := ract_guard
 have hC := Lib.hid fun W (hb : Below w1.heap.size w1 W) => act13 (h1.call hb)
 clear h1 hY hE
 replace hb1 := Lib.hid hb1
 go_enter Tryz.func12, Tryz.ntmps12
 go_upto_region 1 with fail
 rw [← hw1]
 clear hw1
 go_upto_region 3 with (first
  | (go_at_call 40; (with_reducible refine (N.out _ _).mono ?_); rintro e w5 ⟨rfl, rfl⟩)
  | (go_at_call 41; (with_reducible refine (RA.out _).mono ?_); rintro e w6 ⟨rfl, hb6⟩))
 clear c0 c1 c2 c3 c4 c5 c6 c7 c8 c9 c10 c11 c12
 have hbD : Below w1.heap.size w1 w6.drew := hb6.drew
 have hS0 := And.intro hbD (hC.out w6.drew hbD)
 refine wp_region_held_drew (S := fun W => Below w1.heap.size w1 W ∧ W.cell? ⟨w.heap.size, 0, none⟩ = some (.int .i64 x.k) ∧ W.cell? ⟨w.heap.size, 1, none⟩ = some (.int .i64 x.at_) ∧ W.cell? ⟨w.heap.size, 2, none⟩ = some (.int .i64 x.id) ∧ W.cell? ⟨w.heap.size, 3, none⟩ = some (.int .i64 x.n) ∧ W.cell? ⟨w.heap.size, 4, none⟩ = some (.string ⟨x.s.toArray⟩) ∧ W.cell? ⟨w.heap.size, 5, none⟩ = some (.int .u64 ((x.a : Nat) : Int)) ∧ W.cell? ⟨w.heap.size, 6, none⟩ = some (.int .u64 ((x.b : Nat) : Int)) ∧ W.cell? ⟨w.heap.size, 7, none⟩ = some (.bool x.on) ∧ W.cell? ⟨w.heap.size, 8, none⟩ = some (.bool x.v6) ∧ W.cell? ⟨w.heap.size, 9, none⟩ = some (.int .u64 ((x.hi : Nat) : Int)) ∧ W.cell? ⟨w.heap.size, 10, none⟩ = some (.int .u64 ((x.lo : Nat) : Int)) ∧ W.cell? ⟨w.heap.size, 11, none⟩ = some (.int .i64 x.pk) ∧ W.cell? ⟨w.heap.size, 12, none⟩ = some (.int .i64 x.ps)) (by kernel_rfl) hS0 (fun hHeld => ?_)
 generalize w6.drew = wd at *
 refine' tk 0 rfl rfl ?_ ?_; rotate_left; · ((intro w hSw; (try dsimp only at hSw); go_simp) <;> with_reducible rfl); try go_frame
 refine' tk 2 rfl rfl ?_ ?_; rotate_left; · ((intro w hSw; (try dsimp only at hSw); go_simp) <;> with_reducible rfl); try go_frame
 refine' tk 3 rfl rfl ?_ ?_; rotate_left; · ((intro w hSw; (try dsimp only at hSw); go_simp) <;> with_reducible rfl); try go_frame
 refine' tk 4 rfl rfl ?_ ?_; rotate_left; · ((intro w hSw; (try dsimp only at hSw); go_simp) <;> with_reducible rfl); try go_frame
 refine wpAnyH_ready (rs := [1]) (by kernel_rfl) (by simp) ?_; refine consH rfl (fun K hK => ?_) AllReadyH.nil
 go_simp
 (go_at_call 42; (with_reducible refine (BR.out _).mono ?_))
 rintro e w7 ⟨rfl, hb7⟩
 have hbS := below_chain hb7 hHeld.1
 refine hK.out _ _ ⟨hbS, hC.out _ hbS⟩ (fun hHeld1 => ?_)
 clear hK K hHeld
 try go_frame
 refine' tk 5 rfl rfl ?_ ?_; rotate_left; · ((intro w hSw; (try dsimp only at hSw); go_simp) <;> with_reducible rfl); try go_frame
 refine' tk 6 rfl rfl ?_ ?_; rotate_left; · ((intro w hSw; (try dsimp only at hSw); go_simp) <;> with_reducible rfl); try go_frame
 refine wpAnyH_done (by kernel_rfl) ?_ _
 go_wp2_with fail
 go_ret
 exact ⟨rfl, below_chain hbS hb1.out⟩
set_option maxRecDepth 100000 in
set_option maxHeartbeats 16000000 in
theorem rr_fin0 (x : ActL) (w : World) (h0 : ¬ x.k < 0) (hk : ¬ 11 < x.k) (n0 : numOk x.at_ = true) (n1 : numOk x.id = true) (n2 : numOk x.n = true) (n3 : numOk x.pk = true) (n4 : numOk x.ps = true) (h2 : ¬ x.k = 2) :
  Calls Tryz.prog 12 #[.agg #[.int .i64 x.k, .int .i64 x.at_, .int .i64 x.id, .int .i64 x.n, .string ⟨x.s.toArray⟩, .int .u64 ((x.a : Nat) : Int), .int .u64 ((x.b : Nat) : Int), .bool x.on, .bool x.v6, .int .u64 ((x.hi : Nat) : Int), .int .u64 ((x.lo : Nat) : Int), .int .i64 x.pk, .int .i64 x.ps]] w fun e w' => e = .returned (.bool (eqL (bareL x) (zeroL x.k))) ∧ Below w.heap.size w w' := by
 obtain ⟨w1, hw1⟩ : ∃ w1, w1 = w.alloc (.cells #[.int .i64 x.k, .int .i64 x.at_, .int .i64 x.id, .int .i64 x.n, .string ⟨x.s.toArray⟩, .int .u64 ((x.a : Nat) : Int), .int .u64 ((x.b : Nat) : Int), .bool x.on, .bool x.v6, .int .u64 ((x.hi : Nat) : Int), .int .u64 ((x.lo : Nat) : Int), .int .i64 x.pk, .int .i64 x.ps] 28) := ⟨_, rfl⟩
 have hb1 : Below w.heap.size w w1 := hw1 ▸ below_alloc (Below.refl _ _) _
 have h1 : Blk w1 w.heap.size 28 (actCs x) := by rw [hw1]; exact Blk.new w 28 _
 obtain ⟨c0, c1, c2, c3, c4, c5, c6, c7, c8, c9, c10, c11, c12⟩ := act13 h1
 have N := Lib.hid rs_number
 have e2 : (x.k == 2) = false := by simp [h2]
 have BR := Lib.hid fun W => show Calls Tryz.prog 42 #[.agg #[.int .i64 x.k, .int .i64 x.at_, .int .i64 x.id, .int .i64 x.n, .string ⟨x.s.toArray⟩, .int .u64 ((x.a : Nat) : Int), .int .u64 ((x.b : Nat) : Int), .bool x.on, .bool x.v6, .int .u64 ((x.hi : Nat) : Int), .int .u64 ((x.lo : Nat) : Int), .int .i64 x.pk, .int .i64 x.ps]] W _ from rs_bare x W (by omega) (by omega)
 obtain ⟨Y, hY⟩ : ∃ Y, actCs (bareL x) = Y := ⟨_, rfl⟩
 rw [hY] at BR
 obtain ⟨E, hE⟩ : ∃ E, eqL (bareL x) (zeroL x.k) = E := ⟨_, rfl⟩
 have EQ : ∀ W, (binOp .eql 28 (.agg Y) (.agg #[.int .i64 x.k, .int .i64 0, .int .i64 0, .int .i64 0, .string ⟨#[]⟩, .int .u64 0, .int .u64 0, .bool false, .bool false, .int .u64 0, .int .u64 0, .int .i64 0, .int .i64 0])).run Tryz.prog W = .ok (.bool E) W := fun W => by
  rw [← hY, ← hE]
  exact ract_eql (bareL x) (zeroL x.k) W
 rw [hE]
 have hG := ract_guard
 have hC := Lib.hid fun W (hb : Below w1.heap.size w1 W) => act13 (h1.call hb)
 clear h1 hY hE
 replace hb1 := Lib.hid hb1
 go_enter Tryz.func12, Tryz.ntmps12
 go_upto_region 1 with fail
 rw [← hw1]
 clear hw1
 go_upto_region 3 with (go_at_call 40; (with_reducible refine (N.out _ _).mono ?_); rintro e w5 ⟨rfl, rfl⟩)
 clear c0 c1 c2 c3 c4 c5 c6 c7 c8 c9 c10 c11 c12
 have hbD : Below w1.heap.size w1 w1.drew := (Below.refl _ _).drew
 have hS0 := And.intro hbD (hC.out w1.drew hbD)
 refine wp_region_held_drew (S := fun W => Below w1.heap.size w1 W ∧ W.cell? ⟨w.heap.size, 0, none⟩ = some (.int .i64 x.k) ∧ W.cell? ⟨w.heap.size, 1, none⟩ = some (.int .i64 x.at_) ∧ W.cell? ⟨w.heap.size, 2, none⟩ = some (.int .i64 x.id) ∧ W.cell? ⟨w.heap.size, 3, none⟩ = some (.int .i64 x.n) ∧ W.cell? ⟨w.heap.size, 4, none⟩ = some (.string ⟨x.s.toArray⟩) ∧ W.cell? ⟨w.heap.size, 5, none⟩ = some (.int .u64 ((x.a : Nat) : Int)) ∧ W.cell? ⟨w.heap.size, 6, none⟩ = some (.int .u64 ((x.b : Nat) : Int)) ∧ W.cell? ⟨w.heap.size, 7, none⟩ = some (.bool x.on) ∧ W.cell? ⟨w.heap.size, 8, none⟩ = some (.bool x.v6) ∧ W.cell? ⟨w.heap.size, 9, none⟩ = some (.int .u64 ((x.hi : Nat) : Int)) ∧ W.cell? ⟨w.heap.size, 10, none⟩ = some (.int .u64 ((x.lo : Nat) : Int)) ∧ W.cell? ⟨w.heap.size, 11, none⟩ = some (.int .i64 x.pk) ∧ W.cell? ⟨w.heap.size, 12, none⟩ = some (.int .i64 x.ps)) (by kernel_rfl) hS0 (fun hHeld => ?_)
 generalize w1.drew = wd at *
 refine' tk 0 rfl rfl ?_ ?_; rotate_left; · ((intro w hSw; (try dsimp only at hSw); go_simp) <;> with_reducible rfl); try go_frame
 refine' tk 2 rfl rfl ?_ ?_; rotate_left; · ((intro w hSw; (try dsimp only at hSw); go_simp) <;> with_reducible rfl); try go_frame
 refine' tk 3 rfl rfl ?_ ?_; rotate_left; · ((intro w hSw; (try dsimp only at hSw); go_simp) <;> with_reducible rfl); try go_frame
 refine' tk 4 rfl rfl ?_ ?_; rotate_left; · ((intro w hSw; (try dsimp only at hSw); go_simp) <;> with_reducible rfl); try go_frame
 refine wpAnyH_ready (rs := [1]) (by kernel_rfl) (by simp) ?_; refine consH rfl (fun K hK => ?_) AllReadyH.nil
 go_simp
 (go_at_call 42; (with_reducible refine (BR.out _).mono ?_))
 rintro e w7 ⟨rfl, hb7⟩
 have hbS := below_chain hb7 hHeld.1
 refine hK.out _ _ ⟨hbS, hC.out _ hbS⟩ (fun hHeld1 => ?_)
 clear hK K hHeld
 try go_frame
 refine' tk 5 rfl rfl ?_ ?_; rotate_left; · ((intro w hSw; (try dsimp only at hSw); go_simp) <;> with_reducible rfl); try go_frame
 refine' tk 6 rfl rfl ?_ ?_; rotate_left; · ((intro w hSw; (try dsimp only at hSw); go_simp) <;> with_reducible rfl); try go_frame
 refine wpAnyH_done (by kernel_rfl) ?_ _
 go_wp2_with fail
 go_ret
 exact ⟨rfl, below_chain hbS hb1.out⟩
theorem rs_right (x : ActL) (w : World) :
  Calls Tryz.prog 12 #[.agg (actCs x)] w fun e w' => e = .returned (.bool (rightL x)) ∧ Below w.heap.size w w' := by
 by_cases h0 : x.k < 0
 · rw [right_kn (by omega)]; exact rr_low x w h0
 by_cases h11 : 11 < x.k
 · rw [right_kn (by omega)]; exact rr_high x w h0 h11
 cases n0 : numOk x.at_ with
 | false => rw [rnums (by omega) (by omega) (Or.inl n0)]; exact rr_n0 x w h0 h11 n0
 | true =>
 cases n1 : numOk x.id with
 | false => rw [rnums (by omega) (by omega) (Or.inr (Or.inl n1))]; exact rr_n1 x w h0 h11 n0 n1
 | true =>
 cases n2 : numOk x.n with
 | false => rw [rnums (by omega) (by omega) (Or.inr (Or.inr (Or.inl n2)))]; exact rr_n2 x w h0 h11 n0 n1 n2
 | true =>
 cases n3 : numOk x.pk with
 | false => rw [rnums (by omega) (by omega) (Or.inr (Or.inr (Or.inr (Or.inl n3))))]; exact rr_n3 x w h0 h11 n0 n1 n2 n3
 | true =>
 cases n4 : numOk x.ps with
 | false => rw [rnums (by omega) (by omega) (Or.inr (Or.inr (Or.inr (Or.inr n4))))]; exact rr_n4 x w h0 h11 n0 n1 n2 n3 n4
 | true =>
 rw [right_eq x (by omega) (by omega), rnums_ok n0 n1 n2 n3 n4, Bool.true_and]
 by_cases h2 : x.k = 2
 ·
  cases ha : adrOk x.v6 x.hi x.lo with
  | false =>
   rw [show (decide (x.k ≠ 2) || false) = false by simp [h2], Bool.and_false]
   exact rr_adr x w h0 h11 n0 n1 n2 n3 n4 h2 ha
  | true =>
   rw [Bool.or_true, Bool.and_true]
   exact rr_fin2 x w h0 h11 n0 n1 n2 n3 n4 h2 ha
 ·
  rw [show (decide (x.k ≠ 2)) = true from decide_eq_true h2, Bool.true_or, Bool.and_true]
  exact rr_fin0 x w h0 h11 n0 n1 n2 n3 n4 h2
end Go.Proofs.YtodbgjnccngljaaGreatDoor
