/- script.said: the words behind the first one. script.said: the words behind the first one. script.Line. -/
import Derived.Test.YtodbgjnccngljaaGreatDoorJ26
import Derived.Test.YtodbgjnccngljaaGreatDoorJ5
import Derived.Test.YtodbgjnccngljaaGreatDoorJ19
import Derived.Test.YtodbgjnccngljaaGreatDoorJ27
import Derived.Test.YtodbgjnccngljaaGreatDoorJ15
namespace Go.Proofs.YtodbgjnccngljaaGreatDoor
open Go Go.RowKit Go.Deep
set_option maxRecDepth 100000 in
set_option maxHeartbeats 16000000 in
theorem said0 (at_ id n : Int) (s : List UInt8) (a b : Nat) (on v6 : Bool) (hi lo : Nat) (pk ps : Int) (w : World) (hw : Std w) (h_at_ : numOk at_ = true) (_h_id : numOk id = true) (_h_n : numOk n = true) (_h_pk : numOk pk = true) (_h_ps : numOk ps = true) (h_a : a < 18446744073709551616) (h_b : b < 18446744073709551616) (h_s : s.length ≤ 1000000) :
  Calls Tryz.prog 22 #[.agg #[.int .i64 0, .int .i64 at_, .int .i64 id, .int .i64 n, .string ⟨s.toArray⟩, .int .u64 ((a : Nat) : Int), .int .u64 ((b : Nat) : Int), .bool on, .bool v6, .int .u64 ((hi : Nat) : Int), .int .u64 ((lo : Nat) : Int), .int .i64 pk, .int .i64 ps]] w fun e w' => ∃ g, e = .returned (.slice (some ⟨g, 0, none⟩) 4 4) ∧ Blk w' g 9 (strs [Lib.itoa at_, Lib.decDigits a, Lib.decDigits b, textL s]) ∧ w.heap.size ≤ g ∧ Below w.heap.size w w' := by
 obtain ⟨w1, hw1⟩ : ∃ w1, w1 = w.alloc (.cells #[.int .i64 0, .int .i64 at_, .int .i64 id, .int .i64 n, .string ⟨s.toArray⟩, .int .u64 ((a : Nat) : Int), .int .u64 ((b : Nat) : Int), .bool on, .bool v6, .int .u64 ((hi : Nat) : Int), .int .u64 ((lo : Nat) : Int), .int .i64 pk, .int .i64 ps] 34) := ⟨_, rfl⟩
 have hb1 : Below w.heap.size w w1 := hw1 ▸ below_alloc (Below.refl _ _) _
 have h1 : Blk w1 w.heap.size 34 #[.int .i64 0, .int .i64 at_, .int .i64 id, .int .i64 n, .string ⟨s.toArray⟩, .int .u64 ((a : Nat) : Int), .int .u64 ((b : Nat) : Int), .bool on, .bool v6, .int .u64 ((hi : Nat) : Int), .int .u64 ((lo : Nat) : Int), .int .i64 pk, .int .i64 ps] := by rw [hw1]; exact Blk.new w 34 _
 have hS1 := hw.below hb1
 have N0 := Lib.hid fun W (hb : Below w1.heap.size w1 W) => std_itoa at_ W (hS1.below hb) (by have := numOk_iff.1 h_at_; omega) (by have := numOk_iff.1 h_at_; omega)
 have N1 := Lib.hid fun W (hb : Below w1.heap.size w1 W) => fmt_uint a h_a W (hS1.below hb)
 have N2 := Lib.hid fun W (hb : Below w1.heap.size w1 W) => fmt_uint b h_b W (hS1.below hb)
 have N3 := Lib.hid fun W (_ : Below w1.heap.size w1 W) => scr_text s W h_s
 have hC := Lib.hid fun W (hb : Below w1.heap.size w1 W) => act13 (x := ⟨0, at_, id, n, s, a, b, on, v6, hi, lo, pk, ps⟩) (h1.call hb)
 have hS0 : Below w1.heap.size w1 w1 := Below.refl _ _
 obtain ⟨c0, c1, c2, c3, c4, c5, c6, c7, c8, c9, c10, c11, c12⟩ := hC.out w1 hS0
 clear h1 hS1 h_at_ _h_id _h_n _h_pk _h_ps h_a h_b h_s hw
 replace hb1 := Lib.hid hb1
 go_enter Tryz.func22, Tryz.ntmps22
 go_upto_region 1 with fail
 rw [← hw1]
 clear hw1
 go_upto_region 4 with fail
 clear c0 c1 c2 c3 c4 c5 c6 c7 c8 c9 c10 c11 c12
 have hbD : Below w1.heap.size w1 w1.drew := hS0.drew
 have hI0 := And.intro hbD (hC.out w1.drew hbD)
 refine wp_region_held_drew (S := fun W => Below w1.heap.size w1 W ∧ W.cell? ⟨w.heap.size, 0, none⟩ = some (.int .i64 0) ∧ W.cell? ⟨w.heap.size, 1, none⟩ = some (.int .i64 at_) ∧ W.cell? ⟨w.heap.size, 2, none⟩ = some (.int .i64 id) ∧ W.cell? ⟨w.heap.size, 3, none⟩ = some (.int .i64 n) ∧ W.cell? ⟨w.heap.size, 4, none⟩ = some (.string ⟨s.toArray⟩) ∧ W.cell? ⟨w.heap.size, 5, none⟩ = some (.int .u64 ((a : Nat) : Int)) ∧ W.cell? ⟨w.heap.size, 6, none⟩ = some (.int .u64 ((b : Nat) : Int)) ∧ W.cell? ⟨w.heap.size, 7, none⟩ = some (.bool on) ∧ W.cell? ⟨w.heap.size, 8, none⟩ = some (.bool v6) ∧ W.cell? ⟨w.heap.size, 9, none⟩ = some (.int .u64 ((hi : Nat) : Int)) ∧ W.cell? ⟨w.heap.size, 10, none⟩ = some (.int .u64 ((lo : Nat) : Int)) ∧ W.cell? ⟨w.heap.size, 11, none⟩ = some (.int .i64 pk) ∧ W.cell? ⟨w.heap.size, 12, none⟩ = some (.int .i64 ps)) (by kernel_rfl) hI0 (fun hHeld => ?_)
 generalize w1.drew = wd0 at *
 refine' tk 0 rfl rfl ?_ ?_; rotate_left; · ((intro w hSw; (try dsimp only at hSw); go_simp) <;> with_reducible rfl); try go_frame
 refine' tk 1 rfl rfl ?_ ?_; rotate_left; · ((intro w hSw; (try dsimp only at hSw); go_simp) <;> with_reducible rfl); try go_frame
 refine' tk 2 rfl rfl ?_ ?_; rotate_left; · ((intro w hSw; (try dsimp only at hSw); go_simp) <;> with_reducible rfl); try go_frame
 refine' tk 4 rfl rfl ?_ ?_; rotate_left; · ((intro w hSw; (try dsimp only at hSw); go_simp) <;> with_reducible rfl); try go_frame
 refine' tk 5 rfl rfl ?_ ?_; rotate_left; · ((intro w hSw; (try dsimp only at hSw); go_simp) <;> with_reducible rfl); try go_frame
 refine' tk 7 rfl rfl ?_ ?_; rotate_left; · ((intro w hSw; (try dsimp only at hSw); go_simp) <;> with_reducible rfl); try go_frame
 refine' tk 8 rfl rfl ?_ ?_; rotate_left; · ((intro w hSw; (try dsimp only at hSw); go_simp) <;> with_reducible rfl); try go_frame
 refine' tk 10 rfl rfl ?_ ?_; rotate_left; · ((intro w hSw; (try dsimp only at hSw); go_simp) <;> with_reducible rfl); try go_frame
 refine' tk 11 rfl rfl ?_ ?_; rotate_left; · ((intro w hSw; (try dsimp only at hSw); go_simp) <;> with_reducible rfl); try go_frame
 refine wpAnyH_ready (rs := [3]) (by kernel_rfl) (by simp) ?_; refine consH rfl (fun K hK => ?_) AllReadyH.nil
 go_simp
 (go_at_call 47; (with_reducible refine (N0.out _ hHeld.1).mono ?_))
 rintro e v0 ⟨rfl, hb4⟩
 have hbS0 := below_chain hb4 hHeld.1
 refine hK.out _ _ ⟨hbS0, hC.out _ hbS0⟩ (fun hHeld0 => ?_)
 clear hK K
 try go_frame
 refine wpAnyH_ready (rs := [6]) (by kernel_rfl) (by simp) ?_; refine consH rfl (fun K hK => ?_) AllReadyH.nil
 go_simp
 (go_at_call 48; (with_reducible refine (N1.out _ hHeld0.1).mono ?_))
 rintro e v1 ⟨rfl, hb5⟩
 have hbS1 := below_chain hb5 hHeld0.1
 refine hK.out _ _ ⟨hbS1, hC.out _ hbS1⟩ (fun hHeld1 => ?_)
 clear hK K
 try go_frame
 refine wpAnyH_ready (rs := [9]) (by kernel_rfl) (by simp) ?_; refine consH rfl (fun K hK => ?_) AllReadyH.nil
 go_simp
 (go_at_call 48; (with_reducible refine (N2.out _ hHeld1.1).mono ?_))
 rintro e v2 ⟨rfl, hb6⟩
 have hbS2 := below_chain hb6 hHeld1.1
 refine hK.out _ _ ⟨hbS2, hC.out _ hbS2⟩ (fun hHeld2 => ?_)
 clear hK K
 try go_frame
 refine wpAnyH_ready (rs := [12]) (by kernel_rfl) (by simp) ?_; refine consH rfl (fun K hK => ?_) AllReadyH.nil
 go_simp
 (go_at_call 49; (with_reducible refine (N3.out _ hHeld2.1).mono ?_))
 rintro e v3 ⟨rfl, hb7⟩
 have hbS3 := below_chain hb7 hHeld2.1
 refine hK.out _ _ ⟨hbS3, hC.out _ hbS3⟩ (fun hHeld3 => ?_)
 clear hK K
 try go_frame
 refine wpAnyH_ready (rs := [13]) (by kernel_rfl) (by simp) ?_; refine consH rfl (fun K hK => ?_) AllReadyH.nil
 go_simp
 have hbZ := below_alloc (below_chain hbS3 hb1.out) (.cells #[.string ⟨(Lib.itoa at_).toArray⟩, .string ⟨(Lib.decDigits a).toArray⟩, .string ⟨(Lib.decDigits b).toArray⟩, .string ⟨(textL s).toArray⟩] 9)
 have hbY := below_alloc hbS3 (.cells #[.string ⟨(Lib.itoa at_).toArray⟩, .string ⟨(Lib.decDigits a).toArray⟩, .string ⟨(Lib.decDigits b).toArray⟩, .string ⟨(textL s).toArray⟩] 9)
 refine hK.out _ _ ⟨hbY, hC.out _ hbY⟩ (fun _ => ?_)
 clear hK K
 try go_frame
 refine' tk 14 rfl rfl ?_ ?_; rotate_left; · ((intro w hSw; (try dsimp only at hSw); go_simp) <;> with_reducible rfl); try go_frame
 refine wpAnyH_done (by kernel_rfl) ?_ _
 go_wp2_with fail
 go_ret
 exact ⟨_, rfl, Blk.new _ _ _, (below_chain hbS3 hb1.out).size, hbZ⟩
set_option maxRecDepth 100000 in
set_option maxHeartbeats 16000000 in
theorem said1 (at_ id n : Int) (s : List UInt8) (a b : Nat) (on v6 : Bool) (hi lo : Nat) (pk ps : Int) (w : World) (hw : Std w) (_h_at_ : numOk at_ = true) (h_id : numOk id = true) (_h_n : numOk n = true) (_h_pk : numOk pk = true) (_h_ps : numOk ps = true) (_h_a : a < 18446744073709551616) (_h_b : b < 18446744073709551616) (h_s : s.length ≤ 1000000) :
  Calls Tryz.prog 22 #[.agg #[.int .i64 1, .int .i64 at_, .int .i64 id, .int .i64 n, .string ⟨s.toArray⟩, .int .u64 ((a : Nat) : Int), .int .u64 ((b : Nat) : Int), .bool on, .bool v6, .int .u64 ((hi : Nat) : Int), .int .u64 ((lo : Nat) : Int), .int .i64 pk, .int .i64 ps]] w fun e w' => ∃ g, e = .returned (.slice (some ⟨g, 0, none⟩) 2 2) ∧ Blk w' g 9 (strs [Lib.itoa id, textL s]) ∧ w.heap.size ≤ g ∧ Below w.heap.size w w' := by
 obtain ⟨w1, hw1⟩ : ∃ w1, w1 = w.alloc (.cells #[.int .i64 1, .int .i64 at_, .int .i64 id, .int .i64 n, .string ⟨s.toArray⟩, .int .u64 ((a : Nat) : Int), .int .u64 ((b : Nat) : Int), .bool on, .bool v6, .int .u64 ((hi : Nat) : Int), .int .u64 ((lo : Nat) : Int), .int .i64 pk, .int .i64 ps] 34) := ⟨_, rfl⟩
 have hb1 : Below w.heap.size w w1 := hw1 ▸ below_alloc (Below.refl _ _) _
 have h1 : Blk w1 w.heap.size 34 #[.int .i64 1, .int .i64 at_, .int .i64 id, .int .i64 n, .string ⟨s.toArray⟩, .int .u64 ((a : Nat) : Int), .int .u64 ((b : Nat) : Int), .bool on, .bool v6, .int .u64 ((hi : Nat) : Int), .int .u64 ((lo : Nat) : Int), .int .i64 pk, .int .i64 ps] := by rw [hw1]; exact Blk.new w 34 _
 have hS1 := hw.below hb1
 have N0 := Lib.hid fun W (hb : Below w1.heap.size w1 W) => std_itoa id W (hS1.below hb) (by have := numOk_iff.1 h_id; omega) (by have := numOk_iff.1 h_id; omega)
 have N1 := Lib.hid fun W (_ : Below w1.heap.size w1 W) => scr_text s W h_s
 have hC := Lib.hid fun W (hb : Below w1.heap.size w1 W) => act13 (x := ⟨1, at_, id, n, s, a, b, on, v6, hi, lo, pk, ps⟩) (h1.call hb)
 have hS0 : Below w1.heap.size w1 w1 := Below.refl _ _
 obtain ⟨c0, c1, c2, c3, c4, c5, c6, c7, c8, c9, c10, c11, c12⟩ := hC.out w1 hS0
 clear h1 hS1 _h_at_ h_id _h_n _h_pk _h_ps _h_a _h_b h_s hw
 replace hb1 := Lib.hid hb1
 go_enter Tryz.func22, Tryz.ntmps22
 go_upto_region 1 with fail
 rw [← hw1]
 clear hw1
 go_upto_region 6 with fail
 go_region_with (first
  | (go_at_call 47; (with_reducible refine (N0.out _ (by first | assumption | exact Below.drew (by assumption))).mono ?_); rintro e w4 ⟨rfl, hb4⟩; have hS4 : Below w1.heap.size w1 w4 := below_chain hb4 (by first | assumption | exact Below.drew (by assumption)); obtain ⟨c0, c1, c2, c3, c4, c5, c6, c7, c8, c9, c10, c11, c12⟩ := hC.out _ hS4)
  | (go_at_call 49; (with_reducible refine (N1.out _ (by first | assumption | exact Below.drew (by assumption))).mono ?_); rintro e w5 ⟨rfl, hb5⟩; have hS5 : Below w1.heap.size w1 w5 := below_chain hb5 (by first | assumption | exact Below.drew (by assumption)); obtain ⟨c0, c1, c2, c3, c4, c5, c6, c7, c8, c9, c10, c11, c12⟩ := hC.out _ hS5))
 all_goals
  go_wp2_with fail
  go_ret
  refine ⟨_, rfl, Blk.new _ _ _, ?_, ?_⟩
  · exact Nat.le_trans hb1.out.size (Below.size (by assumption))
  · exact below_alloc (below_chain (by assumption) hb1.out) _
set_option maxRecDepth 100000 in
set_option maxHeartbeats 16000000 in
theorem said2 (at_ id n : Int) (s : List UInt8) (a b : Nat) (on v6 : Bool) (hi lo : Nat) (pk ps : Int) (w : World) (hw : Std w) (_h_at_ : numOk at_ = true) (_h_id : numOk id = true) (h_n : numOk n = true) (_h_pk : numOk pk = true) (_h_ps : numOk ps = true) (_h_a : a < 18446744073709551616) (_h_b : b < 18446744073709551616) (_h_s : s.length ≤ 1000000) :
  Calls Tryz.prog 22 #[.agg #[.int .i64 2, .int .i64 at_, .int .i64 id, .int .i64 n, .string ⟨s.toArray⟩, .int .u64 ((a : Nat) : Int), .int .u64 ((b : Nat) : Int), .bool on, .bool v6, .int .u64 ((hi : Nat) : Int), .int .u64 ((lo : Nat) : Int), .int .i64 pk, .int .i64 ps]] w fun e w' => ∃ g, e = .returned (.slice (some ⟨g, 0, none⟩) 2 2) ∧ Blk w' g 9 (strs [Lib.itoa n, adrTxt v6 hi lo]) ∧ w.heap.size ≤ g ∧ Below w.heap.size w w' := by
 obtain ⟨w1, hw1⟩ : ∃ w1, w1 = w.alloc (.cells #[.int .i64 2, .int .i64 at_, .int .i64 id, .int .i64 n, .string ⟨s.toArray⟩, .int .u64 ((a : Nat) : Int), .int .u64 ((b : Nat) : Int), .bool on, .bool v6, .int .u64 ((hi : Nat) : Int), .int .u64 ((lo : Nat) : Int), .int .i64 pk, .int .i64 ps] 34) := ⟨_, rfl⟩
 have hb1 : Below w.heap.size w w1 := hw1 ▸ below_alloc (Below.refl _ _) _
 have h1 : Blk w1 w.heap.size 34 #[.int .i64 2, .int .i64 at_, .int .i64 id, .int .i64 n, .string ⟨s.toArray⟩, .int .u64 ((a : Nat) : Int), .int .u64 ((b : Nat) : Int), .bool on, .bool v6, .int .u64 ((hi : Nat) : Int), .int .u64 ((lo : Nat) : Int), .int .i64 pk, .int .i64 ps] := by rw [hw1]; exact Blk.new w 34 _
 have hS1 := hw.below hb1
 have N0 := Lib.hid fun W (hb : Below w1.heap.size w1 W) => std_itoa n W (hS1.below hb) (by have := numOk_iff.1 h_n; omega) (by have := numOk_iff.1 h_n; omega)
 have N1 := Lib.hid fun W (hb : Below w1.heap.size w1 W) => addr_text v6 hi lo W (hS1.below hb)
 have hC := Lib.hid fun W (hb : Below w1.heap.size w1 W) => act13 (x := ⟨2, at_, id, n, s, a, b, on, v6, hi, lo, pk, ps⟩) (h1.call hb)
 have hS0 : Below w1.heap.size w1 w1 := Below.refl _ _
 obtain ⟨c0, c1, c2, c3, c4, c5, c6, c7, c8, c9, c10, c11, c12⟩ := hC.out w1 hS0
 clear h1 hS1 _h_at_ _h_id h_n _h_pk _h_ps _h_a _h_b _h_s hw
 replace hb1 := Lib.hid hb1
 go_enter Tryz.func22, Tryz.ntmps22
 go_upto_region 1 with fail
 rw [← hw1]
 clear hw1
 go_upto_region 8 with fail
 go_region_with (first
  | (go_at_call 47; (with_reducible refine (N0.out _ (by first | assumption | exact Below.drew (by assumption))).mono ?_); rintro e w4 ⟨rfl, hb4⟩; have hS4 : Below w1.heap.size w1 w4 := below_chain hb4 (by first | assumption | exact Below.drew (by assumption)); obtain ⟨c0, c1, c2, c3, c4, c5, c6, c7, c8, c9, c10, c11, c12⟩ := hC.out _ hS4)
  | (go_at_call 50; (with_reducible refine (N1.out _ (by first | assumption | exact Below.drew (by assumption))).mono ?_); rintro e w5 ⟨rfl, hb5⟩; have hS5 : Below w1.heap.size w1 w5 := below_chain hb5 (by first | assumption | exact Below.drew (by assumption)); obtain ⟨c0, c1, c2, c3, c4, c5, c6, c7, c8, c9, c10, c11, c12⟩ := hC.out _ hS5))
 all_goals
  go_wp2_with fail
  go_ret
  refine ⟨_, rfl, Blk.new _ _ _, ?_, ?_⟩
  · exact Nat.le_trans hb1.out.size (Below.size (by assumption))
  · exact below_alloc (below_chain (by assumption) hb1.out) _
set_option maxRecDepth 100000 in
set_option maxHeartbeats 16000000 in
theorem said3 (at_ id n : Int) (s : List UInt8) (a b : Nat) (on v6 : Bool) (hi lo : Nat) (pk ps : Int) (w : World) (hw : Std w) (_h_at_ : numOk at_ = true) (h_id : numOk id = true) (_h_n : numOk n = true) (_h_pk : numOk pk = true) (_h_ps : numOk ps = true) (_h_a : a < 18446744073709551616) (_h_b : b < 18446744073709551616) (_h_s : s.length ≤ 1000000) :
  Calls Tryz.prog 22 #[.agg #[.int .i64 3, .int .i64 at_, .int .i64 id, .int .i64 n, .string ⟨s.toArray⟩, .int .u64 ((a : Nat) : Int), .int .u64 ((b : Nat) : Int), .bool on, .bool v6, .int .u64 ((hi : Nat) : Int), .int .u64 ((lo : Nat) : Int), .int .i64 pk, .int .i64 ps]] w fun e w' => ∃ g, e = .returned (.slice (some ⟨g, 0, none⟩) 1 1) ∧ Blk w' g 9 (strs [Lib.itoa id]) ∧ w.heap.size ≤ g ∧ Below w.heap.size w w' := by
 obtain ⟨w1, hw1⟩ : ∃ w1, w1 = w.alloc (.cells #[.int .i64 3, .int .i64 at_, .int .i64 id, .int .i64 n, .string ⟨s.toArray⟩, .int .u64 ((a : Nat) : Int), .int .u64 ((b : Nat) : Int), .bool on, .bool v6, .int .u64 ((hi : Nat) : Int), .int .u64 ((lo : Nat) : Int), .int .i64 pk, .int .i64 ps] 34) := ⟨_, rfl⟩
 have hb1 : Below w.heap.size w w1 := hw1 ▸ below_alloc (Below.refl _ _) _
 have h1 : Blk w1 w.heap.size 34 #[.int .i64 3, .int .i64 at_, .int .i64 id, .int .i64 n, .string ⟨s.toArray⟩, .int .u64 ((a : Nat) : Int), .int .u64 ((b : Nat) : Int), .bool on, .bool v6, .int .u64 ((hi : Nat) : Int), .int .u64 ((lo : Nat) : Int), .int .i64 pk, .int .i64 ps] := by rw [hw1]; exact Blk.new w 34 _
 have hS1 := hw.below hb1
 have N0 := Lib.hid fun W (hb : Below w1.heap.size w1 W) => std_itoa id W (hS1.below hb) (by have := numOk_iff.1 h_id; omega) (by have := numOk_iff.1 h_id; omega)
 have hC := Lib.hid fun W (hb : Below w1.heap.size w1 W) => act13 (x := ⟨3, at_, id, n, s, a, b, on, v6, hi, lo, pk, ps⟩) (h1.call hb)
 have hS0 : Below w1.heap.size w1 w1 := Below.refl _ _
 obtain ⟨c0, c1, c2, c3, c4, c5, c6, c7, c8, c9, c10, c11, c12⟩ := hC.out w1 hS0
 clear h1 hS1 _h_at_ h_id _h_n _h_pk _h_ps _h_a _h_b _h_s hw
 replace hb1 := Lib.hid hb1
 go_enter Tryz.func22, Tryz.ntmps22
 go_upto_region 1 with fail
 rw [← hw1]
 clear hw1
 go_wp2_with (go_at_call 47; (with_reducible refine (N0.out _ (by first | assumption | exact Below.drew (by assumption))).mono ?_); rintro e w4 ⟨rfl, hb4⟩; have hS4 : Below w1.heap.size w1 w4 := below_chain hb4 (by first | assumption | exact Below.drew (by assumption)); obtain ⟨c0, c1, c2, c3, c4, c5, c6, c7, c8, c9, c10, c11, c12⟩ := hC.out _ hS4)
 go_ret
 refine ⟨_, rfl, Blk.new _ _ _, ?_, ?_⟩
 · exact Nat.le_trans hb1.out.size (Below.size (by assumption))
 · exact below_alloc (below_chain (by assumption) hb1.out) _
set_option maxRecDepth 100000 in
set_option maxHeartbeats 16000000 in
theorem said4 (at_ id n : Int) (s : List UInt8) (a b : Nat) (on v6 : Bool) (hi lo : Nat) (pk ps : Int) (w : World) (hw : Std w) (_h_at_ : numOk at_ = true) (h_id : numOk id = true) (_h_n : numOk n = true) (_h_pk : numOk pk = true) (_h_ps : numOk ps = true) (_h_a : a < 18446744073709551616) (_h_b : b < 18446744073709551616) (_h_s : s.length ≤ 1000000) :
  Calls Tryz.prog 22 #[.agg #[.int .i64 4, .int .i64 at_, .int .i64 id, .int .i64 n, .string ⟨s.toArray⟩, .int .u64 ((a : Nat) : Int), .int .u64 ((b : Nat) : Int), .bool on, .bool v6, .int .u64 ((hi : Nat) : Int), .int .u64 ((lo : Nat) : Int), .int .i64 pk, .int .i64 ps]] w fun e w' => ∃ g, e = .returned (.slice (some ⟨g, 0, none⟩) 2 2) ∧ Blk w' g 9 (strs [Lib.itoa id, onL on]) ∧ w.heap.size ≤ g ∧ Below w.heap.size w w' := by
 obtain ⟨w1, hw1⟩ : ∃ w1, w1 = w.alloc (.cells #[.int .i64 4, .int .i64 at_, .int .i64 id, .int .i64 n, .string ⟨s.toArray⟩, .int .u64 ((a : Nat) : Int), .int .u64 ((b : Nat) : Int), .bool on, .bool v6, .int .u64 ((hi : Nat) : Int), .int .u64 ((lo : Nat) : Int), .int .i64 pk, .int .i64 ps] 34) := ⟨_, rfl⟩
 have hb1 : Below w.heap.size w w1 := hw1 ▸ below_alloc (Below.refl _ _) _
 have h1 : Blk w1 w.heap.size 34 #[.int .i64 4, .int .i64 at_, .int .i64 id, .int .i64 n, .string ⟨s.toArray⟩, .int .u64 ((a : Nat) : Int), .int .u64 ((b : Nat) : Int), .bool on, .bool v6, .int .u64 ((hi : Nat) : Int), .int .u64 ((lo : Nat) : Int), .int .i64 pk, .int .i64 ps] := by rw [hw1]; exact Blk.new w 34 _
 have hS1 := hw.below hb1
 have N0 := Lib.hid fun W (hb : Below w1.heap.size w1 W) => std_itoa id W (hS1.below hb) (by have := numOk_iff.1 h_id; omega) (by have := numOk_iff.1 h_id; omega)
 have N1 := Lib.hid fun W (_ : Below w1.heap.size w1 W) => scr_on on W
 have hC := Lib.hid fun W (hb : Below w1.heap.size w1 W) => act13 (x := ⟨4, at_, id, n, s, a, b, on, v6, hi, lo, pk, ps⟩) (h1.call hb)
 have hS0 : Below w1.heap.size w1 w1 := Below.refl _ _
 obtain ⟨c0, c1, c2, c3, c4, c5, c6, c7, c8, c9, c10, c11, c12⟩ := hC.out w1 hS0
 clear h1 hS1 _h_at_ h_id _h_n _h_pk _h_ps _h_a _h_b _h_s hw
 replace hb1 := Lib.hid hb1
 go_enter Tryz.func22, Tryz.ntmps22
 go_upto_region 1 with fail
 rw [← hw1]
 clear hw1
 go_upto_region 13 with fail
 go_region_with (first
  | (go_at_call 47; (with_reducible refine (N0.out _ (by first | assumption | exact Below.drew (by assumption))).mono ?_); rintro e w4 ⟨rfl, hb4⟩; have hS4 : Below w1.heap.size w1 w4 := below_chain hb4 (by first | assumption | exact Below.drew (by assumption)); obtain ⟨c0, c1, c2, c3, c4, c5, c6, c7, c8, c9, c10, c11, c12⟩ := hC.out _ hS4)
  | (go_at_call 51; (with_reducible refine (N1.out _ (by first | assumption | exact Below.drew (by assumption))).mono ?_); rintro e w5 ⟨rfl, rfl⟩))
 all_goals
  go_wp2_with fail
  go_ret
  refine ⟨_, rfl, Blk.new _ _ _, ?_, ?_⟩
  · exact Nat.le_trans hb1.out.size (Below.size (by assumption))
  · exact below_alloc (below_chain (by assumption) hb1.out) _
set_option maxRecDepth 100000 in
set_option maxHeartbeats 16000000 in
theorem said5 (at_ id n : Int) (s : List UInt8) (a b : Nat) (on v6 : Bool) (hi lo : Nat) (pk ps : Int) (w : World) (hw : Std w) (_h_at_ : numOk at_ = true) (h_id : numOk id = true) (h_n : numOk n = true) (_h_pk : numOk pk = true) (_h_ps : numOk ps = true) (_h_a : a < 18446744073709551616) (_h_b : b < 18446744073709551616) (_h_s : s.length ≤ 1000000) :
  Calls Tryz.prog 22 #[.agg #[.int .i64 5, .int .i64 at_, .int .i64 id, .int .i64 n, .string ⟨s.toArray⟩, .int .u64 ((a : Nat) : Int), .int .u64 ((b : Nat) : Int), .bool on, .bool v6, .int .u64 ((hi : Nat) : Int), .int .u64 ((lo : Nat) : Int), .int .i64 pk, .int .i64 ps]] w fun e w' => ∃ g, e = .returned (.slice (some ⟨g, 0, none⟩) 2 2) ∧ Blk w' g 9 (strs [Lib.itoa id, Lib.itoa n]) ∧ w.heap.size ≤ g ∧ Below w.heap.size w w' := by
 obtain ⟨w1, hw1⟩ : ∃ w1, w1 = w.alloc (.cells #[.int .i64 5, .int .i64 at_, .int .i64 id, .int .i64 n, .string ⟨s.toArray⟩, .int .u64 ((a : Nat) : Int), .int .u64 ((b : Nat) : Int), .bool on, .bool v6, .int .u64 ((hi : Nat) : Int), .int .u64 ((lo : Nat) : Int), .int .i64 pk, .int .i64 ps] 34) := ⟨_, rfl⟩
 have hb1 : Below w.heap.size w w1 := hw1 ▸ below_alloc (Below.refl _ _) _
 have h1 : Blk w1 w.heap.size 34 #[.int .i64 5, .int .i64 at_, .int .i64 id, .int .i64 n, .string ⟨s.toArray⟩, .int .u64 ((a : Nat) : Int), .int .u64 ((b : Nat) : Int), .bool on, .bool v6, .int .u64 ((hi : Nat) : Int), .int .u64 ((lo : Nat) : Int), .int .i64 pk, .int .i64 ps] := by rw [hw1]; exact Blk.new w 34 _
 have hS1 := hw.below hb1
 have N0 := Lib.hid fun W (hb : Below w1.heap.size w1 W) => std_itoa id W (hS1.below hb) (by have := numOk_iff.1 h_id; omega) (by have := numOk_iff.1 h_id; omega)
 have N1 := Lib.hid fun W (hb : Below w1.heap.size w1 W) => std_itoa n W (hS1.below hb) (by have := numOk_iff.1 h_n; omega) (by have := numOk_iff.1 h_n; omega)
 have hC := Lib.hid fun W (hb : Below w1.heap.size w1 W) => act13 (x := ⟨5, at_, id, n, s, a, b, on, v6, hi, lo, pk, ps⟩) (h1.call hb)
 have hS0 : Below w1.heap.size w1 w1 := Below.refl _ _
 obtain ⟨c0, c1, c2, c3, c4, c5, c6, c7, c8, c9, c10, c11, c12⟩ := hC.out w1 hS0
 clear h1 hS1 _h_at_ h_id h_n _h_pk _h_ps _h_a _h_b _h_s hw
 replace hb1 := Lib.hid hb1
 go_enter Tryz.func22, Tryz.ntmps22
 go_upto_region 1 with fail
 rw [← hw1]
 clear hw1
 go_upto_region 15 with fail
 go_region_with (first
  | (go_at_call 47; (with_reducible refine (N0.out _ (by first | assumption | exact Below.drew (by assumption))).mono ?_); rintro e w4 ⟨rfl, hb4⟩; have hS4 : Below w1.heap.size w1 w4 := below_chain hb4 (by first | assumption | exact Below.drew (by assumption)); obtain ⟨c0, c1, c2, c3, c4, c5, c6, c7, c8, c9, c10, c11, c12⟩ := hC.out _ hS4)
  | (go_at_call 47; (with_reducible refine (N1.out _ (by first | assumption | exact Below.drew (by assumption))).mono ?_); rintro e w5 ⟨rfl, hb5⟩; have hS5 : Below w1.heap.size w1 w5 := below_chain hb5 (by first | assumption | exact Below.drew (by assumption)); obtain ⟨c0, c1, c2, c3, c4, c5, c6, c7, c8, c9, c10, c11, c12⟩ := hC.out _ hS5))
 all_goals
  go_wp2_with fail
  go_ret
  refine ⟨_, rfl, Blk.new _ _ _, ?_, ?_⟩
  · exact Nat.le_trans hb1.out.size (Below.size (by assumption))
  · exact below_alloc (below_chain (by assumption) hb1.out) _
set_option maxRecDepth 100000 in
set_option maxHeartbeats 16000000 in
theorem said6 (at_ id n : Int) (s : List UInt8) (a b : Nat) (on v6 : Bool) (hi lo : Nat) (pk ps : Int) (w : World) (hw : Std w) (_h_at_ : numOk at_ = true) (h_id : numOk id = true) (_h_n : numOk n = true) (_h_pk : numOk pk = true) (_h_ps : numOk ps = true) (_h_a : a < 18446744073709551616) (_h_b : b < 18446744073709551616) (_h_s : s.length ≤ 1000000) :
  Calls Tryz.prog 22 #[.agg #[.int .i64 6, .int .i64 at_, .int .i64 id, .int .i64 n, .string ⟨s.toArray⟩, .int .u64 ((a : Nat) : Int), .int .u64 ((b : Nat) : Int), .bool on, .bool v6, .int .u64 ((hi : Nat) : Int), .int .u64 ((lo : Nat) : Int), .int .i64 pk, .int .i64 ps]] w fun e w' => ∃ g, e = .returned (.slice (some ⟨g, 0, none⟩) 2 2) ∧ Blk w' g 9 (strs [Lib.itoa id, onL on]) ∧ w.heap.size ≤ g ∧ Below w.heap.size w w' := by
 obtain ⟨w1, hw1⟩ : ∃ w1, w1 = w.alloc (.cells #[.int .i64 6, .int .i64 at_, .int .i64 id, .int .i64 n, .string ⟨s.toArray⟩, .int .u64 ((a : Nat) : Int), .int .u64 ((b : Nat) : Int), .bool on, .bool v6, .int .u64 ((hi : Nat) : Int), .int .u64 ((lo : Nat) : Int), .int .i64 pk, .int .i64 ps] 34) := ⟨_, rfl⟩
 have hb1 : Below w.heap.size w w1 := hw1 ▸ below_alloc (Below.refl _ _) _
 have h1 : Blk w1 w.heap.size 34 #[.int .i64 6, .int .i64 at_, .int .i64 id, .int .i64 n, .string ⟨s.toArray⟩, .int .u64 ((a : Nat) : Int), .int .u64 ((b : Nat) : Int), .bool on, .bool v6, .int .u64 ((hi : Nat) : Int), .int .u64 ((lo : Nat) : Int), .int .i64 pk, .int .i64 ps] := by rw [hw1]; exact Blk.new w 34 _
 have hS1 := hw.below hb1
 have N0 := Lib.hid fun W (hb : Below w1.heap.size w1 W) => std_itoa id W (hS1.below hb) (by have := numOk_iff.1 h_id; omega) (by have := numOk_iff.1 h_id; omega)
 have N1 := Lib.hid fun W (_ : Below w1.heap.size w1 W) => scr_on on W
 have hC := Lib.hid fun W (hb : Below w1.heap.size w1 W) => act13 (x := ⟨6, at_, id, n, s, a, b, on, v6, hi, lo, pk, ps⟩) (h1.call hb)
 have hS0 : Below w1.heap.size w1 w1 := Below.refl _ _
 obtain ⟨c0, c1, c2, c3, c4, c5, c6, c7, c8, c9, c10, c11, c12⟩ := hC.out w1 hS0
 clear h1 hS1 _h_at_ h_id _h_n _h_pk _h_ps _h_a _h_b _h_s hw
 replace hb1 := Lib.hid hb1
 go_enter Tryz.func22, Tryz.ntmps22
 go_upto_region 1 with fail
 rw [← hw1]
 clear hw1
 go_upto_region 13 with fail
 go_region_with (first
  | (go_at_call 47; (with_reducible refine (N0.out _ (by first | assumption | exact Below.drew (by assumption))).mono ?_); rintro e w4 ⟨rfl, hb4⟩; have hS4 : Below w1.heap.size w1 w4 := below_chain hb4 (by first | assumption | exact Below.drew (by assumption)); obtain ⟨c0, c1, c2, c3, c4, c5, c6, c7, c8, c9, c10, c11, c12⟩ := hC.out _ hS4)
  | (go_at_call 51; (with_reducible refine (N1.out _ (by first | assumption | exact Below.drew (by assumption))).mono ?_); rintro e w5 ⟨rfl, rfl⟩))
 all_goals
  go_wp2_with fail
  go_ret
  refine ⟨_, rfl, Blk.new _ _ _, ?_, ?_⟩
  · exact Nat.le_trans hb1.out.size (Below.size (by assumption))
  · exact below_alloc (below_chain (by assumption) hb1.out) _
set_option maxRecDepth 100000 in
set_option maxHeartbeats 16000000 in
theorem said7 (at_ id n : Int) (s : List UInt8) (a b : Nat) (on v6 : Bool) (hi lo : Nat) (pk ps : Int) (w : World) (hw : Std w) (_h_at_ : numOk at_ = true) (_h_id : numOk id = true) (_h_n : numOk n = true) (h_pk : numOk pk = true) (h_ps : numOk ps = true) (_h_a : a < 18446744073709551616) (_h_b : b < 18446744073709551616) (_h_s : s.length ≤ 1000000) :
  Calls Tryz.prog 22 #[.agg #[.int .i64 7, .int .i64 at_, .int .i64 id, .int .i64 n, .string ⟨s.toArray⟩, .int .u64 ((a : Nat) : Int), .int .u64 ((b : Nat) : Int), .bool on, .bool v6, .int .u64 ((hi : Nat) : Int), .int .u64 ((lo : Nat) : Int), .int .i64 pk, .int .i64 ps]] w fun e w' => ∃ g, e = .returned (.slice (some ⟨g, 0, none⟩) 2 2) ∧ Blk w' g 9 (strs [Lib.itoa pk, Lib.itoa ps]) ∧ w.heap.size ≤ g ∧ Below w.heap.size w w' := by
 obtain ⟨w1, hw1⟩ : ∃ w1, w1 = w.alloc (.cells #[.int .i64 7, .int .i64 at_, .int .i64 id, .int .i64 n, .string ⟨s.toArray⟩, .int .u64 ((a : Nat) : Int), .int .u64 ((b : Nat) : Int), .bool on, .bool v6, .int .u64 ((hi : Nat) : Int), .int .u64 ((lo : Nat) : Int), .int .i64 pk, .int .i64 ps] 34) := ⟨_, rfl⟩
 have hb1 : Below w.heap.size w w1 := hw1 ▸ below_alloc (Below.refl _ _) _
 have h1 : Blk w1 w.heap.size 34 #[.int .i64 7, .int .i64 at_, .int .i64 id, .int .i64 n, .string ⟨s.toArray⟩, .int .u64 ((a : Nat) : Int), .int .u64 ((b : Nat) : Int), .bool on, .bool v6, .int .u64 ((hi : Nat) : Int), .int .u64 ((lo : Nat) : Int), .int .i64 pk, .int .i64 ps] := by rw [hw1]; exact Blk.new w 34 _
 have hS1 := hw.below hb1
 have N0 := Lib.hid fun W (hb : Below w1.heap.size w1 W) => std_itoa pk W (hS1.below hb) (by have := numOk_iff.1 h_pk; omega) (by have := numOk_iff.1 h_pk; omega)
 have N1 := Lib.hid fun W (hb : Below w1.heap.size w1 W) => std_itoa ps W (hS1.below hb) (by have := numOk_iff.1 h_ps; omega) (by have := numOk_iff.1 h_ps; omega)
 have hC := Lib.hid fun W (hb : Below w1.heap.size w1 W) => act13 (x := ⟨7, at_, id, n, s, a, b, on, v6, hi, lo, pk, ps⟩) (h1.call hb)
 have hS0 : Below w1.heap.size w1 w1 := Below.refl _ _
 obtain ⟨c0, c1, c2, c3, c4, c5, c6, c7, c8, c9, c10, c11, c12⟩ := hC.out w1 hS0
 clear h1 hS1 _h_at_ _h_id _h_n h_pk h_ps _h_a _h_b _h_s hw
 replace hb1 := Lib.hid hb1
 go_enter Tryz.func22, Tryz.ntmps22
 go_upto_region 1 with fail
 rw [← hw1]
 clear hw1
 go_upto_region 17 with fail
 go_region_with (first
  | (go_at_call 47; (with_reducible refine (N0.out _ (by first | assumption | exact Below.drew (by assumption))).mono ?_); rintro e w4 ⟨rfl, hb4⟩; have hS4 : Below w1.heap.size w1 w4 := below_chain hb4 (by first | assumption | exact Below.drew (by assumption)); obtain ⟨c0, c1, c2, c3, c4, c5, c6, c7, c8, c9, c10, c11, c12⟩ := hC.out _ hS4)
  | (go_at_call 47; (with_reducible refine (N1.out _ (by first | assumption | exact Below.drew (by assumption))).mono ?_); rintro e w5 ⟨rfl, hb5⟩; have hS5 : Below w1.heap.size w1 w5 := below_chain hb5 (by first | assumption | exact Below.drew (by assumption)); obtain ⟨c0, c1, c2, c3, c4, c5, c6, c7, c8, c9, c10, c11, c12⟩ := hC.out _ hS5))
 all_goals
  go_wp2_with fail
  go_ret
  refine ⟨_, rfl, Blk.new _ _ _, ?_, ?_⟩
  · exact Nat.le_trans hb1.out.size (Below.size (by assumption))
  · exact below_alloc (below_chain (by assumption) hb1.out) _
set_option maxRecDepth 100000 in
set_option maxHeartbeats 16000000 in
theorem said8 (at_ id n : Int) (s : List UInt8) (a b : Nat) (on v6 : Bool) (hi lo : Nat) (pk ps : Int) (w : World) (hw : Std w) (_h_at_ : numOk at_ = true) (_h_id : numOk id = true) (_h_n : numOk n = true) (_h_pk : numOk pk = true) (_h_ps : numOk ps = true) (_h_a : a < 18446744073709551616) (_h_b : b < 18446744073709551616) (_h_s : s.length ≤ 1000000) :
  Calls Tryz.prog 22 #[.agg #[.int .i64 8, .int .i64 at_, .int .i64 id, .int .i64 n, .string ⟨s.toArray⟩, .int .u64 ((a : Nat) : Int), .int .u64 ((b : Nat) : Int), .bool on, .bool v6, .int .u64 ((hi : Nat) : Int), .int .u64 ((lo : Nat) : Int), .int .i64 pk, .int .i64 ps]] w fun e w' => ∃ g, e = .returned (.slice (some ⟨g, 0, none⟩) 1 1) ∧ Blk w' g 9 (strs [onL on]) ∧ w.heap.size ≤ g ∧ Below w.heap.size w w' := by
 obtain ⟨w1, hw1⟩ : ∃ w1, w1 = w.alloc (.cells #[.int .i64 8, .int .i64 at_, .int .i64 id, .int .i64 n, .string ⟨s.toArray⟩, .int .u64 ((a : Nat) : Int), .int .u64 ((b : Nat) : Int), .bool on, .bool v6, .int .u64 ((hi : Nat) : Int), .int .u64 ((lo : Nat) : Int), .int .i64 pk, .int .i64 ps] 34) := ⟨_, rfl⟩
 have hb1 : Below w.heap.size w w1 := hw1 ▸ below_alloc (Below.refl _ _) _
 have h1 : Blk w1 w.heap.size 34 #[.int .i64 8, .int .i64 at_, .int .i64 id, .int .i64 n, .string ⟨s.toArray⟩, .int .u64 ((a : Nat) : Int), .int .u64 ((b : Nat) : Int), .bool on, .bool v6, .int .u64 ((hi : Nat) : Int), .int .u64 ((lo : Nat) : Int), .int .i64 pk, .int .i64 ps] := by rw [hw1]; exact Blk.new w 34 _
 have hS1 := hw.below hb1
 have N0 := Lib.hid fun W (_ : Below w1.heap.size w1 W) => scr_on on W
 have hC := Lib.hid fun W (hb : Below w1.heap.size w1 W) => act13 (x := ⟨8, at_, id, n, s, a, b, on, v6, hi, lo, pk, ps⟩) (h1.call hb)
 have hS0 : Below w1.heap.size w1 w1 := Below.refl _ _
 obtain ⟨c0, c1, c2, c3, c4, c5, c6, c7, c8, c9, c10, c11, c12⟩ := hC.out w1 hS0
 clear h1 hS1 _h_at_ _h_id _h_n _h_pk _h_ps _h_a _h_b _h_s hw
 replace hb1 := Lib.hid hb1
 go_enter Tryz.func22, Tryz.ntmps22
 go_upto_region 1 with fail
 rw [← hw1]
 clear hw1
 go_wp2_with (go_at_call 51; (with_reducible refine (N0.out _ (by first | assumption | exact Below.drew (by assumption))).mono ?_); rintro e w4 ⟨rfl, rfl⟩)
 go_ret
 refine ⟨_, rfl, Blk.new _ _ _, ?_, ?_⟩
 · exact Nat.le_trans hb1.out.size (Below.size (by assumption))
 · exact below_alloc (below_chain (by assumption) hb1.out) _
set_option maxRecDepth 100000 in
set_option maxHeartbeats 16000000 in
theorem said9 (at_ id n : Int) (s : List UInt8) (a b : Nat) (on v6 : Bool) (hi lo : Nat) (pk ps : Int) (w : World) (hw : Std w) (h_at_ : numOk at_ = true) (_h_id : numOk id = true) (_h_n : numOk n = true) (_h_pk : numOk pk = true) (_h_ps : numOk ps = true) (_h_a : a < 18446744073709551616) (_h_b : b < 18446744073709551616) (_h_s : s.length ≤ 1000000) :
  Calls Tryz.prog 22 #[.agg #[.int .i64 9, .int .i64 at_, .int .i64 id, .int .i64 n, .string ⟨s.toArray⟩, .int .u64 ((a : Nat) : Int), .int .u64 ((b : Nat) : Int), .bool on, .bool v6, .int .u64 ((hi : Nat) : Int), .int .u64 ((lo : Nat) : Int), .int .i64 pk, .int .i64 ps]] w fun e w' => ∃ g, e = .returned (.slice (some ⟨g, 0, none⟩) 1 1) ∧ Blk w' g 9 (strs [Lib.itoa at_]) ∧ w.heap.size ≤ g ∧ Below w.heap.size w w' := by
 obtain ⟨w1, hw1⟩ : ∃ w1, w1 = w.alloc (.cells #[.int .i64 9, .int .i64 at_, .int .i64 id, .int .i64 n, .string ⟨s.toArray⟩, .int .u64 ((a : Nat) : Int), .int .u64 ((b : Nat) : Int), .bool on, .bool v6, .int .u64 ((hi : Nat) : Int), .int .u64 ((lo : Nat) : Int), .int .i64 pk, .int .i64 ps] 34) := ⟨_, rfl⟩
 have hb1 : Below w.heap.size w w1 := hw1 ▸ below_alloc (Below.refl _ _) _
 have h1 : Blk w1 w.heap.size 34 #[.int .i64 9, .int .i64 at_, .int .i64 id, .int .i64 n, .string ⟨s.toArray⟩, .int .u64 ((a : Nat) : Int), .int .u64 ((b : Nat) : Int), .bool on, .bool v6, .int .u64 ((hi : Nat) : Int), .int .u64 ((lo : Nat) : Int), .int .i64 pk, .int .i64 ps] := by rw [hw1]; exact Blk.new w 34 _
 have hS1 := hw.below hb1
 have N0 := Lib.hid fun W (hb : Below w1.heap.size w1 W) => std_itoa at_ W (hS1.below hb) (by have := numOk_iff.1 h_at_; omega) (by have := numOk_iff.1 h_at_; omega)
 have hC := Lib.hid fun W (hb : Below w1.heap.size w1 W) => act13 (x := ⟨9, at_, id, n, s, a, b, on, v6, hi, lo, pk, ps⟩) (h1.call hb)
 have hS0 : Below w1.heap.size w1 w1 := Below.refl _ _
 obtain ⟨c0, c1, c2, c3, c4, c5, c6, c7, c8, c9, c10, c11, c12⟩ := hC.out w1 hS0
 clear h1 hS1 h_at_ _h_id _h_n _h_pk _h_ps _h_a _h_b _h_s hw
 replace hb1 := Lib.hid hb1
 go_enter Tryz.func22, Tryz.ntmps22
 go_upto_region 1 with fail
 rw [← hw1]
 clear hw1
 go_wp2_with (go_at_call 47; (with_reducible refine (N0.out _ (by first | assumption | exact Below.drew (by assumption))).mono ?_); rintro e w4 ⟨rfl, hb4⟩; have hS4 : Below w1.heap.size w1 w4 := below_chain hb4 (by first | assumption | exact Below.drew (by assumption)); obtain ⟨c0, c1, c2, c3, c4, c5, c6, c7, c8, c9, c10, c11, c12⟩ := hC.out _ hS4)
 go_ret
 refine ⟨_, rfl, Blk.new _ _ _, ?_, ?_⟩
 · exact Nat.le_trans hb1.out.size (Below.size (by assumption))
 · exact below_alloc (below_chain (by assumption) hb1.out) _
set_option maxRecDepth 100000 in
set_option maxHeartbeats 16000000 in
theorem said10 (at_ id n : Int) (s : List UInt8) (a b : Nat) (on v6 : Bool) (hi lo : Nat) (pk ps : Int) (w : World) (hw : Std w) (h_at_ : numOk at_ = true) (_h_id : numOk id = true) (_h_n : numOk n = true) (_h_pk : numOk pk = true) (_h_ps : numOk ps = true) (_h_a : a < 18446744073709551616) (_h_b : b < 18446744073709551616) (_h_s : s.length ≤ 1000000) :
  Calls Tryz.prog 22 #[.agg #[.int .i64 10, .int .i64 at_, .int .i64 id, .int .i64 n, .string ⟨s.toArray⟩, .int .u64 ((a : Nat) : Int), .int .u64 ((b : Nat) : Int), .bool on, .bool v6, .int .u64 ((hi : Nat) : Int), .int .u64 ((lo : Nat) : Int), .int .i64 pk, .int .i64 ps]] w fun e w' => ∃ g, e = .returned (.slice (some ⟨g, 0, none⟩) 1 1) ∧ Blk w' g 9 (strs [Lib.itoa at_]) ∧ w.heap.size ≤ g ∧ Below w.heap.size w w' := by
 obtain ⟨w1, hw1⟩ : ∃ w1, w1 = w.alloc (.cells #[.int .i64 10, .int .i64 at_, .int .i64 id, .int .i64 n, .string ⟨s.toArray⟩, .int .u64 ((a : Nat) : Int), .int .u64 ((b : Nat) : Int), .bool on, .bool v6, .int .u64 ((hi : Nat) : Int), .int .u64 ((lo : Nat) : Int), .int .i64 pk, .int .i64 ps] 34) := ⟨_, rfl⟩
 have hb1 : Below w.heap.size w w1 := hw1 ▸ below_alloc (Below.refl _ _) _
 have h1 : Blk w1 w.heap.size 34 #[.int .i64 10, .int .i64 at_, .int .i64 id, .int .i64 n, .string ⟨s.toArray⟩, .int .u64 ((a : Nat) : Int), .int .u64 ((b : Nat) : Int), .bool on, .bool v6, .int .u64 ((hi : Nat) : Int), .int .u64 ((lo : Nat) : Int), .int .i64 pk, .int .i64 ps] := by rw [hw1]; exact Blk.new w 34 _
 have hS1 := hw.below hb1
 have N0 := Lib.hid fun W (hb : Below w1.heap.size w1 W) => std_itoa at_ W (hS1.below hb) (by have := numOk_iff.1 h_at_; omega) (by have := numOk_iff.1 h_at_; omega)
 have hC := Lib.hid fun W (hb : Below w1.heap.size w1 W) => act13 (x := ⟨10, at_, id, n, s, a, b, on, v6, hi, lo, pk, ps⟩) (h1.call hb)
 have hS0 : Below w1.heap.size w1 w1 := Below.refl _ _
 obtain ⟨c0, c1, c2, c3, c4, c5, c6, c7, c8, c9, c10, c11, c12⟩ := hC.out w1 hS0
 clear h1 hS1 h_at_ _h_id _h_n _h_pk _h_ps _h_a _h_b _h_s hw
 replace hb1 := Lib.hid hb1
 go_enter Tryz.func22, Tryz.ntmps22
 go_upto_region 1 with fail
 rw [← hw1]
 clear hw1
 go_wp2_with (go_at_call 47; (with_reducible refine (N0.out _ (by first | assumption | exact Below.drew (by assumption))).mono ?_); rintro e w4 ⟨rfl, hb4⟩; have hS4 : Below w1.heap.size w1 w4 := below_chain hb4 (by first | assumption | exact Below.drew (by assumption)); obtain ⟨c0, c1, c2, c3, c4, c5, c6, c7, c8, c9, c10, c11, c12⟩ := hC.out _ hS4)
 go_ret
 refine ⟨_, rfl, Blk.new _ _ _, ?_, ?_⟩
 · exact Nat.le_trans hb1.out.size (Below.size (by assumption))
 · exact below_alloc (below_chain (by assumption) hb1.out) _
set_option maxRecDepth 100000 in
set_option maxHeartbeats 16000000 in
theorem said11 (at_ id n : Int) (s : List UInt8) (a b : Nat) (on v6 : Bool) (hi lo : Nat) (pk ps : Int) (w : World) (hw : Std w) (_h_at_ : numOk at_ = true) (_h_id : numOk id = true) (h_n : numOk n = true) (_h_pk : numOk pk = true) (_h_ps : numOk ps = true) (_h_a : a < 18446744073709551616) (_h_b : b < 18446744073709551616) (_h_s : s.length ≤ 1000000) :
  Calls Tryz.prog 22 #[.agg #[.int .i64 11, .int .i64 at_, .int .i64 id, .int .i64 n, .string ⟨s.toArray⟩, .int .u64 ((a : Nat) : Int), .int .u64 ((b : Nat) : Int), .bool on, .bool v6, .int .u64 ((hi : Nat) : Int), .int .u64 ((lo : Nat) : Int), .int .i64 pk, .int .i64 ps]] w fun e w' => ∃ g, e = .returned (.slice (some ⟨g, 0, none⟩) 1 1) ∧ Blk w' g 9 (strs [Lib.itoa n]) ∧ w.heap.size ≤ g ∧ Below w.heap.size w w' := by
 obtain ⟨w1, hw1⟩ : ∃ w1, w1 = w.alloc (.cells #[.int .i64 11, .int .i64 at_, .int .i64 id, .int .i64 n, .string ⟨s.toArray⟩, .int .u64 ((a : Nat) : Int), .int .u64 ((b : Nat) : Int), .bool on, .bool v6, .int .u64 ((hi : Nat) : Int), .int .u64 ((lo : Nat) : Int), .int .i64 pk, .int .i64 ps] 34) := ⟨_, rfl⟩
 have hb1 : Below w.heap.size w w1 := hw1 ▸ below_alloc (Below.refl _ _) _
 have h1 : Blk w1 w.heap.size 34 #[.int .i64 11, .int .i64 at_, .int .i64 id, .int .i64 n, .string ⟨s.toArray⟩, .int .u64 ((a : Nat) : Int), .int .u64 ((b : Nat) : Int), .bool on, .bool v6, .int .u64 ((hi : Nat) : Int), .int .u64 ((lo : Nat) : Int), .int .i64 pk, .int .i64 ps] := by rw [hw1]; exact Blk.new w 34 _
 have hS1 := hw.below hb1
 have N0 := Lib.hid fun W (hb : Below w1.heap.size w1 W) => std_itoa n W (hS1.below hb) (by have := numOk_iff.1 h_n; omega) (by have := numOk_iff.1 h_n; omega)
 have hC := Lib.hid fun W (hb : Below w1.heap.size w1 W) => act13 (x := ⟨11, at_, id, n, s, a, b, on, v6, hi, lo, pk, ps⟩) (h1.call hb)
 have hS0 : Below w1.heap.size w1 w1 := Below.refl _ _
 obtain ⟨c0, c1, c2, c3, c4, c5, c6, c7, c8, c9, c10, c11, c12⟩ := hC.out w1 hS0
 clear h1 hS1 _h_at_ _h_id h_n _h_pk _h_ps _h_a _h_b _h_s hw
 replace hb1 := Lib.hid hb1
 go_enter Tryz.func22, Tryz.ntmps22
 go_upto_region 1 with fail
 rw [← hw1]
 clear hw1
 go_wp2_with (go_at_call 47; (with_reducible refine (N0.out _ (by first | assumption | exact Below.drew (by assumption))).mono ?_); rintro e w4 ⟨rfl, hb4⟩; have hS4 : Below w1.heap.size w1 w4 := below_chain hb4 (by first | assumption | exact Below.drew (by assumption)); obtain ⟨c0, c1, c2, c3, c4, c5, c6, c7, c8, c9, c10, c11, c12⟩ := hC.out _ hS4)
 go_ret
 refine ⟨_, rfl, Blk.new _ _ _, ?_, ?_⟩
 · exact Nat.le_trans hb1.out.size (Below.size (by assumption))
 · exact below_alloc (below_chain (by assumption) hb1.out) _
theorem scr_said (x : ActL) (w : World) (hw : Std w) (hr : rightL x = true) (hi : inL x) (hs : x.s.length ≤ 1000000) :
  Calls Tryz.prog 22 #[.agg (actCs x)] w fun e w' => ∃ g, e = .returned (.slice (some ⟨g, 0, none⟩) (saidL x).length (saidL x).length) ∧ Blk w' g 9 (strs (saidL x)) ∧ w.heap.size ≤ g ∧ Below w.heap.size w w' := by
 obtain ⟨n1, n2, n3, n4, n5⟩ := right_num hr
 obtain ⟨k0, k11⟩ := right_k hr
 obtain ⟨i1, i2, -, -⟩ := hi
 obtain ⟨k, at_, id, n, s, a, b, on, v6, hi, lo, pk, ps⟩ := x
 simp only at n1 n2 n3 n4 n5 i1 i2 hs k0 k11
 clear hr
 obtain rfl | rfl | rfl | rfl | rfl | rfl | rfl | rfl | rfl | rfl | rfl | rfl : k = 0 ∨ k = 1 ∨ k = 2 ∨ k = 3 ∨ k = 4 ∨ k = 5 ∨ k = 6 ∨ k = 7 ∨ k = 8 ∨ k = 9 ∨ k = 10 ∨ k = 11 := by omega
 ·
  rw [show saidL ⟨0, at_, id, n, s, a, b, on, v6, hi, lo, pk, ps⟩ = [Lib.itoa at_, Lib.decDigits a, Lib.decDigits b, textL s] by simp [saidL]]
  exact said0 at_ id n s a b on v6 hi lo pk ps w hw n1 n2 n3 n4 n5 i1 i2 hs
 ·
  rw [show saidL ⟨1, at_, id, n, s, a, b, on, v6, hi, lo, pk, ps⟩ = [Lib.itoa id, textL s] by simp [saidL]]
  exact said1 at_ id n s a b on v6 hi lo pk ps w hw n1 n2 n3 n4 n5 i1 i2 hs
 ·
  rw [show saidL ⟨2, at_, id, n, s, a, b, on, v6, hi, lo, pk, ps⟩ = [Lib.itoa n, adrTxt v6 hi lo] by simp [saidL]]
  exact said2 at_ id n s a b on v6 hi lo pk ps w hw n1 n2 n3 n4 n5 i1 i2 hs
 ·
  rw [show saidL ⟨3, at_, id, n, s, a, b, on, v6, hi, lo, pk, ps⟩ = [Lib.itoa id] by simp [saidL]]
  exact said3 at_ id n s a b on v6 hi lo pk ps w hw n1 n2 n3 n4 n5 i1 i2 hs
 ·
  rw [show saidL ⟨4, at_, id, n, s, a, b, on, v6, hi, lo, pk, ps⟩ = [Lib.itoa id, onL on] by simp [saidL]]
  exact said4 at_ id n s a b on v6 hi lo pk ps w hw n1 n2 n3 n4 n5 i1 i2 hs
 ·
  rw [show saidL ⟨5, at_, id, n, s, a, b, on, v6, hi, lo, pk, ps⟩ = [Lib.itoa id, Lib.itoa n] by simp [saidL]]
  exact said5 at_ id n s a b on v6 hi lo pk ps w hw n1 n2 n3 n4 n5 i1 i2 hs
 ·
  rw [show saidL ⟨6, at_, id, n, s, a, b, on, v6, hi, lo, pk, ps⟩ = [Lib.itoa id, onL on] by simp [saidL]]
  exact said6 at_ id n s a b on v6 hi lo pk ps w hw n1 n2 n3 n4 n5 i1 i2 hs
 ·
  rw [show saidL ⟨7, at_, id, n, s, a, b, on, v6, hi, lo, pk, ps⟩ = [Lib.itoa pk, Lib.itoa ps] by simp [saidL]]
  exact said7 at_ id n s a b on v6 hi lo pk ps w hw n1 n2 n3 n4 n5 i1 i2 hs
 ·
  rw [show saidL ⟨8, at_, id, n, s, a, b, on, v6, hi, lo, pk, ps⟩ = [onL on] by simp [saidL]]
  exact said8 at_ id n s a b on v6 hi lo pk ps w hw n1 n2 n3 n4 n5 i1 i2 hs
 ·
  rw [show saidL ⟨9, at_, id, n, s, a, b, on, v6, hi, lo, pk, ps⟩ = [Lib.itoa at_] by simp [saidL]]
  exact said9 at_ id n s a b on v6 hi lo pk ps w hw n1 n2 n3 n4 n5 i1 i2 hs
 ·
  rw [show saidL ⟨10, at_, id, n, s, a, b, on, v6, hi, lo, pk, ps⟩ = [Lib.itoa at_] by simp [saidL]]
  exact said10 at_ id n s a b on v6 hi lo pk ps w hw n1 n2 n3 n4 n5 i1 i2 hs
 ·
  rw [show saidL ⟨11, at_, id, n, s, a, b, on, v6, hi, lo, pk, ps⟩ = [Lib.itoa n] by simp [saidL]]
  exact said11 at_ id n s a b on v6 hi lo pk ps w hw n1 n2 n3 n4 n5 i1 i2 hs
theorem cell_call {w w' : World} {ad : Addr} {v : Value} (h : w.cell? ad = some v) (hb : Below w.heap.size w w') : w'.cell? ad = some v := (hb.cell (block_lt_of_cell h)).trans h
section
variable {W : World} {ops : Array Oper} {o : Oper} {a : Act} {K : Act → World → Prop} {Q : Exit → Act → World → Prop} {E : Prop}
theorem step_app_strs (hgd : o.guard = none) (s x : Operand)
  (ho : o.op = .call { callee := .builtin .append, args := #[s, x], argTypes := #[58, 58] })
  (base : Nat) (A : Option Addr) (c : Nat) (l : List (List UInt8)) (n : Nat) (hn : l.length = n) (hs : a.eval s = .slice A n c) (hown : OwnS W base A c l) (g : Nat) (xs : List (List UInt8)) (m : Nat) (hm : xs.length = m) (hB : Blk W g 9 (strs xs))
  (hx : a.eval x = .slice (some ⟨g, 0, none⟩) m m) (hl : n + m ≤ 1000000) (hbase : base ≤ W.heap.size)
  (h : ∀ A' c' w', OwnS w' base A' c' (l ++ xs) → Pushed W w' A A' → K (a.put o.dst (.slice A' (n + m) c')) w') :
  if Region.wanted o (yielded ops a.tmps) = true then Oper.wp Tryz.prog o a W K Q else E := by
 subst hn hm
 obtain ⟨i0, hi0, hz0, hz1, hz2⟩ := info_parts info_str
 have hR : Reads W W.heap.size 1 (some ⟨g, 0, none⟩) xs.length (xs.flatMap scell) := by
  refine ⟨by rw [scell_flat]; simp, fun _ => ⟨_, rfl, hB.lt, fun j u hu => ?_⟩⟩
  have e : (⟨g, 0, none⟩ : Addr).add j = ⟨g, j, none⟩ := by unfold Addr.add; split <;> simp_all
  rw [e, hB.cell j]
  rw [scell_flat] at hu
  unfold strs
  simpa using hu
 refine step_append_sl _ hgd s x 58 ho base 9 i0 _ 1 16 Tryz.underlying58 hi0 hz0 hz1 hz2 rfl (by decide) (.slice A l.length c) l.length (l.flatMap scell) hs hown W.heap.size (some ⟨g, 0, none⟩) xs.length xs.length (xs.flatMap scell) hx hR (fun u hu => by
  obtain ⟨y, -, hy⟩ := List.mem_flatMap.1 hu
  exact scell_one y u hy) (by unfold maxLen; omega) (by omega) hbase ?_
 intro A' c' w' hown' hg' hat
 have hA : ∀ k, (Value.slice A l.length c).ownBlock = some k ↔ InB A k := hown.own_block
 have hO : OwnS w' base A' c' (l ++ xs) := by
  unfold OwnS OwnA
  rw [List.length_append, List.flatMap_append]
  exact hown'
 refine h A' c' w' hO ⟨?_, ?_⟩
 · exact (Chg.refl _ W).grown hg' (fun k hk _ => (hA k).1 hk)
 ·
  intro b hb
  have e1 : (Value.slice A' (l.length + xs.length) c').ownBlock = some b := by
   have := (hO.own_block b).2 hb
   simpa [Value.ownBlock] using this
  rcases hat with h2 | h2
  ·
   rw [h2] at e1
   exact .inl ((hA b).1 e1)
  ·
   rw [h2] at e1
   simp at e1
   exact .inr (by omega)
end
theorem own_join {w : World} {base : Nat} {A : Option Addr} {c : Nat} {xs : List (List UInt8)} (h : OwnS w base A c xs) (d : UInt8) (n : Nat) (hn : xs.length = n) (h0 : xs ≠ []) (hl : (Lib.join xs [d]).length ≤ 140737488355328 ∧ xs.length ≤ 1000000) :
  Calls Tryz.prog 20 #[.slice A n c, .string ⟨#[d]⟩] w fun e w' => e = .returned (.string ⟨(Lib.join xs [d]).toArray⟩) ∧ Below w.heap.size w w' := by
 subst hn
 obtain ⟨g, rfl, hc⟩ : ∃ g, A = some ⟨g, 0, none⟩ ∧ xs.length ≤ c := by
  rcases h.2 with ⟨h1, h2⟩ | ⟨g, cap, cur, h1, hg, hh, hr, hq⟩
  · exact absurd (List.length_eq_zero_iff.1 h2) h0
  ·
   simp only [Value.slice.injEq] at h1
   obtain ⟨rfl, -, rfl⟩ := h1
   exact ⟨g, rfl, hr⟩
 obtain ⟨ad, e, hb, hcell⟩ := h.reads.2 (by cases xs with | nil => exact absurd rfl h0 | cons _ _ => simp)
 cases e
 have hm : (xs.map fun p => ByteArray.mk p.toArray).map (·.data.toList) = xs := by
  rw [List.map_map]
  conv => rhs; rw [← List.map_id xs]
  rfl
 have J := Tryz.strings_Join g 0 c (xs.map fun p => ByteArray.mk p.toArray) ⟨#[d]⟩ w (fun j x hj => by
  have e : (⟨g, 0, none⟩ : Addr).add j = ⟨g, 0 + j, none⟩ := by unfold Addr.add; split <;> simp_all
  have := hcell j (.string x)
  rw [scell_flat, e] at this
  refine this ?_
  rw [List.getElem?_map] at hj ⊢
  cases hx : xs[j]? with
  | none => rw [hx] at hj; cases hj
  | some p => rw [hx] at hj; cases hj; rfl) hb (by rw [List.length_map]; omega) (by rw [List.length_map]; exact hc) (by rw [hm]; exact hl.1)
 rw [List.length_map, hm] at J
 exact J
set_option maxRecDepth 100000 in
set_option maxHeartbeats 16000000 in
theorem line_no (x : ActL) (w : World) (hr : rightL x = false) :
  Calls Tryz.prog 6 #[.agg #[.int .i64 x.k, .int .i64 x.at_, .int .i64 x.id, .int .i64 x.n, .string ⟨x.s.toArray⟩, .int .u64 ((x.a : Nat) : Int), .int .u64 ((x.b : Nat) : Int), .bool x.on, .bool x.v6, .int .u64 ((x.hi : Nat) : Int), .int .u64 ((x.lo : Nat) : Int), .int .i64 x.pk, .int .i64 x.ps]] w fun e w' => e = .returned (.tuple #[.string ⟨#[]⟩, .bool false]) ∧ Below w.heap.size w w' := by
 obtain ⟨w1, hw1⟩ : ∃ w1, w1 = w.alloc (.cells #[.int .i64 x.k, .int .i64 x.at_, .int .i64 x.id, .int .i64 x.n, .string ⟨x.s.toArray⟩, .int .u64 ((x.a : Nat) : Int), .int .u64 ((x.b : Nat) : Int), .bool x.on, .bool x.v6, .int .u64 ((x.hi : Nat) : Int), .int .u64 ((x.lo : Nat) : Int), .int .i64 x.pk, .int .i64 x.ps] 34) := ⟨_, rfl⟩
 have hb1 : Below w.heap.size w w1 := hw1 ▸ below_alloc (Below.refl _ _) _
 have h1 : Blk w1 w.heap.size 34 (actCs x) := by rw [hw1]; exact Blk.new w 34 _
 obtain ⟨c0, c1, c2, c3, c4, c5, c6, c7, c8, c9, c10, c11, c12⟩ := act13 h1
 have RT := scr_right x w1
 rw [hr] at RT
 replace RT := Lib.hid (show Calls Tryz.prog 11 #[.agg #[.int .i64 x.k, .int .i64 x.at_, .int .i64 x.id, .int .i64 x.n, .string ⟨x.s.toArray⟩, .int .u64 ((x.a : Nat) : Int), .int .u64 ((x.b : Nat) : Int), .bool x.on, .bool x.v6, .int .u64 ((x.hi : Nat) : Int), .int .u64 ((x.lo : Nat) : Int), .int .i64 x.pk, .int .i64 x.ps]] w1 _ from RT)
 clear h1 hr
 replace hb1 := Lib.hid hb1
 go_enter Tryz.func6, Tryz.ntmps6
 go_upto_region 1 with fail
 rw [← hw1]
 clear hw1
 go_wp2_with (go_at_call 11; (refine RT.out.mono ?_); rintro e w3 ⟨rfl, hb3⟩)
 go_ret2
 exact ⟨rfl, below_chain hb3 hb1.out⟩
set_option maxRecDepth 100000 in
set_option maxHeartbeats 16000000 in
theorem line_yes (k : Nat) (at_ id n : Int) (s : List UInt8) (a b : Nat) (on v6 : Bool) (hi lo : Nat) (pk ps : Int) (w : World) (hw : Std w) (hr : rightL (⟨(k : Int), at_, id, n, s, a, b, on, v6, hi, lo, pk, ps⟩ : ActL) = true) (hin : inL (⟨(k : Int), at_, id, n, s, a, b, on, v6, hi, lo, pk, ps⟩ : ActL)) (hs : s.length ≤ 1000000) (L : List UInt8) (hL : L = lineL (⟨(k : Int), at_, id, n, s, a, b, on, v6, hi, lo, pk, ps⟩ : ActL)) :
  Calls Tryz.prog 6 #[.agg #[.int .i64 (k : Nat), .int .i64 at_, .int .i64 id, .int .i64 n, .string ⟨s.toArray⟩, .int .u64 ((a : Nat) : Int), .int .u64 ((b : Nat) : Int), .bool on, .bool v6, .int .u64 ((hi : Nat) : Int), .int .u64 ((lo : Nat) : Int), .int .i64 pk, .int .i64 ps]] w fun e w' => e = .returned (.tuple #[.string ⟨L.toArray⟩, .bool true]) ∧ Below w.heap.size w w' := by
 obtain ⟨w1, hw1⟩ : ∃ w1, w1 = w.alloc (.cells #[.int .i64 (k : Nat), .int .i64 at_, .int .i64 id, .int .i64 n, .string ⟨s.toArray⟩, .int .u64 ((a : Nat) : Int), .int .u64 ((b : Nat) : Int), .bool on, .bool v6, .int .u64 ((hi : Nat) : Int), .int .u64 ((lo : Nat) : Int), .int .i64 pk, .int .i64 ps] 34) := ⟨_, rfl⟩
 have hb1 : Below w.heap.size w w1 := hw1 ▸ below_alloc (Below.refl _ _) _
 have h1 : Blk w1 w.heap.size 34 (actCs (⟨(k : Int), at_, id, n, s, a, b, on, v6, hi, lo, pk, ps⟩ : ActL)) := by rw [hw1]; exact Blk.new w 34 _
 have hS1 := hw.below hb1
 obtain ⟨c0, c1, c2, c3, c4, c5, c6, c7, c8, c9, c10, c11, c12⟩ := act13 h1
 have RT := scr_right (⟨(k : Int), at_, id, n, s, a, b, on, v6, hi, lo, pk, ps⟩ : ActL) w1
 rw [hr] at RT
 replace RT := Lib.hid (show Calls Tryz.prog 11 #[.agg #[.int .i64 (k : Nat), .int .i64 at_, .int .i64 id, .int .i64 n, .string ⟨s.toArray⟩, .int .u64 ((a : Nat) : Int), .int .u64 ((b : Nat) : Int), .bool on, .bool v6, .int .u64 ((hi : Nat) : Int), .int .u64 ((lo : Nat) : Int), .int .i64 pk, .int .i64 ps]] w1 _ from RT)
 have hk : k < 12 := by
  have := (right_k hr).2
  have h : (k : Int) ≤ 11 := this
  omega
 have hk12 : k < wordsL.length := hk
 have hki : (k : Int) < 12 := by omega
 have hk0 : (0 : Int) ≤ (k : Int) := by omega
 have WD := Lib.hid scr_words
 have SD := Lib.hid fun W (hb : Below w1.heap.size w1 W) => show Calls Tryz.prog 22 #[.agg #[.int .i64 (k : Nat), .int .i64 at_, .int .i64 id, .int .i64 n, .string ⟨s.toArray⟩, .int .u64 ((a : Nat) : Int), .int .u64 ((b : Nat) : Int), .bool on, .bool v6, .int .u64 ((hi : Nat) : Int), .int .u64 ((lo : Nat) : Int), .int .i64 pk, .int .i64 ps]] W _ from scr_said (⟨(k : Int), at_, id, n, s, a, b, on, v6, hi, lo, pk, ps⟩ : ActL) W (hS1.below hb) hr hin hs
 have hC := Lib.hid fun W (hb : Below w1.heap.size w1 W) => act13 (x := (⟨(k : Int), at_, id, n, s, a, b, on, v6, hi, lo, pk, ps⟩ : ActL)) (h1.call hb)
 obtain ⟨sl, sw⟩ := said_len hr hin
 have hll := line_len hr hin
 have hls : L = Lib.join (wordsL.getD k [] :: saidL (⟨(k : Int), at_, id, n, s, a, b, on, v6, hi, lo, pk, ps⟩ : ActL)) [32] := hL
 rw [← hL] at hll
 obtain ⟨ws, hws⟩ : ∃ ws, saidL (⟨(k : Int), at_, id, n, s, a, b, on, v6, hi, lo, pk, ps⟩ : ActL) = ws := ⟨_, rfl⟩
 rw [hws] at SD sl sw hls
 obtain ⟨wd, hwd⟩ : ∃ wd, wordsL.getD k [] = wd := ⟨_, rfl⟩
 rw [hwd] at hls
 obtain ⟨m, hm0⟩ : ∃ m, ws.length = m := ⟨_, rfl⟩
 rw [hm0] at SD
 have hwl := Lib.hid hm0
 have hm := Lib.hid (show 1 + m ≤ 1000000 by omega)
 have hJ := Lib.hid (show ([wd] ++ ws).length = 1 + m ∧ (Lib.join ([wd] ++ ws) [32]).length ≤ 140737488355328 ∧ ([wd] ++ ws).length ≤ 1000000 from ⟨by simp; omega, by show (Lib.join (wd :: ws) [32]).length ≤ _; rw [← hls]; have : ActL.s (⟨(k : Int), at_, id, n, s, a, b, on, v6, hi, lo, pk, ps⟩ : ActL) = s := rfl; rw [this] at hll; omega, by simp; omega⟩)
 have hls2 := Lib.hid (show L = Lib.join ([wd] ++ ws) [32] from hls)
 clear h1 hr hin hs hL hls hll sw sl hm0 hws hw hS1 hk
 replace hwd := Lib.hid hwd
 replace hb1 := Lib.hid hb1
 go_enter Tryz.func6, Tryz.ntmps6
 go_upto_region 1 with fail
 rw [← hw1]
 clear hw1
 go_upto_region 3 with (go_at_call 11; (refine RT.out.mono ?_); rintro e w3 ⟨rfl, hb3⟩)
 clear c0 c1 c2 c3 c4 c5 c6 c7 c8 c9 c10 c11 c12 RT
 have hbD : Below w1.heap.size w1 w3.drew := hb3.drew
 have hS0 := And.intro hbD (hC.out w3.drew hbD)
 refine wp_region_held_drew (S := fun W => Below w1.heap.size w1 W ∧ W.cell? ⟨w.heap.size, 0, none⟩ = some (.int .i64 (k : Nat)) ∧ W.cell? ⟨w.heap.size, 1, none⟩ = some (.int .i64 at_) ∧ W.cell? ⟨w.heap.size, 2, none⟩ = some (.int .i64 id) ∧ W.cell? ⟨w.heap.size, 3, none⟩ = some (.int .i64 n) ∧ W.cell? ⟨w.heap.size, 4, none⟩ = some (.string ⟨s.toArray⟩) ∧ W.cell? ⟨w.heap.size, 5, none⟩ = some (.int .u64 ((a : Nat) : Int)) ∧ W.cell? ⟨w.heap.size, 6, none⟩ = some (.int .u64 ((b : Nat) : Int)) ∧ W.cell? ⟨w.heap.size, 7, none⟩ = some (.bool on) ∧ W.cell? ⟨w.heap.size, 8, none⟩ = some (.bool v6) ∧ W.cell? ⟨w.heap.size, 9, none⟩ = some (.int .u64 ((hi : Nat) : Int)) ∧ W.cell? ⟨w.heap.size, 10, none⟩ = some (.int .u64 ((lo : Nat) : Int)) ∧ W.cell? ⟨w.heap.size, 11, none⟩ = some (.int .i64 pk) ∧ W.cell? ⟨w.heap.size, 12, none⟩ = some (.int .i64 ps)) (by kernel_rfl) hS0 (fun hHeld => ?_)
 generalize w3.drew = wd0 at *
 refine' tk 1 rfl rfl ?_ ?_; rotate_left; · ((intro w hSw; (try dsimp only at hSw); go_simp) <;> with_reducible rfl); try go_frame
 refine' tk 2 rfl rfl ?_ ?_; rotate_left; · ((intro w hSw; (try dsimp only at hSw); go_simp) <;> with_reducible rfl); try go_frame
 refine' tk 6 rfl rfl ?_ ?_; rotate_left; · ((intro w hSw; (try dsimp only at hSw); go_simp) <;> with_reducible rfl); try go_frame
 refine wpAnyH_ready (rs := [0]) (by kernel_rfl) (by simp) ?_
 refine consH rfl (fun K hK => ?_) AllReadyH.nil
 go_simp
 (go_at_call 21; (with_reducible refine (WD.out _).mono ?_))
 rintro e v2 ⟨rfl, hB2, hb2⟩
 have hbS2 := below_chain hb2 hHeld.1
 have c2 : v2.cell? ⟨wd0.heap.size, k, none⟩ = some (.string ⟨wd.toArray⟩) := by have hc := blk_str hB2 hk12; rw [hwd.out] at hc; exact hc
 refine hK.out _ _ ⟨hbS2, hC.out _ hbS2⟩ (fun hHeld2 => ?_)
 clear hK K
 try go_frame
 refine' tk 3 rfl rfl ?_ ?_; rotate_left; · ((intro w hSw; (try dsimp only at hSw); go_simp) <;> with_reducible rfl); try go_frame
 refine wpAnyH_ready (rs := [4, 7]) (by kernel_rfl) (by simp) ?_
 refine consH rfl (fun K hK => ?_) ?_
 ·
  go_simp
  refine hK.out _ _ hHeld2 (fun hHeld3 => ?_)
  clear hK K
  try go_frame
  refine wpAnyH_ready (rs := [5, 7]) (by kernel_rfl) (by simp) ?_
  refine consH rfl (fun K hK => ?_) ?_
  ·
   go_simp
   have hbA4 : Below v2.heap.size v2 (v2.alloc (.cells #[.string ⟨wd.toArray⟩] 9)) := below_alloc (Below.refl _ _) _
   have hO4 : OwnS (v2.alloc (.cells #[.string ⟨wd.toArray⟩] 9)) w1.heap.size (some ⟨v2.heap.size, 0, none⟩) 1 [wd] := own_lit v2 w1.heap.size 9 [.string ⟨wd.toArray⟩] hHeld3.1.size (by unfold maxLen; simp)
   have hbS4 := below_chain hbA4 hHeld3.1
   refine hK.out _ _ ⟨hbS4, hC.out _ hbS4⟩ (fun hHeld4 => ?_)
   clear hK K
   try go_frame
   generalize v2.alloc (.cells #[.string ⟨wd.toArray⟩] 9) = v4 at *
   refine wpAnyH_ready (rs := [7]) (by kernel_rfl) (by simp) ?_
   refine consH rfl (fun K hK => ?_) AllReadyH.nil
   go_simp
   (go_at_call 22; (with_reducible refine (SD.out _ hHeld4.1).mono ?_))
   rintro e v5 ⟨g5, rfl, hD5, hg5, hb5⟩
   have hbS5 := below_chain hb5 hHeld4.1
   have hO5 := OwnA.call hO4 hb5
   refine hK.out _ _ ⟨hbS5, hC.out _ hbS5⟩ (fun hHeld5 => ?_)
   clear hK K
   try go_frame
   refine wpAnyH_ready (rs := [8]) (by kernel_rfl) (by simp) ?_
   refine consH rfl (fun K hK => ?_) AllReadyH.nil
   refine step_app_strs rfl (.tmp 12) (.tmp 14) rfl w1.heap.size (some ⟨v2.heap.size, 0, none⟩) 1 [wd] 1 rfl rfl hO5 g5 ws m hwl.out hD5 rfl hm.out hHeld5.1.size ?_
   intro A6 p6 v6 hO6 hp6
   have hbS6 : Below w1.heap.size w1 v6 := hp6.below hHeld5.1 hHeld5.1.size (fun y hy => (OwnA.block hO5 hy).1)
   have J6 := own_join hO6 32 (1 + m) hJ.out.1 (by simp) hJ.out.2
   refine hK.out _ _ ⟨hbS6, hC.out _ hbS6⟩ (fun hHeld6 => ?_)
   clear hK K
   try go_frame
   refine wpAnyH_ready (rs := [9]) (by kernel_rfl) (by simp) ?_
   refine consH rfl (fun K hK => ?_) AllReadyH.nil
   go_simp
   (go_at_call 20; (with_reducible refine J6.mono ?_))
   rintro e v7 ⟨rfl, hb7⟩
   have hbS7 := below_chain hb7 hHeld6.1
   refine hK.out _ _ ⟨hbS7, hC.out _ hbS7⟩ (fun hHeld7 => ?_)
   clear hK K
   try go_frame
   refine' tk 10 rfl rfl ?_ ?_; rotate_left; · ((intro w hSw; (try dsimp only at hSw); go_simp) <;> with_reducible rfl); try go_frame
   refine' tk 11 rfl rfl ?_ ?_; rotate_left; · ((intro w hSw; (try dsimp only at hSw); go_simp) <;> with_reducible rfl); try go_frame
   refine wpAnyH_done (by kernel_rfl) ?_ _
   go_wp2_with fail
   go_ret2
   exact ⟨by rw [hls2.out]; rfl, below_chain hHeld7.1 hb1.out⟩
  refine consH rfl (fun K hK => ?_) AllReadyH.nil
  ·
   go_simp
   (go_at_call 22; (with_reducible refine (SD.out _ hHeld3.1).mono ?_))
   rintro e v8 ⟨g8, rfl, hD8, hg8, hb8⟩
   have hbS8 := below_chain hb8 hHeld3.1
   refine hK.out _ _ ⟨hbS8, hC.out _ hbS8⟩ (fun hHeld8 => ?_)
   clear hK K
   try go_frame
   refine wpAnyH_ready (rs := [5]) (by kernel_rfl) (by simp) ?_
   refine consH rfl (fun K hK => ?_) AllReadyH.nil
   go_simp
   have hbA9 : Below v8.heap.size v8 (v8.alloc (.cells #[.string ⟨wd.toArray⟩] 9)) := below_alloc (Below.refl _ _) _
   have hO9 : OwnS (v8.alloc (.cells #[.string ⟨wd.toArray⟩] 9)) w1.heap.size (some ⟨v8.heap.size, 0, none⟩) 1 [wd] := own_lit v8 w1.heap.size 9 [.string ⟨wd.toArray⟩] hHeld8.1.size (by unfold maxLen; simp)
   have hD9 := Blk.call hD8 hbA9
   have hbS9 := below_chain hbA9 hHeld8.1
   refine hK.out _ _ ⟨hbS9, hC.out _ hbS9⟩ (fun hHeld9 => ?_)
   clear hK K
   try go_frame
   generalize v8.alloc (.cells #[.string ⟨wd.toArray⟩] 9) = v9 at *
   refine wpAnyH_ready (rs := [8]) (by kernel_rfl) (by simp) ?_
   refine consH rfl (fun K hK => ?_) AllReadyH.nil
   refine step_app_strs rfl (.tmp 12) (.tmp 14) rfl w1.heap.size (some ⟨v8.heap.size, 0, none⟩) 1 [wd] 1 rfl rfl hO9 g8 ws m hwl.out hD9 rfl hm.out hHeld9.1.size ?_
   intro A10 p10 v10 hO10 hp10
   have hbS10 : Below w1.heap.size w1 v10 := hp10.below hHeld9.1 hHeld9.1.size (fun y hy => (OwnA.block hO9 hy).1)
   have J10 := own_join hO10 32 (1 + m) hJ.out.1 (by simp) hJ.out.2
   refine hK.out _ _ ⟨hbS10, hC.out _ hbS10⟩ (fun hHeld10 => ?_)
   clear hK K
   try go_frame
   refine wpAnyH_ready (rs := [9]) (by kernel_rfl) (by simp) ?_
   refine consH rfl (fun K hK => ?_) AllReadyH.nil
   go_simp
   (go_at_call 20; (with_reducible refine J10.mono ?_))
   rintro e v11 ⟨rfl, hb11⟩
   have hbS11 := below_chain hb11 hHeld10.1
   refine hK.out _ _ ⟨hbS11, hC.out _ hbS11⟩ (fun hHeld11 => ?_)
   clear hK K
   try go_frame
   refine' tk 10 rfl rfl ?_ ?_; rotate_left; · ((intro w hSw; (try dsimp only at hSw); go_simp) <;> with_reducible rfl); try go_frame
   refine' tk 11 rfl rfl ?_ ?_; rotate_left; · ((intro w hSw; (try dsimp only at hSw); go_simp) <;> with_reducible rfl); try go_frame
   refine wpAnyH_done (by kernel_rfl) ?_ _
   go_wp2_with fail
   go_ret2
   exact ⟨by rw [hls2.out]; rfl, below_chain hHeld11.1 hb1.out⟩
 refine consH rfl (fun K hK => ?_) AllReadyH.nil
 ·
  go_simp
  (go_at_call 22; (with_reducible refine (SD.out _ hHeld2.1).mono ?_))
  rintro e v12 ⟨g12, rfl, hD12, hg12, hb12⟩
  have hbS12 := below_chain hb12 hHeld2.1
  have c12 := cell_call c2 hb12
  refine hK.out _ _ ⟨hbS12, hC.out _ hbS12⟩ (fun hHeld12 => ?_)
  clear hK K
  try go_frame
  refine wpAnyH_ready (rs := [4]) (by kernel_rfl) (by simp) ?_
  refine consH rfl (fun K hK => ?_) AllReadyH.nil
  go_simp
  refine hK.out _ _ hHeld12 (fun hHeld13 => ?_)
  clear hK K
  try go_frame
  refine wpAnyH_ready (rs := [5]) (by kernel_rfl) (by simp) ?_
  refine consH rfl (fun K hK => ?_) AllReadyH.nil
  go_simp
  have hbA14 : Below v12.heap.size v12 (v12.alloc (.cells #[.string ⟨wd.toArray⟩] 9)) := below_alloc (Below.refl _ _) _
  have hO14 : OwnS (v12.alloc (.cells #[.string ⟨wd.toArray⟩] 9)) w1.heap.size (some ⟨v12.heap.size, 0, none⟩) 1 [wd] := own_lit v12 w1.heap.size 9 [.string ⟨wd.toArray⟩] hHeld13.1.size (by unfold maxLen; simp)
  have hD14 := Blk.call hD12 hbA14
  have hbS14 := below_chain hbA14 hHeld13.1
  refine hK.out _ _ ⟨hbS14, hC.out _ hbS14⟩ (fun hHeld14 => ?_)
  clear hK K
  try go_frame
  generalize v12.alloc (.cells #[.string ⟨wd.toArray⟩] 9) = v14 at *
  refine wpAnyH_ready (rs := [8]) (by kernel_rfl) (by simp) ?_
  refine consH rfl (fun K hK => ?_) AllReadyH.nil
  refine step_app_strs rfl (.tmp 12) (.tmp 14) rfl w1.heap.size (some ⟨v12.heap.size, 0, none⟩) 1 [wd] 1 rfl rfl hO14 g12 ws m hwl.out hD14 rfl hm.out hHeld14.1.size ?_
  intro A15 p15 v15 hO15 hp15
  have hbS15 : Below w1.heap.size w1 v15 := hp15.below hHeld14.1 hHeld14.1.size (fun y hy => (OwnA.block hO14 hy).1)
  have J15 := own_join hO15 32 (1 + m) hJ.out.1 (by simp) hJ.out.2
  refine hK.out _ _ ⟨hbS15, hC.out _ hbS15⟩ (fun hHeld15 => ?_)
  clear hK K
  try go_frame
  refine wpAnyH_ready (rs := [9]) (by kernel_rfl) (by simp) ?_
  refine consH rfl (fun K hK => ?_) AllReadyH.nil
  go_simp
  (go_at_call 20; (with_reducible refine J15.mono ?_))
  rintro e v16 ⟨rfl, hb16⟩
  have hbS16 := below_chain hb16 hHeld15.1
  refine hK.out _ _ ⟨hbS16, hC.out _ hbS16⟩ (fun hHeld16 => ?_)
  clear hK K
  try go_frame
  refine' tk 10 rfl rfl ?_ ?_; rotate_left; · ((intro w hSw; (try dsimp only at hSw); go_simp) <;> with_reducible rfl); try go_frame
  refine' tk 11 rfl rfl ?_ ?_; rotate_left; · ((intro w hSw; (try dsimp only at hSw); go_simp) <;> with_reducible rfl); try go_frame
  refine wpAnyH_done (by kernel_rfl) ?_ _
  go_wp2_with fail
  go_ret2
  exact ⟨by rw [hls2.out]; rfl, below_chain hHeld16.1 hb1.out⟩
theorem scr_line (x : ActL) (w : World) (hw : Std w) (hin : inL x) (hs : x.s.length ≤ 1000000) :
  Calls Tryz.prog 6 #[.agg (actCs x)] w fun e w' => e = .returned (.tuple #[.string ⟨(if rightL x then lineL x else []).toArray⟩, .bool (rightL x)]) ∧ Below w.heap.size w w' := by
 cases hr : rightL x with
 | false => exact line_no x w hr
 | true =>
  obtain ⟨k0, k11⟩ := right_k hr
  obtain ⟨k, at_, id, n, s, a, b, on, v6, hi, lo, pk, ps⟩ := x
  obtain ⟨k, rfl⟩ := Int.eq_ofNat_of_zero_le k0
  exact line_yes k at_ id n s a b on v6 hi lo pk ps w hw hr hin hs _ rfl
end Go.Proofs.YtodbgjnccngljaaGreatDoor
