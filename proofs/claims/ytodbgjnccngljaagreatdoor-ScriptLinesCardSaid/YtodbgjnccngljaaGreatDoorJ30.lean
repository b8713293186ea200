/- The document's Line at more kinds. The document's Line. -/
import Derived.Test.YtodbgjnccngljaaGreatDoorJ29
namespace Go.Proofs.YtodbgjnccngljaaGreatDoor
open Go Go.RowKit Go.Deep
set_option maxRecDepth 100000 in
set_option maxHeartbeats 32000000 in
theorem rline7 (at_ id n : Int) (s : List UInt8) (a b : Nat) (on v6 : Bool) (hi lo : Nat) (pk ps : Int) (w : World) (hr : rightL (⟨7, at_, id, n, s, a, b, on, v6, hi, lo, pk, ps⟩ : ActL) = true) (hin : inL (⟨7, at_, id, n, s, a, b, on, v6, hi, lo, pk, ps⟩ : ActL)) (_hs : s.length ≤ 1000000) (L : List UInt8) (hL : L = lineL (⟨7, at_, id, n, s, a, b, on, v6, hi, lo, pk, ps⟩ : ActL)) :
  Calls Tryz.prog 8 #[.agg #[.int .i64 7, .int .i64 at_, .int .i64 id, .int .i64 n, .string ⟨s.toArray⟩, .int .u64 ((a : Nat) : Int), .int .u64 ((b : Nat) : Int), .bool on, .bool v6, .int .u64 ((hi : Nat) : Int), .int .u64 ((lo : Nat) : Int), .int .i64 pk, .int .i64 ps]] w fun e w' => e = .returned (.tuple #[.string ⟨L.toArray⟩, .bool true]) ∧ Below w.heap.size w w' := by
 obtain ⟨w1, hw1⟩ : ∃ w1, w1 = w.alloc (.cells #[.int .i64 7, .int .i64 at_, .int .i64 id, .int .i64 n, .string ⟨s.toArray⟩, .int .u64 ((a : Nat) : Int), .int .u64 ((b : Nat) : Int), .bool on, .bool v6, .int .u64 ((hi : Nat) : Int), .int .u64 ((lo : Nat) : Int), .int .i64 pk, .int .i64 ps] 28) := ⟨_, rfl⟩
 have hb1 : Below w.heap.size w w1 := hw1 ▸ below_alloc (Below.refl _ _) _
 have h1 : Blk w1 w.heap.size 28 (actCs (⟨7, at_, id, n, s, a, b, on, v6, hi, lo, pk, ps⟩ : ActL)) := by rw [hw1]; exact Blk.new w 28 _
 obtain ⟨c0, c1, c2, c3, c4, c5, c6, c7, c8, c9, c10, c11, c12⟩ := act13 h1
 have RT := rs_right (⟨7, at_, id, n, s, a, b, on, v6, hi, lo, pk, ps⟩ : ActL) w1
 rw [hr] at RT
 replace RT := Lib.hid (show Calls Tryz.prog 12 #[.agg #[.int .i64 7, .int .i64 at_, .int .i64 id, .int .i64 n, .string ⟨s.toArray⟩, .int .u64 ((a : Nat) : Int), .int .u64 ((b : Nat) : Int), .bool on, .bool v6, .int .u64 ((hi : Nat) : Int), .int .u64 ((lo : Nat) : Int), .int .i64 pk, .int .i64 ps]] w1 _ from RT)
 have WD := Lib.hid rs_words
 have hC := Lib.hid fun W (hb : Below w1.heap.size w1 W) => act13 (x := (⟨7, at_, id, n, s, a, b, on, v6, hi, lo, pk, ps⟩ : ActL)) (h1.call hb)
 obtain ⟨h_at_, h_id, h_n, h_pk, h_ps⟩ := right_num hr
 obtain ⟨h_a, h_b, h_hi, h_lo⟩ := hin
 simp only at h_at_ h_id h_n h_pk h_ps h_a h_b h_hi h_lo
 have hLj : L = Lib.join (wordsL.getD 7 [] :: [Lib.itoa pk, Lib.itoa ps]) [32] := hL
 obtain ⟨wd, hwd⟩ : ∃ wd, wordsL.getD 7 [] = wd := ⟨_, rfl⟩
 have lw : wd.length ≤ 6 := by rw [← hwd]; exact word_len_fin 7
 rw [hwd] at hLj
 have N0 := fun W => ref_digits pk W (by have := numOk_iff.1 h_pk; omega) (by have := numOk_iff.1 h_pk; omega)
 have l0 := itoa_len h_pk
 have N1 := fun W => ref_digits ps W (by have := numOk_iff.1 h_ps; omega) (by have := numOk_iff.1 h_ps; omega)
 have l1 := itoa_len h_ps
 generalize hA0 : Lib.itoa pk = A0 at N0 l0 hLj
 replace N0 := Lib.hid N0
 replace hA0 := Lib.hid hA0
 generalize hA1 : Lib.itoa ps = A1 at N1 l1 hLj
 replace N1 := Lib.hid N1
 replace hA1 := Lib.hid hA1
 obtain ⟨p1, e1, k1, s1, q1⟩ := catS wd (by omega)
 obtain ⟨p2, e2, k2, s2, q2⟩ := catA p1 A0 (by omega) (by omega)
 obtain ⟨p3, e3, k3, s3, q3⟩ := catS p2 (by omega)
 obtain ⟨p4, e4, k4, s4, q4⟩ := catA p3 A1 (by omega) (by omega)
 have hLp : L = p4 := by
  rw [hLj, ← e4, ← e3, ← e2, ← e1]
  simp [join_cons2, Lib.join_one]
 subst hLp
 clear h1 hr _hs hL hLj e1 q1 e2 q2 e3 q3 e4 q4 l0 l1 lw h_at_ h_id h_n h_pk h_ps h_a h_b h_hi h_lo
 replace hwd := Lib.hid hwd
 replace hb1 := Lib.hid hb1
 go_enter Tryz.func8, Tryz.ntmps8
 go_upto_region 1 with fail
 rw [← hw1]
 clear hw1
 go_upto_region 3 with (go_at_call 12; (refine RT.out.mono ?_); rintro e w3 ⟨rfl, hb3⟩)
 clear c0 c1 c2 c3 c4 c5 c6 c7 c8 c9 c10 c11 c12 RT
 have hbD : Below w1.heap.size w1 w3.drew := hb3.drew
 refine wp_region_held_drew (S := fun W => Below w1.heap.size w1 W ∧ W.cell? ⟨w.heap.size, 0, none⟩ = some (.int .i64 7) ∧ W.cell? ⟨w.heap.size, 1, none⟩ = some (.int .i64 at_) ∧ W.cell? ⟨w.heap.size, 2, none⟩ = some (.int .i64 id) ∧ W.cell? ⟨w.heap.size, 3, none⟩ = some (.int .i64 n) ∧ W.cell? ⟨w.heap.size, 4, none⟩ = some (.string ⟨s.toArray⟩) ∧ W.cell? ⟨w.heap.size, 5, none⟩ = some (.int .u64 ((a : Nat) : Int)) ∧ W.cell? ⟨w.heap.size, 6, none⟩ = some (.int .u64 ((b : Nat) : Int)) ∧ W.cell? ⟨w.heap.size, 7, none⟩ = some (.bool on) ∧ W.cell? ⟨w.heap.size, 8, none⟩ = some (.bool v6) ∧ W.cell? ⟨w.heap.size, 9, none⟩ = some (.int .u64 ((hi : Nat) : Int)) ∧ W.cell? ⟨w.heap.size, 10, none⟩ = some (.int .u64 ((lo : Nat) : Int)) ∧ W.cell? ⟨w.heap.size, 11, none⟩ = some (.int .i64 pk) ∧ W.cell? ⟨w.heap.size, 12, none⟩ = some (.int .i64 ps)) (by kernel_rfl) ⟨hbD, hC.out w3.drew hbD⟩ (fun hHeld => ?_)
 generalize w3.drew = wd0 at *
 refine' tk 1 rfl rfl ?_ ?_; rotate_left; · ((intro w hSw; (try dsimp only at hSw); go_simp) <;> with_reducible rfl); try go_frame
 refine' tk 2 rfl rfl ?_ ?_; rotate_left; · ((intro w hSw; (try dsimp only at hSw); go_simp) <;> with_reducible rfl); try go_frame
 refine wpAnyH_ready (rs := [0]) (by kernel_rfl) (by simp) ?_; refine consH rfl (fun K hK => ?_) AllReadyH.nil
 go_simp
 (go_at_call 23; (with_reducible refine (WD.out _).mono ?_))
 rintro e w4 ⟨rfl, hB4, hb4⟩
 have hbS4 := below_chain hb4 hHeld.1
 have cW : w4.cell? ⟨wd0.heap.size, 7, none⟩ = some (.string ⟨wd.toArray⟩) := by have hc := blk_str hB4 (j := 7) (by decide); rw [hwd.out] at hc; exact hc
 refine hK.out _ _ ⟨hbS4, hC.out _ hbS4⟩ (fun hHeld4 => ?_)
 clear hK K
 try go_frame
 refine' tk 3 rfl rfl ?_ ?_; rotate_left; · ((intro w hSw; (try dsimp only at hSw); go_simp) <;> with_reducible rfl); try go_frame
 refine wpAnyH_ready (rs := [4]) (by kernel_rfl) (by simp) ?_; refine consH rfl (fun K hK => ?_) AllReadyH.nil
 go_simp
 refine hK.out _ _ hHeld4 (fun hHeld5 => ?_)
 clear hK K
 try go_frame
 refine' tk 5 rfl rfl ?_ ?_; rotate_left; · ((intro w hSw; (try dsimp only at hSw); go_simp) <;> with_reducible rfl); try go_frame
 refine wpAnyH_done (by kernel_rfl) ?_ _
 clear cW hB4
 obtain ⟨hbW, c0, c1, c2, c3, c4, c5, c6, c7, c8, c9, c10, c11, c12⟩ := hHeld5
 clear hHeld hHeld4 hb4 hbS4 hbD hb3
 go_upto_region 19 with fail
 clear c0 c1 c2 c3 c4 c5 c6 c7 c8 c9 c10 c11 c12
 have hbD := hbW.drew
 refine wp_region_held_drew (S := fun W => Below w1.heap.size w1 W ∧ W.cell? ⟨w.heap.size, 0, none⟩ = some (.int .i64 7) ∧ W.cell? ⟨w.heap.size, 1, none⟩ = some (.int .i64 at_) ∧ W.cell? ⟨w.heap.size, 2, none⟩ = some (.int .i64 id) ∧ W.cell? ⟨w.heap.size, 3, none⟩ = some (.int .i64 n) ∧ W.cell? ⟨w.heap.size, 4, none⟩ = some (.string ⟨s.toArray⟩) ∧ W.cell? ⟨w.heap.size, 5, none⟩ = some (.int .u64 ((a : Nat) : Int)) ∧ W.cell? ⟨w.heap.size, 6, none⟩ = some (.int .u64 ((b : Nat) : Int)) ∧ W.cell? ⟨w.heap.size, 7, none⟩ = some (.bool on) ∧ W.cell? ⟨w.heap.size, 8, none⟩ = some (.bool v6) ∧ W.cell? ⟨w.heap.size, 9, none⟩ = some (.int .u64 ((hi : Nat) : Int)) ∧ W.cell? ⟨w.heap.size, 10, none⟩ = some (.int .u64 ((lo : Nat) : Int)) ∧ W.cell? ⟨w.heap.size, 11, none⟩ = some (.int .i64 pk) ∧ W.cell? ⟨w.heap.size, 12, none⟩ = some (.int .i64 ps)) (by kernel_rfl) ⟨hbD, hC.out w4.drew hbD⟩ (fun hH => ?_)
 generalize w4.drew = wd1 at *
 refine' tk 0 rfl rfl ?_ ?_; rotate_left; · ((intro w hSw; (try dsimp only at hSw); go_simp) <;> with_reducible rfl); try go_frame
 refine' tk 1 rfl rfl ?_ ?_; rotate_left; · ((intro w hSw; (try dsimp only at hSw); go_simp) <;> with_reducible rfl); try go_frame
 refine' tk 2 rfl rfl ?_ ?_; rotate_left; · ((intro w hSw; (try dsimp only at hSw); go_simp) <;> with_reducible rfl); try go_frame
 refine' tk 3 rfl rfl ?_ ?_; rotate_left; · ((intro w hSw; (try dsimp only at hSw); go_simp) <;> with_reducible rfl); try go_frame
 refine' tk 4 rfl rfl ?_ ?_; rotate_left; · ((intro w hSw; (try dsimp only at hSw); go_simp) <;> with_reducible rfl); try go_frame
 refine' tk 8 rfl rfl ?_ ?_; rotate_left; · ((intro w hSw; (try dsimp only at hSw); go_simp) <;> with_reducible rfl); try go_frame
 refine' tk 9 rfl rfl ?_ ?_; rotate_left; · ((intro w hSw; (try dsimp only at hSw); go_simp) <;> with_reducible rfl); try go_frame
 refine' tk 10 rfl rfl ?_ ?_; rotate_left; · ((intro w hSw; (try dsimp only at hSw); go_simp) <;> with_reducible rfl); try go_frame
 refine wpAnyH_ready (rs := [5]) (by kernel_rfl) (by simp) ?_; refine consH rfl (fun K hK => ?_) AllReadyH.nil
 go_simp
 (go_at_call 24; (with_reducible refine (N0.out _).mono ?_))
 rintro e v0 ⟨rfl, hbv0⟩
 have hbS0 := below_chain hbv0 hH.1
 refine hK.out _ _ ⟨hbS0, hC.out _ hbS0⟩ (fun hH0 => ?_)
 clear hK K
 try go_frame
 refine' tk 6 rfl rfl ?_ ?_; rotate_left; · ((intro w hSw; (try dsimp only at hSw); go_simp) <;> with_reducible rfl); try go_frame
 refine' tk 7 rfl rfl ?_ ?_; rotate_left; · ((intro w hSw; (try dsimp only at hSw); go_simp) <;> with_reducible rfl); try go_frame
 refine wpAnyH_ready (rs := [11]) (by kernel_rfl) (by simp) ?_; refine consH rfl (fun K hK => ?_) AllReadyH.nil
 go_simp
 (go_at_call 24; (with_reducible refine (N1.out _).mono ?_))
 rintro e v1 ⟨rfl, hbv1⟩
 have hbS1 := below_chain hbv1 hH0.1
 refine hK.out _ _ ⟨hbS1, hC.out _ hbS1⟩ (fun hH1 => ?_)
 clear hK K
 try go_frame
 refine' tk 12 rfl rfl ?_ ?_; rotate_left; · ((intro w hSw; (try dsimp only at hSw); go_simp) <;> with_reducible rfl); try go_frame
 refine' tk 13 rfl rfl ?_ ?_; rotate_left; · ((intro w hSw; (try dsimp only at hSw); go_simp) <;> with_reducible rfl); try go_frame
 refine wpAnyH_done (by kernel_rfl) ?_ _
 go_wp2_with fail
 go_ret2
 exact ⟨rfl, below_chain hH1.1 hb1.out⟩
set_option maxRecDepth 100000 in
set_option maxHeartbeats 32000000 in
theorem rline8 (at_ id n : Int) (s : List UInt8) (a b : Nat) (on v6 : Bool) (hi lo : Nat) (pk ps : Int) (w : World) (hr : rightL (⟨8, at_, id, n, s, a, b, on, v6, hi, lo, pk, ps⟩ : ActL) = true) (hin : inL (⟨8, at_, id, n, s, a, b, on, v6, hi, lo, pk, ps⟩ : ActL)) (_hs : s.length ≤ 1000000) (L : List UInt8) (hL : L = lineL (⟨8, at_, id, n, s, a, b, on, v6, hi, lo, pk, ps⟩ : ActL)) :
  Calls Tryz.prog 8 #[.agg #[.int .i64 8, .int .i64 at_, .int .i64 id, .int .i64 n, .string ⟨s.toArray⟩, .int .u64 ((a : Nat) : Int), .int .u64 ((b : Nat) : Int), .bool on, .bool v6, .int .u64 ((hi : Nat) : Int), .int .u64 ((lo : Nat) : Int), .int .i64 pk, .int .i64 ps]] w fun e w' => e = .returned (.tuple #[.string ⟨L.toArray⟩, .bool true]) ∧ Below w.heap.size w w' := by
 obtain ⟨w1, hw1⟩ : ∃ w1, w1 = w.alloc (.cells #[.int .i64 8, .int .i64 at_, .int .i64 id, .int .i64 n, .string ⟨s.toArray⟩, .int .u64 ((a : Nat) : Int), .int .u64 ((b : Nat) : Int), .bool on, .bool v6, .int .u64 ((hi : Nat) : Int), .int .u64 ((lo : Nat) : Int), .int .i64 pk, .int .i64 ps] 28) := ⟨_, rfl⟩
 have hb1 : Below w.heap.size w w1 := hw1 ▸ below_alloc (Below.refl _ _) _
 have h1 : Blk w1 w.heap.size 28 (actCs (⟨8, at_, id, n, s, a, b, on, v6, hi, lo, pk, ps⟩ : ActL)) := by rw [hw1]; exact Blk.new w 28 _
 obtain ⟨c0, c1, c2, c3, c4, c5, c6, c7, c8, c9, c10, c11, c12⟩ := act13 h1
 have RT := rs_right (⟨8, at_, id, n, s, a, b, on, v6, hi, lo, pk, ps⟩ : ActL) w1
 rw [hr] at RT
 replace RT := Lib.hid (show Calls Tryz.prog 12 #[.agg #[.int .i64 8, .int .i64 at_, .int .i64 id, .int .i64 n, .string ⟨s.toArray⟩, .int .u64 ((a : Nat) : Int), .int .u64 ((b : Nat) : Int), .bool on, .bool v6, .int .u64 ((hi : Nat) : Int), .int .u64 ((lo : Nat) : Int), .int .i64 pk, .int .i64 ps]] w1 _ from RT)
 have WD := Lib.hid rs_words
 have hC := Lib.hid fun W (hb : Below w1.heap.size w1 W) => act13 (x := (⟨8, at_, id, n, s, a, b, on, v6, hi, lo, pk, ps⟩ : ActL)) (h1.call hb)
 obtain ⟨h_at_, h_id, h_n, h_pk, h_ps⟩ := right_num hr
 obtain ⟨h_a, h_b, h_hi, h_lo⟩ := hin
 simp only at h_at_ h_id h_n h_pk h_ps h_a h_b h_hi h_lo
 have hLj : L = Lib.join (wordsL.getD 8 [] :: [onL on]) [32] := hL
 obtain ⟨wd, hwd⟩ : ∃ wd, wordsL.getD 8 [] = wd := ⟨_, rfl⟩
 have lw : wd.length ≤ 6 := by rw [← hwd]; exact word_len_fin 8
 rw [hwd] at hLj
 have N0 := fun W => rs_on on W
 have l0 := on_len on
 generalize hA0 : onL on = A0 at N0 l0 hLj
 replace N0 := Lib.hid N0
 replace hA0 := Lib.hid hA0
 obtain ⟨p1, e1, k1, s1, q1⟩ := catS wd (by omega)
 obtain ⟨p2, e2, k2, s2, q2⟩ := catA p1 A0 (by omega) (by omega)
 have hLp : L = p2 := by
  rw [hLj, ← e2, ← e1]
  simp [join_cons2, Lib.join_one]
 subst hLp
 clear h1 hr _hs hL hLj e1 q1 e2 q2 l0 lw h_at_ h_id h_n h_pk h_ps h_a h_b h_hi h_lo
 replace hwd := Lib.hid hwd
 replace hb1 := Lib.hid hb1
 go_enter Tryz.func8, Tryz.ntmps8
 go_upto_region 1 with fail
 rw [← hw1]
 clear hw1
 go_upto_region 3 with (go_at_call 12; (refine RT.out.mono ?_); rintro e w3 ⟨rfl, hb3⟩)
 clear c0 c1 c2 c3 c4 c5 c6 c7 c8 c9 c10 c11 c12 RT
 have hbD : Below w1.heap.size w1 w3.drew := hb3.drew
 refine wp_region_held_drew (S := fun W => Below w1.heap.size w1 W ∧ W.cell? ⟨w.heap.size, 0, none⟩ = some (.int .i64 8) ∧ W.cell? ⟨w.heap.size, 1, none⟩ = some (.int .i64 at_) ∧ W.cell? ⟨w.heap.size, 2, none⟩ = some (.int .i64 id) ∧ W.cell? ⟨w.heap.size, 3, none⟩ = some (.int .i64 n) ∧ W.cell? ⟨w.heap.size, 4, none⟩ = some (.string ⟨s.toArray⟩) ∧ W.cell? ⟨w.heap.size, 5, none⟩ = some (.int .u64 ((a : Nat) : Int)) ∧ W.cell? ⟨w.heap.size, 6, none⟩ = some (.int .u64 ((b : Nat) : Int)) ∧ W.cell? ⟨w.heap.size, 7, none⟩ = some (.bool on) ∧ W.cell? ⟨w.heap.size, 8, none⟩ = some (.bool v6) ∧ W.cell? ⟨w.heap.size, 9, none⟩ = some (.int .u64 ((hi : Nat) : Int)) ∧ W.cell? ⟨w.heap.size, 10, none⟩ = some (.int .u64 ((lo : Nat) : Int)) ∧ W.cell? ⟨w.heap.size, 11, none⟩ = some (.int .i64 pk) ∧ W.cell? ⟨w.heap.size, 12, none⟩ = some (.int .i64 ps)) (by kernel_rfl) ⟨hbD, hC.out w3.drew hbD⟩ (fun hHeld => ?_)
 generalize w3.drew = wd0 at *
 refine' tk 1 rfl rfl ?_ ?_; rotate_left; · ((intro w hSw; (try dsimp only at hSw); go_simp) <;> with_reducible rfl); try go_frame
 refine' tk 2 rfl rfl ?_ ?_; rotate_left; · ((intro w hSw; (try dsimp only at hSw); go_simp) <;> with_reducible rfl); try go_frame
 refine wpAnyH_ready (rs := [0]) (by kernel_rfl) (by simp) ?_; refine consH rfl (fun K hK => ?_) AllReadyH.nil
 go_simp
 (go_at_call 23; (with_reducible refine (WD.out _).mono ?_))
 rintro e w4 ⟨rfl, hB4, hb4⟩
 have hbS4 := below_chain hb4 hHeld.1
 have cW : w4.cell? ⟨wd0.heap.size, 8, none⟩ = some (.string ⟨wd.toArray⟩) := by have hc := blk_str hB4 (j := 8) (by decide); rw [hwd.out] at hc; exact hc
 refine hK.out _ _ ⟨hbS4, hC.out _ hbS4⟩ (fun hHeld4 => ?_)
 clear hK K
 try go_frame
 refine' tk 3 rfl rfl ?_ ?_; rotate_left; · ((intro w hSw; (try dsimp only at hSw); go_simp) <;> with_reducible rfl); try go_frame
 refine wpAnyH_ready (rs := [4]) (by kernel_rfl) (by simp) ?_; refine consH rfl (fun K hK => ?_) AllReadyH.nil
 go_simp
 refine hK.out _ _ hHeld4 (fun hHeld5 => ?_)
 clear hK K
 try go_frame
 refine' tk 5 rfl rfl ?_ ?_; rotate_left; · ((intro w hSw; (try dsimp only at hSw); go_simp) <;> with_reducible rfl); try go_frame
 refine wpAnyH_done (by kernel_rfl) ?_ _
 clear cW hB4
 obtain ⟨hbW, c0, c1, c2, c3, c4, c5, c6, c7, c8, c9, c10, c11, c12⟩ := hHeld5
 clear hHeld hHeld4 hb4 hbS4 hbD hb3
 go_wp2_with (go_at_call 28; (with_reducible refine (N0.out _).mono ?_); rintro e w6 ⟨rfl, rfl⟩)
 go_ret2
 exact ⟨rfl, below_chain hbW hb1.out⟩
set_option maxRecDepth 100000 in
set_option maxHeartbeats 32000000 in
theorem rline9 (at_ id n : Int) (s : List UInt8) (a b : Nat) (on v6 : Bool) (hi lo : Nat) (pk ps : Int) (w : World) (hr : rightL (⟨9, at_, id, n, s, a, b, on, v6, hi, lo, pk, ps⟩ : ActL) = true) (hin : inL (⟨9, at_, id, n, s, a, b, on, v6, hi, lo, pk, ps⟩ : ActL)) (_hs : s.length ≤ 1000000) (L : List UInt8) (hL : L = lineL (⟨9, at_, id, n, s, a, b, on, v6, hi, lo, pk, ps⟩ : ActL)) :
  Calls Tryz.prog 8 #[.agg #[.int .i64 9, .int .i64 at_, .int .i64 id, .int .i64 n, .string ⟨s.toArray⟩, .int .u64 ((a : Nat) : Int), .int .u64 ((b : Nat) : Int), .bool on, .bool v6, .int .u64 ((hi : Nat) : Int), .int .u64 ((lo : Nat) : Int), .int .i64 pk, .int .i64 ps]] w fun e w' => e = .returned (.tuple #[.string ⟨L.toArray⟩, .bool true]) ∧ Below w.heap.size w w' := by
 obtain ⟨w1, hw1⟩ : ∃ w1, w1 = w.alloc (.cells #[.int .i64 9, .int .i64 at_, .int .i64 id, .int .i64 n, .string ⟨s.toArray⟩, .int .u64 ((a : Nat) : Int), .int .u64 ((b : Nat) : Int), .bool on, .bool v6, .int .u64 ((hi : Nat) : Int), .int .u64 ((lo : Nat) : Int), .int .i64 pk, .int .i64 ps] 28) := ⟨_, rfl⟩
 have hb1 : Below w.heap.size w w1 := hw1 ▸ below_alloc (Below.refl _ _) _
 have h1 : Blk w1 w.heap.size 28 (actCs (⟨9, at_, id, n, s, a, b, on, v6, hi, lo, pk, ps⟩ : ActL)) := by rw [hw1]; exact Blk.new w 28 _
 obtain ⟨c0, c1, c2, c3, c4, c5, c6, c7, c8, c9, c10, c11, c12⟩ := act13 h1
 have RT := rs_right (⟨9, at_, id, n, s, a, b, on, v6, hi, lo, pk, ps⟩ : ActL) w1
 rw [hr] at RT
 replace RT := Lib.hid (show Calls Tryz.prog 12 #[.agg #[.int .i64 9, .int .i64 at_, .int .i64 id, .int .i64 n, .string ⟨s.toArray⟩, .int .u64 ((a : Nat) : Int), .int .u64 ((b : Nat) : Int), .bool on, .bool v6, .int .u64 ((hi : Nat) : Int), .int .u64 ((lo : Nat) : Int), .int .i64 pk, .int .i64 ps]] w1 _ from RT)
 have WD := Lib.hid rs_words
 have hC := Lib.hid fun W (hb : Below w1.heap.size w1 W) => act13 (x := (⟨9, at_, id, n, s, a, b, on, v6, hi, lo, pk, ps⟩ : ActL)) (h1.call hb)
 obtain ⟨h_at_, h_id, h_n, h_pk, h_ps⟩ := right_num hr
 obtain ⟨h_a, h_b, h_hi, h_lo⟩ := hin
 simp only at h_at_ h_id h_n h_pk h_ps h_a h_b h_hi h_lo
 have hLj : L = Lib.join (wordsL.getD 9 [] :: [Lib.itoa at_]) [32] := hL
 obtain ⟨wd, hwd⟩ : ∃ wd, wordsL.getD 9 [] = wd := ⟨_, rfl⟩
 have lw : wd.length ≤ 6 := by rw [← hwd]; exact word_len_fin 9
 rw [hwd] at hLj
 have N0 := fun W => ref_digits at_ W (by have := numOk_iff.1 h_at_; omega) (by have := numOk_iff.1 h_at_; omega)
 have l0 := itoa_len h_at_
 generalize hA0 : Lib.itoa at_ = A0 at N0 l0 hLj
 replace N0 := Lib.hid N0
 replace hA0 := Lib.hid hA0
 obtain ⟨p1, e1, k1, s1, q1⟩ := catS wd (by omega)
 obtain ⟨p2, e2, k2, s2, q2⟩ := catA p1 A0 (by omega) (by omega)
 have hLp : L = p2 := by
  rw [hLj, ← e2, ← e1]
  simp [join_cons2, Lib.join_one]
 subst hLp
 clear h1 hr _hs hL hLj e1 q1 e2 q2 l0 lw h_at_ h_id h_n h_pk h_ps h_a h_b h_hi h_lo
 replace hwd := Lib.hid hwd
 replace hb1 := Lib.hid hb1
 go_enter Tryz.func8, Tryz.ntmps8
 go_upto_region 1 with fail
 rw [← hw1]
 clear hw1
 go_upto_region 3 with (go_at_call 12; (refine RT.out.mono ?_); rintro e w3 ⟨rfl, hb3⟩)
 clear c0 c1 c2 c3 c4 c5 c6 c7 c8 c9 c10 c11 c12 RT
 have hbD : Below w1.heap.size w1 w3.drew := hb3.drew
 refine wp_region_held_drew (S := fun W => Below w1.heap.size w1 W ∧ W.cell? ⟨w.heap.size, 0, none⟩ = some (.int .i64 9) ∧ W.cell? ⟨w.heap.size, 1, none⟩ = some (.int .i64 at_) ∧ W.cell? ⟨w.heap.size, 2, none⟩ = some (.int .i64 id) ∧ W.cell? ⟨w.heap.size, 3, none⟩ = some (.int .i64 n) ∧ W.cell? ⟨w.heap.size, 4, none⟩ = some (.string ⟨s.toArray⟩) ∧ W.cell? ⟨w.heap.size, 5, none⟩ = some (.int .u64 ((a : Nat) : Int)) ∧ W.cell? ⟨w.heap.size, 6, none⟩ = some (.int .u64 ((b : Nat) : Int)) ∧ W.cell? ⟨w.heap.size, 7, none⟩ = some (.bool on) ∧ W.cell? ⟨w.heap.size, 8, none⟩ = some (.bool v6) ∧ W.cell? ⟨w.heap.size, 9, none⟩ = some (.int .u64 ((hi : Nat) : Int)) ∧ W.cell? ⟨w.heap.size, 10, none⟩ = some (.int .u64 ((lo : Nat) : Int)) ∧ W.cell? ⟨w.heap.size, 11, none⟩ = some (.int .i64 pk) ∧ W.cell? ⟨w.heap.size, 12, none⟩ = some (.int .i64 ps)) (by kernel_rfl) ⟨hbD, hC.out w3.drew hbD⟩ (fun hHeld => ?_)
 generalize w3.drew = wd0 at *
 refine' tk 1 rfl rfl ?_ ?_; rotate_left; · ((intro w hSw; (try dsimp only at hSw); go_simp) <;> with_reducible rfl); try go_frame
 refine' tk 2 rfl rfl ?_ ?_; rotate_left; · ((intro w hSw; (try dsimp only at hSw); go_simp) <;> with_reducible rfl); try go_frame
 refine wpAnyH_ready (rs := [0]) (by kernel_rfl) (by simp) ?_; refine consH rfl (fun K hK => ?_) AllReadyH.nil
 go_simp
 (go_at_call 23; (with_reducible refine (WD.out _).mono ?_))
 rintro e w4 ⟨rfl, hB4, hb4⟩
 have hbS4 := below_chain hb4 hHeld.1
 have cW : w4.cell? ⟨wd0.heap.size, 9, none⟩ = some (.string ⟨wd.toArray⟩) := by have hc := blk_str hB4 (j := 9) (by decide); rw [hwd.out] at hc; exact hc
 refine hK.out _ _ ⟨hbS4, hC.out _ hbS4⟩ (fun hHeld4 => ?_)
 clear hK K
 try go_frame
 refine' tk 3 rfl rfl ?_ ?_; rotate_left; · ((intro w hSw; (try dsimp only at hSw); go_simp) <;> with_reducible rfl); try go_frame
 refine wpAnyH_ready (rs := [4]) (by kernel_rfl) (by simp) ?_; refine consH rfl (fun K hK => ?_) AllReadyH.nil
 go_simp
 refine hK.out _ _ hHeld4 (fun hHeld5 => ?_)
 clear hK K
 try go_frame
 refine' tk 5 rfl rfl ?_ ?_; rotate_left; · ((intro w hSw; (try dsimp only at hSw); go_simp) <;> with_reducible rfl); try go_frame
 refine wpAnyH_done (by kernel_rfl) ?_ _
 clear cW hB4
 obtain ⟨hbW, c0, c1, c2, c3, c4, c5, c6, c7, c8, c9, c10, c11, c12⟩ := hHeld5
 clear hHeld hHeld4 hb4 hbS4 hbD hb3
 go_wp2_with (go_at_call 24; (with_reducible refine (N0.out _).mono ?_); rintro e w6 ⟨rfl, hb6⟩)
 go_ret2
 exact ⟨rfl, below_chain hb6 (below_chain hbW hb1.out)⟩
set_option maxRecDepth 100000 in
set_option maxHeartbeats 32000000 in
theorem rline10 (at_ id n : Int) (s : List UInt8) (a b : Nat) (on v6 : Bool) (hi lo : Nat) (pk ps : Int) (w : World) (hr : rightL (⟨10, at_, id, n, s, a, b, on, v6, hi, lo, pk, ps⟩ : ActL) = true) (hin : inL (⟨10, at_, id, n, s, a, b, on, v6, hi, lo, pk, ps⟩ : ActL)) (_hs : s.length ≤ 1000000) (L : List UInt8) (hL : L = lineL (⟨10, at_, id, n, s, a, b, on, v6, hi, lo, pk, ps⟩ : ActL)) :
  Calls Tryz.prog 8 #[.agg #[.int .i64 10, .int .i64 at_, .int .i64 id, .int .i64 n, .string ⟨s.toArray⟩, .int .u64 ((a : Nat) : Int), .int .u64 ((b : Nat) : Int), .bool on, .bool v6, .int .u64 ((hi : Nat) : Int), .int .u64 ((lo : Nat) : Int), .int .i64 pk, .int .i64 ps]] w fun e w' => e = .returned (.tuple #[.string ⟨L.toArray⟩, .bool true]) ∧ Below w.heap.size w w' := by
 obtain ⟨w1, hw1⟩ : ∃ w1, w1 = w.alloc (.cells #[.int .i64 10, .int .i64 at_, .int .i64 id, .int .i64 n, .string ⟨s.toArray⟩, .int .u64 ((a : Nat) : Int), .int .u64 ((b : Nat) : Int), .bool on, .bool v6, .int .u64 ((hi : Nat) : Int), .int .u64 ((lo : Nat) : Int), .int .i64 pk, .int .i64 ps] 28) := ⟨_, rfl⟩
 have hb1 : Below w.heap.size w w1 := hw1 ▸ below_alloc (Below.refl _ _) _
 have h1 : Blk w1 w.heap.size 28 (actCs (⟨10, at_, id, n, s, a, b, on, v6, hi, lo, pk, ps⟩ : ActL)) := by rw [hw1]; exact Blk.new w 28 _
 obtain ⟨c0, c1, c2, c3, c4, c5, c6, c7, c8, c9, c10, c11, c12⟩ := act13 h1
 have RT := rs_right (⟨10, at_, id, n, s, a, b, on, v6, hi, lo, pk, ps⟩ : ActL) w1
 rw [hr] at RT
 replace RT := Lib.hid (show Calls Tryz.prog 12 #[.agg #[.int .i64 10, .int .i64 at_, .int .i64 id, .int .i64 n, .string ⟨s.toArray⟩, .int .u64 ((a : Nat) : Int), .int .u64 ((b : Nat) : Int), .bool on, .bool v6, .int .u64 ((hi : Nat) : Int), .int .u64 ((lo : Nat) : Int), .int .i64 pk, .int .i64 ps]] w1 _ from RT)
 have WD := Lib.hid rs_words
 have hC := Lib.hid fun W (hb : Below w1.heap.size w1 W) => act13 (x := (⟨10, at_, id, n, s, a, b, on, v6, hi, lo, pk, ps⟩ : ActL)) (h1.call hb)
 obtain ⟨h_at_, h_id, h_n, h_pk, h_ps⟩ := right_num hr
 obtain ⟨h_a, h_b, h_hi, h_lo⟩ := hin
 simp only at h_at_ h_id h_n h_pk h_ps h_a h_b h_hi h_lo
 have hLj : L = Lib.join (wordsL.getD 10 [] :: [Lib.itoa at_]) [32] := hL
 obtain ⟨wd, hwd⟩ : ∃ wd, wordsL.getD 10 [] = wd := ⟨_, rfl⟩
 have lw : wd.length ≤ 6 := by rw [← hwd]; exact word_len_fin 10
 rw [hwd] at hLj
 have N0 := fun W => ref_digits at_ W (by have := numOk_iff.1 h_at_; omega) (by have := numOk_iff.1 h_at_; omega)
 have l0 := itoa_len h_at_
 generalize hA0 : Lib.itoa at_ = A0 at N0 l0 hLj
 replace N0 := Lib.hid N0
 replace hA0 := Lib.hid hA0
 obtain ⟨p1, e1, k1, s1, q1⟩ := catS wd (by omega)
 obtain ⟨p2, e2, k2, s2, q2⟩ := catA p1 A0 (by omega) (by omega)
 have hLp : L = p2 := by
  rw [hLj, ← e2, ← e1]
  simp [join_cons2, Lib.join_one]
 subst hLp
 clear h1 hr _hs hL hLj e1 q1 e2 q2 l0 lw h_at_ h_id h_n h_pk h_ps h_a h_b h_hi h_lo
 replace hwd := Lib.hid hwd
 replace hb1 := Lib.hid hb1
 go_enter Tryz.func8, Tryz.ntmps8
 go_upto_region 1 with fail
 rw [← hw1]
 clear hw1
 go_upto_region 3 with (go_at_call 12; (refine RT.out.mono ?_); rintro e w3 ⟨rfl, hb3⟩)
 clear c0 c1 c2 c3 c4 c5 c6 c7 c8 c9 c10 c11 c12 RT
 have hbD : Below w1.heap.size w1 w3.drew := hb3.drew
 refine wp_region_held_drew (S := fun W => Below w1.heap.size w1 W ∧ W.cell? ⟨w.heap.size, 0, none⟩ = some (.int .i64 10) ∧ W.cell? ⟨w.heap.size, 1, none⟩ = some (.int .i64 at_) ∧ W.cell? ⟨w.heap.size, 2, none⟩ = some (.int .i64 id) ∧ W.cell? ⟨w.heap.size, 3, none⟩ = some (.int .i64 n) ∧ W.cell? ⟨w.heap.size, 4, none⟩ = some (.string ⟨s.toArray⟩) ∧ W.cell? ⟨w.heap.size, 5, none⟩ = some (.int .u64 ((a : Nat) : Int)) ∧ W.cell? ⟨w.heap.size, 6, none⟩ = some (.int .u64 ((b : Nat) : Int)) ∧ W.cell? ⟨w.heap.size, 7, none⟩ = some (.bool on) ∧ W.cell? ⟨w.heap.size, 8, none⟩ = some (.bool v6) ∧ W.cell? ⟨w.heap.size, 9, none⟩ = some (.int .u64 ((hi : Nat) : Int)) ∧ W.cell? ⟨w.heap.size, 10, none⟩ = some (.int .u64 ((lo : Nat) : Int)) ∧ W.cell? ⟨w.heap.size, 11, none⟩ = some (.int .i64 pk) ∧ W.cell? ⟨w.heap.size, 12, none⟩ = some (.int .i64 ps)) (by kernel_rfl) ⟨hbD, hC.out w3.drew hbD⟩ (fun hHeld => ?_)
 generalize w3.drew = wd0 at *
 refine' tk 1 rfl rfl ?_ ?_; rotate_left; · ((intro w hSw; (try dsimp only at hSw); go_simp) <;> with_reducible rfl); try go_frame
 refine' tk 2 rfl rfl ?_ ?_; rotate_left; · ((intro w hSw; (try dsimp only at hSw); go_simp) <;> with_reducible rfl); try go_frame
 refine wpAnyH_ready (rs := [0]) (by kernel_rfl) (by simp) ?_; refine consH rfl (fun K hK => ?_) AllReadyH.nil
 go_simp
 (go_at_call 23; (with_reducible refine (WD.out _).mono ?_))
 rintro e w4 ⟨rfl, hB4, hb4⟩
 have hbS4 := below_chain hb4 hHeld.1
 have cW : w4.cell? ⟨wd0.heap.size, 10, none⟩ = some (.string ⟨wd.toArray⟩) := by have hc := blk_str hB4 (j := 10) (by decide); rw [hwd.out] at hc; exact hc
 refine hK.out _ _ ⟨hbS4, hC.out _ hbS4⟩ (fun hHeld4 => ?_)
 clear hK K
 try go_frame
 refine' tk 3 rfl rfl ?_ ?_; rotate_left; · ((intro w hSw; (try dsimp only at hSw); go_simp) <;> with_reducible rfl); try go_frame
 refine wpAnyH_ready (rs := [4]) (by kernel_rfl) (by simp) ?_; refine consH rfl (fun K hK => ?_) AllReadyH.nil
 go_simp
 refine hK.out _ _ hHeld4 (fun hHeld5 => ?_)
 clear hK K
 try go_frame
 refine' tk 5 rfl rfl ?_ ?_; rotate_left; · ((intro w hSw; (try dsimp only at hSw); go_simp) <;> with_reducible rfl); try go_frame
 refine wpAnyH_done (by kernel_rfl) ?_ _
 clear cW hB4
 obtain ⟨hbW, c0, c1, c2, c3, c4, c5, c6, c7, c8, c9, c10, c11, c12⟩ := hHeld5
 clear hHeld hHeld4 hb4 hbS4 hbD hb3
 go_wp2_with (go_at_call 24; (with_reducible refine (N0.out _).mono ?_); rintro e w6 ⟨rfl, hb6⟩)
 go_ret2
 exact ⟨rfl, below_chain hb6 (below_chain hbW hb1.out)⟩
set_option maxRecDepth 100000 in
set_option maxHeartbeats 32000000 in
theorem rline11 (at_ id n : Int) (s : List UInt8) (a b : Nat) (on v6 : Bool) (hi lo : Nat) (pk ps : Int) (w : World) (hr : rightL (⟨11, at_, id, n, s, a, b, on, v6, hi, lo, pk, ps⟩ : ActL) = true) (hin : inL (⟨11, at_, id, n, s, a, b, on, v6, hi, lo, pk, ps⟩ : ActL)) (_hs : s.length ≤ 1000000) (L : List UInt8) (hL : L = lineL (⟨11, at_, id, n, s, a, b, on, v6, hi, lo, pk, ps⟩ : ActL)) :
  Calls Tryz.prog 8 #[.agg #[.int .i64 11, .int .i64 at_, .int .i64 id, .int .i64 n, .string ⟨s.toArray⟩, .int .u64 ((a : Nat) : Int), .int .u64 ((b : Nat) : Int), .bool on, .bool v6, .int .u64 ((hi : Nat) : Int), .int .u64 ((lo : Nat) : Int), .int .i64 pk, .int .i64 ps]] w fun e w' => e = .returned (.tuple #[.string ⟨L.toArray⟩, .bool true]) ∧ Below w.heap.size w w' := by
 obtain ⟨w1, hw1⟩ : ∃ w1, w1 = w.alloc (.cells #[.int .i64 11, .int .i64 at_, .int .i64 id, .int .i64 n, .string ⟨s.toArray⟩, .int .u64 ((a : Nat) : Int), .int .u64 ((b : Nat) : Int), .bool on, .bool v6, .int .u64 ((hi : Nat) : Int), .int .u64 ((lo : Nat) : Int), .int .i64 pk, .int .i64 ps] 28) := ⟨_, rfl⟩
 have hb1 : Below w.heap.size w w1 := hw1 ▸ below_alloc (Below.refl _ _) _
 have h1 : Blk w1 w.heap.size 28 (actCs (⟨11, at_, id, n, s, a, b, on, v6, hi, lo, pk, ps⟩ : ActL)) := by rw [hw1]; exact Blk.new w 28 _
 obtain ⟨c0, c1, c2, c3, c4, c5, c6, c7, c8, c9, c10, c11, c12⟩ := act13 h1
 have RT := rs_right (⟨11, at_, id, n, s, a, b, on, v6, hi, lo, pk, ps⟩ : ActL) w1
 rw [hr] at RT
 replace RT := Lib.hid (show Calls Tryz.prog 12 #[.agg #[.int .i64 11, .int .i64 at_, .int .i64 id, .int .i64 n, .string ⟨s.toArray⟩, .int .u64 ((a : Nat) : Int), .int .u64 ((b : Nat) : Int), .bool on, .bool v6, .int .u64 ((hi : Nat) : Int), .int .u64 ((lo : Nat) : Int), .int .i64 pk, .int .i64 ps]] w1 _ from RT)
 have WD := Lib.hid rs_words
 have hC := Lib.hid fun W (hb : Below w1.heap.size w1 W) => act13 (x := (⟨11, at_, id, n, s, a, b, on, v6, hi, lo, pk, ps⟩ : ActL)) (h1.call hb)
 obtain ⟨h_at_, h_id, h_n, h_pk, h_ps⟩ := right_num hr
 obtain ⟨h_a, h_b, h_hi, h_lo⟩ := hin
 simp only at h_at_ h_id h_n h_pk h_ps h_a h_b h_hi h_lo
 have hLj : L = Lib.join (wordsL.getD 11 [] :: [Lib.itoa n]) [32] := hL
 obtain ⟨wd, hwd⟩ : ∃ wd, wordsL.getD 11 [] = wd := ⟨_, rfl⟩
 have lw : wd.length ≤ 6 := by rw [← hwd]; exact word_len_fin 11
 rw [hwd] at hLj
 have N0 := fun W => ref_digits n W (by have := numOk_iff.1 h_n; omega) (by have := numOk_iff.1 h_n; omega)
 have l0 := itoa_len h_n
 generalize hA0 : Lib.itoa n = A0 at N0 l0 hLj
 replace N0 := Lib.hid N0
 replace hA0 := Lib.hid hA0
 obtain ⟨p1, e1, k1, s1, q1⟩ := catS wd (by omega)
 obtain ⟨p2, e2, k2, s2, q2⟩ := catA p1 A0 (by omega) (by omega)
 have hLp : L = p2 := by
  rw [hLj, ← e2, ← e1]
  simp [join_cons2, Lib.join_one]
 subst hLp
 clear h1 hr _hs hL hLj e1 q1 e2 q2 l0 lw h_at_ h_id h_n h_pk h_ps h_a h_b h_hi h_lo
 replace hwd := Lib.hid hwd
 replace hb1 := Lib.hid hb1
 go_enter Tryz.func8, Tryz.ntmps8
 go_upto_region 1 with fail
 rw [← hw1]
 clear hw1
 go_upto_region 3 with (go_at_call 12; (refine RT.out.mono ?_); rintro e w3 ⟨rfl, hb3⟩)
 clear c0 c1 c2 c3 c4 c5 c6 c7 c8 c9 c10 c11 c12 RT
 have hbD : Below w1.heap.size w1 w3.drew := hb3.drew
 refine wp_region_held_drew (S := fun W => Below w1.heap.size w1 W ∧ W.cell? ⟨w.heap.size, 0, none⟩ = some (.int .i64 11) ∧ W.cell? ⟨w.heap.size, 1, none⟩ = some (.int .i64 at_) ∧ W.cell? ⟨w.heap.size, 2, none⟩ = some (.int .i64 id) ∧ W.cell? ⟨w.heap.size, 3, none⟩ = some (.int .i64 n) ∧ W.cell? ⟨w.heap.size, 4, none⟩ = some (.string ⟨s.toArray⟩) ∧ W.cell? ⟨w.heap.size, 5, none⟩ = some (.int .u64 ((a : Nat) : Int)) ∧ W.cell? ⟨w.heap.size, 6, none⟩ = some (.int .u64 ((b : Nat) : Int)) ∧ W.cell? ⟨w.heap.size, 7, none⟩ = some (.bool on) ∧ W.cell? ⟨w.heap.size, 8, none⟩ = some (.bool v6) ∧ W.cell? ⟨w.heap.size, 9, none⟩ = some (.int .u64 ((hi : Nat) : Int)) ∧ W.cell? ⟨w.heap.size, 10, none⟩ = some (.int .u64 ((lo : Nat) : Int)) ∧ W.cell? ⟨w.heap.size, 11, none⟩ = some (.int .i64 pk) ∧ W.cell? ⟨w.heap.size, 12, none⟩ = some (.int .i64 ps)) (by kernel_rfl) ⟨hbD, hC.out w3.drew hbD⟩ (fun hHeld => ?_)
 generalize w3.drew = wd0 at *
 refine' tk 1 rfl rfl ?_ ?_; rotate_left; · ((intro w hSw; (try dsimp only at hSw); go_simp) <;> with_reducible rfl); try go_frame
 refine' tk 2 rfl rfl ?_ ?_; rotate_left; · ((intro w hSw; (try dsimp only at hSw); go_simp) <;> with_reducible rfl); try go_frame
 refine wpAnyH_ready (rs := [0]) (by kernel_rfl) (by simp) ?_; refine consH rfl (fun K hK => ?_) AllReadyH.nil
 go_simp
 (go_at_call 23; (with_reducible refine (WD.out _).mono ?_))
 rintro e w4 ⟨rfl, hB4, hb4⟩
 have hbS4 := below_chain hb4 hHeld.1
 have cW : w4.cell? ⟨wd0.heap.size, 11, none⟩ = some (.string ⟨wd.toArray⟩) := by have hc := blk_str hB4 (j := 11) (by decide); rw [hwd.out] at hc; exact hc
 refine hK.out _ _ ⟨hbS4, hC.out _ hbS4⟩ (fun hHeld4 => ?_)
 clear hK K
 try go_frame
 refine' tk 3 rfl rfl ?_ ?_; rotate_left; · ((intro w hSw; (try dsimp only at hSw); go_simp) <;> with_reducible rfl); try go_frame
 refine wpAnyH_ready (rs := [4]) (by kernel_rfl) (by simp) ?_; refine consH rfl (fun K hK => ?_) AllReadyH.nil
 go_simp
 refine hK.out _ _ hHeld4 (fun hHeld5 => ?_)
 clear hK K
 try go_frame
 refine' tk 5 rfl rfl ?_ ?_; rotate_left; · ((intro w hSw; (try dsimp only at hSw); go_simp) <;> with_reducible rfl); try go_frame
 refine wpAnyH_done (by kernel_rfl) ?_ _
 clear cW hB4
 obtain ⟨hbW, c0, c1, c2, c3, c4, c5, c6, c7, c8, c9, c10, c11, c12⟩ := hHeld5
 clear hHeld hHeld4 hb4 hbS4 hbD hb3
 go_wp2_with (go_at_call 24; (with_reducible refine (N0.out _).mono ?_); rintro e w6 ⟨rfl, hb6⟩)
 go_ret2
 exact ⟨rfl, below_chain hb6 (below_chain hbW hb1.out)⟩
set_option maxRecDepth 100000 in
set_option maxHeartbeats 16000000 in
theorem rline_no (x : ActL) (w : World) (hr : rightL x = false) :
  Calls Tryz.prog 8 #[.agg #[.int .i64 x.k, .int .i64 x.at_, .int .i64 x.id, .int .i64 x.n, .string ⟨x.s.toArray⟩, .int .u64 ((x.a : Nat) : Int), .int .u64 ((x.b : Nat) : Int), .bool x.on, .bool x.v6, .int .u64 ((x.hi : Nat) : Int), .int .u64 ((x.lo : Nat) : Int), .int .i64 x.pk, .int .i64 x.ps]] w fun e w' => e = .returned (.tuple #[.string ⟨#[]⟩, .bool false]) ∧ Below w.heap.size w w' := by
 obtain ⟨w1, hw1⟩ : ∃ w1, w1 = w.alloc (.cells #[.int .i64 x.k, .int .i64 x.at_, .int .i64 x.id, .int .i64 x.n, .string ⟨x.s.toArray⟩, .int .u64 ((x.a : Nat) : Int), .int .u64 ((x.b : Nat) : Int), .bool x.on, .bool x.v6, .int .u64 ((x.hi : Nat) : Int), .int .u64 ((x.lo : Nat) : Int), .int .i64 x.pk, .int .i64 x.ps] 28) := ⟨_, rfl⟩
 have hb1 : Below w.heap.size w w1 := hw1 ▸ below_alloc (Below.refl _ _) _
 have h1 : Blk w1 w.heap.size 28 (actCs x) := by rw [hw1]; exact Blk.new w 28 _
 obtain ⟨c0, c1, c2, c3, c4, c5, c6, c7, c8, c9, c10, c11, c12⟩ := act13 h1
 have RT := rs_right x w1
 rw [hr] at RT
 replace RT := Lib.hid (show Calls Tryz.prog 12 #[.agg #[.int .i64 x.k, .int .i64 x.at_, .int .i64 x.id, .int .i64 x.n, .string ⟨x.s.toArray⟩, .int .u64 ((x.a : Nat) : Int), .int .u64 ((x.b : Nat) : Int), .bool x.on, .bool x.v6, .int .u64 ((x.hi : Nat) : Int), .int .u64 ((x.lo : Nat) : Int), .int .i64 x.pk, .int .i64 x.ps]] w1 _ from RT)
 clear h1 hr
 replace hb1 := Lib.hid hb1
 go_enter Tryz.func8, Tryz.ntmps8
 go_upto_region 1 with fail
 rw [← hw1]
 clear hw1
 go_wp2_with (go_at_call 12; (refine RT.out.mono ?_); rintro e w3 ⟨rfl, hb3⟩)
 go_ret2
 exact ⟨rfl, below_chain hb3 hb1.out⟩
theorem rs_line (x : ActL) (w : World) (hin : inL x) (hs : x.s.length ≤ 1000000) :
  Calls Tryz.prog 8 #[.agg (actCs x)] w fun e w' => e = .returned (.tuple #[.string ⟨(if rightL x then lineL x else []).toArray⟩, .bool (rightL x)]) ∧ Below w.heap.size w w' := by
 cases hr : rightL x with
 | false => exact rline_no x w hr
 | true =>
  obtain ⟨k0, k11⟩ := right_k hr
  obtain ⟨k, at_, id, n, s, a, b, on, v6, hi, lo, pk, ps⟩ := x
  simp only at k0 k11
  obtain rfl | rfl | rfl | rfl | rfl | rfl | rfl | rfl | rfl | rfl | rfl | rfl : k = 0 ∨ k = 1 ∨ k = 2 ∨ k = 3 ∨ k = 4 ∨ k = 5 ∨ k = 6 ∨ k = 7 ∨ k = 8 ∨ k = 9 ∨ k = 10 ∨ k = 11 := by omega
  · exact rline0 at_ id n s a b on v6 hi lo pk ps w hr hin hs _ rfl
  · exact rline1 at_ id n s a b on v6 hi lo pk ps w hr hin hs _ rfl
  · exact rline2 at_ id n s a b on v6 hi lo pk ps w hr hin hs _ rfl
  · exact rline3 at_ id n s a b on v6 hi lo pk ps w hr hin hs _ rfl
  · exact rline4 at_ id n s a b on v6 hi lo pk ps w hr hin hs _ rfl
  · exact rline5 at_ id n s a b on v6 hi lo pk ps w hr hin hs _ rfl
  · exact rline6 at_ id n s a b on v6 hi lo pk ps w hr hin hs _ rfl
  · exact rline7 at_ id n s a b on v6 hi lo pk ps w hr hin hs _ rfl
  · exact rline8 at_ id n s a b on v6 hi lo pk ps w hr hin hs _ rfl
  · exact rline9 at_ id n s a b on v6 hi lo pk ps w hr hin hs _ rfl
  · exact rline10 at_ id n s a b on v6 hi lo pk ps w hr hin hs _ rfl
  · exact rline11 at_ id n s a b on v6 hi lo pk ps w hr hin hs _ rfl
end Go.Proofs.YtodbgjnccngljaaGreatDoor
