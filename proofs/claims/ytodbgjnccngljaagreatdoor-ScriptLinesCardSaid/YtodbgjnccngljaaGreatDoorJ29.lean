/- The document's Line at each kind. The document's Line at more kinds. -/
import Derived.Test.YtodbgjnccngljaaGreatDoorJ27
import Derived.Test.YtodbgjnccngljaaGreatDoorJ28
namespace Go.Proofs.YtodbgjnccngljaaGreatDoor
open Go Go.RowKit Go.Deep
theorem catS (a : List UInt8) (ha : a.length ≤ 1000000000) : ∃ p, a ++ [32] = p ∧ (⟨a.toArray⟩ : ByteArray) ++ ⟨#[32]⟩ = ⟨p.toArray⟩ ∧ (¬ 9223372036854775807 < a.length + 1) ∧ p.length = a.length + 1 :=
 ⟨_, rfl, str_append a [32], by omega, by simp⟩
theorem catA (a b : List UInt8) (ha : a.length ≤ 1000000000) (hb : b.length ≤ 1000000000) : ∃ p, a ++ b = p ∧ (⟨a.toArray⟩ : ByteArray) ++ ⟨b.toArray⟩ = ⟨p.toArray⟩ ∧ (¬ 9223372036854775807 < a.length + b.length) ∧ p.length = a.length + b.length :=
 ⟨_, rfl, str_append a b, by omega, by simp⟩
set_option maxRecDepth 100000 in
set_option maxHeartbeats 32000000 in
theorem rline0 (at_ id n : Int) (s : List UInt8) (a b : Nat) (on v6 : Bool) (hi lo : Nat) (pk ps : Int) (w : World) (hr : rightL (⟨0, at_, id, n, s, a, b, on, v6, hi, lo, pk, ps⟩ : ActL) = true) (hin : inL (⟨0, at_, id, n, s, a, b, on, v6, hi, lo, pk, ps⟩ : ActL)) (hs : s.length ≤ 1000000) (L : List UInt8) (hL : L = lineL (⟨0, at_, id, n, s, a, b, on, v6, hi, lo, pk, ps⟩ : ActL)) :
  Calls Tryz.prog 8 #[.agg #[.int .i64 0, .int .i64 at_, .int .i64 id, .int .i64 n, .string ⟨s.toArray⟩, .int .u64 ((a : Nat) : Int), .int .u64 ((b : Nat) : Int), .bool on, .bool v6, .int .u64 ((hi : Nat) : Int), .int .u64 ((lo : Nat) : Int), .int .i64 pk, .int .i64 ps]] w fun e w' => e = .returned (.tuple #[.string ⟨L.toArray⟩, .bool true]) ∧ Below w.heap.size w w' := by
 obtain ⟨w1, hw1⟩ : ∃ w1, w1 = w.alloc (.cells #[.int .i64 0, .int .i64 at_, .int .i64 id, .int .i64 n, .string ⟨s.toArray⟩, .int .u64 ((a : Nat) : Int), .int .u64 ((b : Nat) : Int), .bool on, .bool v6, .int .u64 ((hi : Nat) : Int), .int .u64 ((lo : Nat) : Int), .int .i64 pk, .int .i64 ps] 28) := ⟨_, rfl⟩
 have hb1 : Below w.heap.size w w1 := hw1 ▸ below_alloc (Below.refl _ _) _
 have h1 : Blk w1 w.heap.size 28 (actCs (⟨0, at_, id, n, s, a, b, on, v6, hi, lo, pk, ps⟩ : ActL)) := by rw [hw1]; exact Blk.new w 28 _
 obtain ⟨c0, c1, c2, c3, c4, c5, c6, c7, c8, c9, c10, c11, c12⟩ := act13 h1
 have RT := rs_right (⟨0, at_, id, n, s, a, b, on, v6, hi, lo, pk, ps⟩ : ActL) w1
 rw [hr] at RT
 replace RT := Lib.hid (show Calls Tryz.prog 12 #[.agg #[.int .i64 0, .int .i64 at_, .int .i64 id, .int .i64 n, .string ⟨s.toArray⟩, .int .u64 ((a : Nat) : Int), .int .u64 ((b : Nat) : Int), .bool on, .bool v6, .int .u64 ((hi : Nat) : Int), .int .u64 ((lo : Nat) : Int), .int .i64 pk, .int .i64 ps]] w1 _ from RT)
 have WD := Lib.hid rs_words
 have hC := Lib.hid fun W (hb : Below w1.heap.size w1 W) => act13 (x := (⟨0, at_, id, n, s, a, b, on, v6, hi, lo, pk, ps⟩ : ActL)) (h1.call hb)
 obtain ⟨h_at_, h_id, h_n, h_pk, h_ps⟩ := right_num hr
 obtain ⟨h_a, h_b, h_hi, h_lo⟩ := hin
 simp only at h_at_ h_id h_n h_pk h_ps h_a h_b h_hi h_lo
 have hLj : L = Lib.join (wordsL.getD 0 [] :: [Lib.itoa at_, Lib.decDigits a, Lib.decDigits b, textL s]) [32] := hL
 obtain ⟨wd, hwd⟩ : ∃ wd, wordsL.getD 0 [] = wd := ⟨_, rfl⟩
 have lw : wd.length ≤ 6 := by rw [← hwd]; exact word_len_fin 0
 rw [hwd] at hLj
 have N0 := fun W => ref_digits at_ W (by have := numOk_iff.1 h_at_; omega) (by have := numOk_iff.1 h_at_; omega)
 have l0 := itoa_len h_at_
 have N1 := fun W => rs_big a W h_a
 have l1 := dec_len64 h_a
 have N2 := fun W => rs_big b W h_b
 have l2 := dec_len64 h_b
 have N3 := fun W => rs_bytes s W hs
 have l3 := text_len s
 generalize hA0 : Lib.itoa at_ = A0 at N0 l0 hLj
 replace N0 := Lib.hid N0
 replace hA0 := Lib.hid hA0
 generalize hA1 : Lib.decDigits a = A1 at N1 l1 hLj
 replace N1 := Lib.hid N1
 replace hA1 := Lib.hid hA1
 generalize hA2 : Lib.decDigits b = A2 at N2 l2 hLj
 replace N2 := Lib.hid N2
 replace hA2 := Lib.hid hA2
 generalize hA3 : textL s = A3 at N3 l3 hLj
 replace N3 := Lib.hid N3
 replace hA3 := Lib.hid hA3
 obtain ⟨p1, e1, k1, s1, q1⟩ := catS wd (by omega)
 obtain ⟨p2, e2, k2, s2, q2⟩ := catA p1 A0 (by omega) (by omega)
 obtain ⟨p3, e3, k3, s3, q3⟩ := catS p2 (by omega)
 obtain ⟨p4, e4, k4, s4, q4⟩ := catA p3 A1 (by omega) (by omega)
 obtain ⟨p5, e5, k5, s5, q5⟩ := catS p4 (by omega)
 obtain ⟨p6, e6, k6, s6, q6⟩ := catA p5 A2 (by omega) (by omega)
 obtain ⟨p7, e7, k7, s7, q7⟩ := catS p6 (by omega)
 obtain ⟨p8, e8, k8, s8, q8⟩ := catA p7 A3 (by omega) (by omega)
 have hLp : L = p8 := by
  rw [hLj, ← e8, ← e7, ← e6, ← e5, ← e4, ← e3, ← e2, ← e1]
  simp [join_cons2, Lib.join_one]
 subst hLp
 clear h1 hr hs hL hLj e1 q1 e2 q2 e3 q3 e4 q4 e5 q5 e6 q6 e7 q7 e8 q8 l0 l1 l2 l3 lw h_at_ h_id h_n h_pk h_ps h_a h_b h_hi h_lo
 replace hwd := Lib.hid hwd
 replace hb1 := Lib.hid hb1
 go_enter Tryz.func8, Tryz.ntmps8
 go_upto_region 1 with fail
 rw [← hw1]
 clear hw1
 go_upto_region 3 with (go_at_call 12; (refine RT.out.mono ?_); rintro e w3 ⟨rfl, hb3⟩)
 clear c0 c1 c2 c3 c4 c5 c6 c7 c8 c9 c10 c11 c12 RT
 have hbD : Below w1.heap.size w1 w3.drew := hb3.drew
 refine wp_region_held_drew (S := fun W => Below w1.heap.size w1 W ∧ W.cell? ⟨w.heap.size, 0, none⟩ = some (.int .i64 0) ∧ W.cell? ⟨w.heap.size, 1, none⟩ = some (.int .i64 at_) ∧ W.cell? ⟨w.heap.size, 2, none⟩ = some (.int .i64 id) ∧ W.cell? ⟨w.heap.size, 3, none⟩ = some (.int .i64 n) ∧ W.cell? ⟨w.heap.size, 4, none⟩ = some (.string ⟨s.toArray⟩) ∧ W.cell? ⟨w.heap.size, 5, none⟩ = some (.int .u64 ((a : Nat) : Int)) ∧ W.cell? ⟨w.heap.size, 6, none⟩ = some (.int .u64 ((b : Nat) : Int)) ∧ W.cell? ⟨w.heap.size, 7, none⟩ = some (.bool on) ∧ W.cell? ⟨w.heap.size, 8, none⟩ = some (.bool v6) ∧ W.cell? ⟨w.heap.size, 9, none⟩ = some (.int .u64 ((hi : Nat) : Int)) ∧ W.cell? ⟨w.heap.size, 10, none⟩ = some (.int .u64 ((lo : Nat) : Int)) ∧ W.cell? ⟨w.heap.size, 11, none⟩ = some (.int .i64 pk) ∧ W.cell? ⟨w.heap.size, 12, none⟩ = some (.int .i64 ps)) (by kernel_rfl) ⟨hbD, hC.out w3.drew hbD⟩ (fun hHeld => ?_)
 generalize w3.drew = wd0 at *
 refine' tk 1 rfl rfl ?_ ?_; rotate_left; · ((intro w hSw; (try dsimp only at hSw); go_simp) <;> with_reducible rfl); try go_frame
 refine' tk 2 rfl rfl ?_ ?_; rotate_left; · ((intro w hSw; (try dsimp only at hSw); go_simp) <;> with_reducible rfl); try go_frame
 refine wpAnyH_ready (rs := [0]) (by kernel_rfl) (by simp) ?_; refine consH rfl (fun K hK => ?_) AllReadyH.nil
 go_simp
 (go_at_call 23; (with_reducible refine (WD.out _).mono ?_))
 rintro e w4 ⟨rfl, hB4, hb4⟩
 have hbS4 := below_chain hb4 hHeld.1
 have cW : w4.cell? ⟨wd0.heap.size, 0, none⟩ = some (.string ⟨wd.toArray⟩) := by have hc := blk_str hB4 (j := 0) (by decide); rw [hwd.out] at hc; exact hc
 refine hK.out _ _ ⟨hbS4, hC.out _ hbS4⟩ (fun hHeld4 => ?_)
 clear hK K
 try go_frame
 refine' tk 3 rfl rfl ?_ ?_; rotate_left; · ((intro w hSw; (try dsimp only at hSw); go_simp) <;> with_reducible rfl); try go_frame
 refine wpAnyH_ready (rs := [4]) (by kernel_rfl) (by simp) ?_; refine consH rfl (fun K hK => ?_) AllReadyH.nil
 go_simp
 refine hK.out _ _ hHeld4 (fun hHeld5 => ?_)
 clear hK K
 try go_frame
 refine' tk 5 rfl rfl ?_ ?_; rotate_left; · ((intro w hSw; (try dsimp only at hSw); go_simp) <;> with_reducible rfl); try go_frame
 refine wpAnyH_done (by kernel_rfl) ?_ _
 clear cW hB4
 obtain ⟨hbW, c0, c1, c2, c3, c4, c5, c6, c7, c8, c9, c10, c11, c12⟩ := hHeld5
 clear hHeld hHeld4 hb4 hbS4 hbD hb3
 go_upto_region 6 with fail
 clear c0 c1 c2 c3 c4 c5 c6 c7 c8 c9 c10 c11 c12
 have hbD := hbW.drew
 refine wp_region_held_drew (S := fun W => Below w1.heap.size w1 W ∧ W.cell? ⟨w.heap.size, 0, none⟩ = some (.int .i64 0) ∧ W.cell? ⟨w.heap.size, 1, none⟩ = some (.int .i64 at_) ∧ W.cell? ⟨w.heap.size, 2, none⟩ = some (.int .i64 id) ∧ W.cell? ⟨w.heap.size, 3, none⟩ = some (.int .i64 n) ∧ W.cell? ⟨w.heap.size, 4, none⟩ = some (.string ⟨s.toArray⟩) ∧ W.cell? ⟨w.heap.size, 5, none⟩ = some (.int .u64 ((a : Nat) : Int)) ∧ W.cell? ⟨w.heap.size, 6, none⟩ = some (.int .u64 ((b : Nat) : Int)) ∧ W.cell? ⟨w.heap.size, 7, none⟩ = some (.bool on) ∧ W.cell? ⟨w.heap.size, 8, none⟩ = some (.bool v6) ∧ W.cell? ⟨w.heap.size, 9, none⟩ = some (.int .u64 ((hi : Nat) : Int)) ∧ W.cell? ⟨w.heap.size, 10, none⟩ = some (.int .u64 ((lo : Nat) : Int)) ∧ W.cell? ⟨w.heap.size, 11, none⟩ = some (.int .i64 pk) ∧ W.cell? ⟨w.heap.size, 12, none⟩ = some (.int .i64 ps)) (by kernel_rfl) ⟨hbD, hC.out w4.drew hbD⟩ (fun hH => ?_)
 generalize w4.drew = wd1 at *
 refine' tk 0 rfl rfl ?_ ?_; rotate_left; · ((intro w hSw; (try dsimp only at hSw); go_simp) <;> with_reducible rfl); try go_frame
 refine' tk 1 rfl rfl ?_ ?_; rotate_left; · ((intro w hSw; (try dsimp only at hSw); go_simp) <;> with_reducible rfl); try go_frame
 refine' tk 2 rfl rfl ?_ ?_; rotate_left; · ((intro w hSw; (try dsimp only at hSw); go_simp) <;> with_reducible rfl); try go_frame
 refine' tk 3 rfl rfl ?_ ?_; rotate_left; · ((intro w hSw; (try dsimp only at hSw); go_simp) <;> with_reducible rfl); try go_frame
 refine' tk 7 rfl rfl ?_ ?_; rotate_left; · ((intro w hSw; (try dsimp only at hSw); go_simp) <;> with_reducible rfl); try go_frame
 refine' tk 8 rfl rfl ?_ ?_; rotate_left; · ((intro w hSw; (try dsimp only at hSw); go_simp) <;> with_reducible rfl); try go_frame
 refine' tk 12 rfl rfl ?_ ?_; rotate_left; · ((intro w hSw; (try dsimp only at hSw); go_simp) <;> with_reducible rfl); try go_frame
 refine' tk 13 rfl rfl ?_ ?_; rotate_left; · ((intro w hSw; (try dsimp only at hSw); go_simp) <;> with_reducible rfl); try go_frame
 refine' tk 17 rfl rfl ?_ ?_; rotate_left; · ((intro w hSw; (try dsimp only at hSw); go_simp) <;> with_reducible rfl); try go_frame
 refine' tk 18 rfl rfl ?_ ?_; rotate_left; · ((intro w hSw; (try dsimp only at hSw); go_simp) <;> with_reducible rfl); try go_frame
 refine wpAnyH_ready (rs := [4]) (by kernel_rfl) (by simp) ?_; refine consH rfl (fun K hK => ?_) AllReadyH.nil
 go_simp
 (go_at_call 24; (with_reducible refine (N0.out _).mono ?_))
 rintro e v0 ⟨rfl, hbv0⟩
 have hbS0 := below_chain hbv0 hH.1
 refine hK.out _ _ ⟨hbS0, hC.out _ hbS0⟩ (fun hH0 => ?_)
 clear hK K
 try go_frame
 refine' tk 5 rfl rfl ?_ ?_; rotate_left; · ((intro w hSw; (try dsimp only at hSw); go_simp) <;> with_reducible rfl); try go_frame
 refine' tk 6 rfl rfl ?_ ?_; rotate_left; · ((intro w hSw; (try dsimp only at hSw); go_simp) <;> with_reducible rfl); try go_frame
 refine wpAnyH_ready (rs := [9]) (by kernel_rfl) (by simp) ?_; refine consH rfl (fun K hK => ?_) AllReadyH.nil
 go_simp
 (go_at_call 25; (with_reducible refine (N1.out _).mono ?_))
 rintro e v1 ⟨rfl, hbv1⟩
 have hbS1 := below_chain hbv1 hH0.1
 refine hK.out _ _ ⟨hbS1, hC.out _ hbS1⟩ (fun hH1 => ?_)
 clear hK K
 try go_frame
 refine' tk 10 rfl rfl ?_ ?_; rotate_left; · ((intro w hSw; (try dsimp only at hSw); go_simp) <;> with_reducible rfl); try go_frame
 refine' tk 11 rfl rfl ?_ ?_; rotate_left; · ((intro w hSw; (try dsimp only at hSw); go_simp) <;> with_reducible rfl); try go_frame
 refine wpAnyH_ready (rs := [14]) (by kernel_rfl) (by simp) ?_; refine consH rfl (fun K hK => ?_) AllReadyH.nil
 go_simp
 (go_at_call 25; (with_reducible refine (N2.out _).mono ?_))
 rintro e v2 ⟨rfl, hbv2⟩
 have hbS2 := below_chain hbv2 hH1.1
 refine hK.out _ _ ⟨hbS2, hC.out _ hbS2⟩ (fun hH2 => ?_)
 clear hK K
 try go_frame
 refine' tk 15 rfl rfl ?_ ?_; rotate_left; · ((intro w hSw; (try dsimp only at hSw); go_simp) <;> with_reducible rfl); try go_frame
 refine' tk 16 rfl rfl ?_ ?_; rotate_left; · ((intro w hSw; (try dsimp only at hSw); go_simp) <;> with_reducible rfl); try go_frame
 refine wpAnyH_ready (rs := [19]) (by kernel_rfl) (by simp) ?_; refine consH rfl (fun K hK => ?_) AllReadyH.nil
 go_simp
 (go_at_call 26; (with_reducible refine (N3.out _).mono ?_))
 rintro e v3 ⟨rfl, hbv3⟩
 have hbS3 := below_chain hbv3 hH2.1
 refine hK.out _ _ ⟨hbS3, hC.out _ hbS3⟩ (fun hH3 => ?_)
 clear hK K
 try go_frame
 refine' tk 20 rfl rfl ?_ ?_; rotate_left; · ((intro w hSw; (try dsimp only at hSw); go_simp) <;> with_reducible rfl); try go_frame
 refine' tk 21 rfl rfl ?_ ?_; rotate_left; · ((intro w hSw; (try dsimp only at hSw); go_simp) <;> with_reducible rfl); try go_frame
 refine wpAnyH_done (by kernel_rfl) ?_ _
 go_wp2_with fail
 go_ret2
 exact ⟨rfl, below_chain hH3.1 hb1.out⟩
set_option maxRecDepth 100000 in
set_option maxHeartbeats 32000000 in
theorem rline1 (at_ id n : Int) (s : List UInt8) (a b : Nat) (on v6 : Bool) (hi lo : Nat) (pk ps : Int) (w : World) (hr : rightL (⟨1, at_, id, n, s, a, b, on, v6, hi, lo, pk, ps⟩ : ActL) = true) (hin : inL (⟨1, at_, id, n, s, a, b, on, v6, hi, lo, pk, ps⟩ : ActL)) (hs : s.length ≤ 1000000) (L : List UInt8) (hL : L = lineL (⟨1, at_, id, n, s, a, b, on, v6, hi, lo, pk, ps⟩ : ActL)) :
  Calls Tryz.prog 8 #[.agg #[.int .i64 1, .int .i64 at_, .int .i64 id, .int .i64 n, .string ⟨s.toArray⟩, .int .u64 ((a : Nat) : Int), .int .u64 ((b : Nat) : Int), .bool on, .bool v6, .int .u64 ((hi : Nat) : Int), .int .u64 ((lo : Nat) : Int), .int .i64 pk, .int .i64 ps]] w fun e w' => e = .returned (.tuple #[.string ⟨L.toArray⟩, .bool true]) ∧ Below w.heap.size w w' := by
 obtain ⟨w1, hw1⟩ : ∃ w1, w1 = w.alloc (.cells #[.int .i64 1, .int .i64 at_, .int .i64 id, .int .i64 n, .string ⟨s.toArray⟩, .int .u64 ((a : Nat) : Int), .int .u64 ((b : Nat) : Int), .bool on, .bool v6, .int .u64 ((hi : Nat) : Int), .int .u64 ((lo : Nat) : Int), .int .i64 pk, .int .i64 ps] 28) := ⟨_, rfl⟩
 have hb1 : Below w.heap.size w w1 := hw1 ▸ below_alloc (Below.refl _ _) _
 have h1 : Blk w1 w.heap.size 28 (actCs (⟨1, at_, id, n, s, a, b, on, v6, hi, lo, pk, ps⟩ : ActL)) := by rw [hw1]; exact Blk.new w 28 _
 obtain ⟨c0, c1, c2, c3, c4, c5, c6, c7, c8, c9, c10, c11, c12⟩ := act13 h1
 have RT := rs_right (⟨1, at_, id, n, s, a, b, on, v6, hi, lo, pk, ps⟩ : ActL) w1
 rw [hr] at RT
 replace RT := Lib.hid (show Calls Tryz.prog 12 #[.agg #[.int .i64 1, .int .i64 at_, .int .i64 id, .int .i64 n, .string ⟨s.toArray⟩, .int .u64 ((a : Nat) : Int), .int .u64 ((b : Nat) : Int), .bool on, .bool v6, .int .u64 ((hi : Nat) : Int), .int .u64 ((lo : Nat) : Int), .int .i64 pk, .int .i64 ps]] w1 _ from RT)
 have WD := Lib.hid rs_words
 have hC := Lib.hid fun W (hb : Below w1.heap.size w1 W) => act13 (x := (⟨1, at_, id, n, s, a, b, on, v6, hi, lo, pk, ps⟩ : ActL)) (h1.call hb)
 obtain ⟨h_at_, h_id, h_n, h_pk, h_ps⟩ := right_num hr
 obtain ⟨h_a, h_b, h_hi, h_lo⟩ := hin
 simp only at h_at_ h_id h_n h_pk h_ps h_a h_b h_hi h_lo
 have hLj : L = Lib.join (wordsL.getD 1 [] :: [Lib.itoa id, textL s]) [32] := hL
 obtain ⟨wd, hwd⟩ : ∃ wd, wordsL.getD 1 [] = wd := ⟨_, rfl⟩
 have lw : wd.length ≤ 6 := by rw [← hwd]; exact word_len_fin 1
 rw [hwd] at hLj
 have N0 := fun W => ref_digits id W (by have := numOk_iff.1 h_id; omega) (by have := numOk_iff.1 h_id; omega)
 have l0 := itoa_len h_id
 have N1 := fun W => rs_bytes s W hs
 have l1 := text_len s
 generalize hA0 : Lib.itoa id = A0 at N0 l0 hLj
 replace N0 := Lib.hid N0
 replace hA0 := Lib.hid hA0
 generalize hA1 : textL s = A1 at N1 l1 hLj
 replace N1 := Lib.hid N1
 replace hA1 := Lib.hid hA1
 obtain ⟨p1, e1, k1, s1, q1⟩ := catS wd (by omega)
 obtain ⟨p2, e2, k2, s2, q2⟩ := catA p1 A0 (by omega) (by omega)
 obtain ⟨p3, e3, k3, s3, q3⟩ := catS p2 (by omega)
 obtain ⟨p4, e4, k4, s4, q4⟩ := catA p3 A1 (by omega) (by omega)
 have hLp : L = p4 := by
  rw [hLj, ← e4, ← e3, ← e2, ← e1]
  simp [join_cons2, Lib.join_one]
 subst hLp
 clear h1 hr hs hL hLj e1 q1 e2 q2 e3 q3 e4 q4 l0 l1 lw h_at_ h_id h_n h_pk h_ps h_a h_b h_hi h_lo
 replace hwd := Lib.hid hwd
 replace hb1 := Lib.hid hb1
 go_enter Tryz.func8, Tryz.ntmps8
 go_upto_region 1 with fail
 rw [← hw1]
 clear hw1
 go_upto_region 3 with (go_at_call 12; (refine RT.out.mono ?_); rintro e w3 ⟨rfl, hb3⟩)
 clear c0 c1 c2 c3 c4 c5 c6 c7 c8 c9 c10 c11 c12 RT
 have hbD : Below w1.heap.size w1 w3.drew := hb3.drew
 refine wp_region_held_drew (S := fun W => Below w1.heap.size w1 W ∧ W.cell? ⟨w.heap.size, 0, none⟩ = some (.int .i64 1) ∧ W.cell? ⟨w.heap.size, 1, none⟩ = some (.int .i64 at_) ∧ W.cell? ⟨w.heap.size, 2, none⟩ = some (.int .i64 id) ∧ W.cell? ⟨w.heap.size, 3, none⟩ = some (.int .i64 n) ∧ W.cell? ⟨w.heap.size, 4, none⟩ = some (.string ⟨s.toArray⟩) ∧ W.cell? ⟨w.heap.size, 5, none⟩ = some (.int .u64 ((a : Nat) : Int)) ∧ W.cell? ⟨w.heap.size, 6, none⟩ = some (.int .u64 ((b : Nat) : Int)) ∧ W.cell? ⟨w.heap.size, 7, none⟩ = some (.bool on) ∧ W.cell? ⟨w.heap.size, 8, none⟩ = some (.bool v6) ∧ W.cell? ⟨w.heap.size, 9, none⟩ = some (.int .u64 ((hi : Nat) : Int)) ∧ W.cell? ⟨w.heap.size, 10, none⟩ = some (.int .u64 ((lo : Nat) : Int)) ∧ W.cell? ⟨w.heap.size, 11, none⟩ = some (.int .i64 pk) ∧ W.cell? ⟨w.heap.size, 12, none⟩ = some (.int .i64 ps)) (by kernel_rfl) ⟨hbD, hC.out w3.drew hbD⟩ (fun hHeld => ?_)
 generalize w3.drew = wd0 at *
 refine' tk 1 rfl rfl ?_ ?_; rotate_left; · ((intro w hSw; (try dsimp only at hSw); go_simp) <;> with_reducible rfl); try go_frame
 refine' tk 2 rfl rfl ?_ ?_; rotate_left; · ((intro w hSw; (try dsimp only at hSw); go_simp) <;> with_reducible rfl); try go_frame
 refine wpAnyH_ready (rs := [0]) (by kernel_rfl) (by simp) ?_; refine consH rfl (fun K hK => ?_) AllReadyH.nil
 go_simp
 (go_at_call 23; (with_reducible refine (WD.out _).mono ?_))
 rintro e w4 ⟨rfl, hB4, hb4⟩
 have hbS4 := below_chain hb4 hHeld.1
 have cW : w4.cell? ⟨wd0.heap.size, 1, none⟩ = some (.string ⟨wd.toArray⟩) := by have hc := blk_str hB4 (j := 1) (by decide); rw [hwd.out] at hc; exact hc
 refine hK.out _ _ ⟨hbS4, hC.out _ hbS4⟩ (fun hHeld4 => ?_)
 clear hK K
 try go_frame
 refine' tk 3 rfl rfl ?_ ?_; rotate_left; · ((intro w hSw; (try dsimp only at hSw); go_simp) <;> with_reducible rfl); try go_frame
 refine wpAnyH_ready (rs := [4]) (by kernel_rfl) (by simp) ?_; refine consH rfl (fun K hK => ?_) AllReadyH.nil
 go_simp
 refine hK.out _ _ hHeld4 (fun hHeld5 => ?_)
 clear hK K
 try go_frame
 refine' tk 5 rfl rfl ?_ ?_; rotate_left; · ((intro w hSw; (try dsimp only at hSw); go_simp) <;> with_reducible rfl); try go_frame
 refine wpAnyH_done (by kernel_rfl) ?_ _
 clear cW hB4
 obtain ⟨hbW, c0, c1, c2, c3, c4, c5, c6, c7, c8, c9, c10, c11, c12⟩ := hHeld5
 clear hHeld hHeld4 hb4 hbS4 hbD hb3
 go_upto_region 8 with fail
 clear c0 c1 c2 c3 c4 c5 c6 c7 c8 c9 c10 c11 c12
 have hbD := hbW.drew
 refine wp_region_held_drew (S := fun W => Below w1.heap.size w1 W ∧ W.cell? ⟨w.heap.size, 0, none⟩ = some (.int .i64 1) ∧ W.cell? ⟨w.heap.size, 1, none⟩ = some (.int .i64 at_) ∧ W.cell? ⟨w.heap.size, 2, none⟩ = some (.int .i64 id) ∧ W.cell? ⟨w.heap.size, 3, none⟩ = some (.int .i64 n) ∧ W.cell? ⟨w.heap.size, 4, none⟩ = some (.string ⟨s.toArray⟩) ∧ W.cell? ⟨w.heap.size, 5, none⟩ = some (.int .u64 ((a : Nat) : Int)) ∧ W.cell? ⟨w.heap.size, 6, none⟩ = some (.int .u64 ((b : Nat) : Int)) ∧ W.cell? ⟨w.heap.size, 7, none⟩ = some (.bool on) ∧ W.cell? ⟨w.heap.size, 8, none⟩ = some (.bool v6) ∧ W.cell? ⟨w.heap.size, 9, none⟩ = some (.int .u64 ((hi : Nat) : Int)) ∧ W.cell? ⟨w.heap.size, 10, none⟩ = some (.int .u64 ((lo : Nat) : Int)) ∧ W.cell? ⟨w.heap.size, 11, none⟩ = some (.int .i64 pk) ∧ W.cell? ⟨w.heap.size, 12, none⟩ = some (.int .i64 ps)) (by kernel_rfl) ⟨hbD, hC.out w4.drew hbD⟩ (fun hH => ?_)
 generalize w4.drew = wd1 at *
 refine' tk 0 rfl rfl ?_ ?_; rotate_left; · ((intro w hSw; (try dsimp only at hSw); go_simp) <;> with_reducible rfl); try go_frame
 refine' tk 1 rfl rfl ?_ ?_; rotate_left; · ((intro w hSw; (try dsimp only at hSw); go_simp) <;> with_reducible rfl); try go_frame
 refine' tk 2 rfl rfl ?_ ?_; rotate_left; · ((intro w hSw; (try dsimp only at hSw); go_simp) <;> with_reducible rfl); try go_frame
 refine' tk 3 rfl rfl ?_ ?_; rotate_left; · ((intro w hSw; (try dsimp only at hSw); go_simp) <;> with_reducible rfl); try go_frame
 refine' tk 7 rfl rfl ?_ ?_; rotate_left; · ((intro w hSw; (try dsimp only at hSw); go_simp) <;> with_reducible rfl); try go_frame
 refine' tk 8 rfl rfl ?_ ?_; rotate_left; · ((intro w hSw; (try dsimp only at hSw); go_simp) <;> with_reducible rfl); try go_frame
 refine wpAnyH_ready (rs := [4]) (by kernel_rfl) (by simp) ?_; refine consH rfl (fun K hK => ?_) AllReadyH.nil
 go_simp
 (go_at_call 24; (with_reducible refine (N0.out _).mono ?_))
 rintro e v0 ⟨rfl, hbv0⟩
 have hbS0 := below_chain hbv0 hH.1
 refine hK.out _ _ ⟨hbS0, hC.out _ hbS0⟩ (fun hH0 => ?_)
 clear hK K
 try go_frame
 refine' tk 5 rfl rfl ?_ ?_; rotate_left; · ((intro w hSw; (try dsimp only at hSw); go_simp) <;> with_reducible rfl); try go_frame
 refine' tk 6 rfl rfl ?_ ?_; rotate_left; · ((intro w hSw; (try dsimp only at hSw); go_simp) <;> with_reducible rfl); try go_frame
 refine wpAnyH_ready (rs := [9]) (by kernel_rfl) (by simp) ?_; refine consH rfl (fun K hK => ?_) AllReadyH.nil
 go_simp
 (go_at_call 26; (with_reducible refine (N1.out _).mono ?_))
 rintro e v1 ⟨rfl, hbv1⟩
 have hbS1 := below_chain hbv1 hH0.1
 refine hK.out _ _ ⟨hbS1, hC.out _ hbS1⟩ (fun hH1 => ?_)
 clear hK K
 try go_frame
 refine' tk 10 rfl rfl ?_ ?_; rotate_left; · ((intro w hSw; (try dsimp only at hSw); go_simp) <;> with_reducible rfl); try go_frame
 refine' tk 11 rfl rfl ?_ ?_; rotate_left; · ((intro w hSw; (try dsimp only at hSw); go_simp) <;> with_reducible rfl); try go_frame
 refine wpAnyH_done (by kernel_rfl) ?_ _
 go_wp2_with fail
 go_ret2
 exact ⟨rfl, below_chain hH1.1 hb1.out⟩
set_option maxRecDepth 100000 in
set_option maxHeartbeats 32000000 in
theorem rline2 (at_ id n : Int) (s : List UInt8) (a b : Nat) (on v6 : Bool) (hi lo : Nat) (pk ps : Int) (w : World) (hr : rightL (⟨2, at_, id, n, s, a, b, on, v6, hi, lo, pk, ps⟩ : ActL) = true) (hin : inL (⟨2, at_, id, n, s, a, b, on, v6, hi, lo, pk, ps⟩ : ActL)) (_hs : s.length ≤ 1000000) (L : List UInt8) (hL : L = lineL (⟨2, at_, id, n, s, a, b, on, v6, hi, lo, pk, ps⟩ : ActL)) :
  Calls Tryz.prog 8 #[.agg #[.int .i64 2, .int .i64 at_, .int .i64 id, .int .i64 n, .string ⟨s.toArray⟩, .int .u64 ((a : Nat) : Int), .int .u64 ((b : Nat) : Int), .bool on, .bool v6, .int .u64 ((hi : Nat) : Int), .int .u64 ((lo : Nat) : Int), .int .i64 pk, .int .i64 ps]] w fun e w' => e = .returned (.tuple #[.string ⟨L.toArray⟩, .bool true]) ∧ Below w.heap.size w w' := by
 obtain ⟨w1, hw1⟩ : ∃ w1, w1 = w.alloc (.cells #[.int .i64 2, .int .i64 at_, .int .i64 id, .int .i64 n, .string ⟨s.toArray⟩, .int .u64 ((a : Nat) : Int), .int .u64 ((b : Nat) : Int), .bool on, .bool v6, .int .u64 ((hi : Nat) : Int), .int .u64 ((lo : Nat) : Int), .int .i64 pk, .int .i64 ps] 28) := ⟨_, rfl⟩
 have hb1 : Below w.heap.size w w1 := hw1 ▸ below_alloc (Below.refl _ _) _
 have h1 : Blk w1 w.heap.size 28 (actCs (⟨2, at_, id, n, s, a, b, on, v6, hi, lo, pk, ps⟩ : ActL)) := by rw [hw1]; exact Blk.new w 28 _
 obtain ⟨c0, c1, c2, c3, c4, c5, c6, c7, c8, c9, c10, c11, c12⟩ := act13 h1
 have RT := rs_right (⟨2, at_, id, n, s, a, b, on, v6, hi, lo, pk, ps⟩ : ActL) w1
 rw [hr] at RT
 replace RT := Lib.hid (show Calls Tryz.prog 12 #[.agg #[.int .i64 2, .int .i64 at_, .int .i64 id, .int .i64 n, .string ⟨s.toArray⟩, .int .u64 ((a : Nat) : Int), .int .u64 ((b : Nat) : Int), .bool on, .bool v6, .int .u64 ((hi : Nat) : Int), .int .u64 ((lo : Nat) : Int), .int .i64 pk, .int .i64 ps]] w1 _ from RT)
 have WD := Lib.hid rs_words
 have hC := Lib.hid fun W (hb : Below w1.heap.size w1 W) => act13 (x := (⟨2, at_, id, n, s, a, b, on, v6, hi, lo, pk, ps⟩ : ActL)) (h1.call hb)
 obtain ⟨h_at_, h_id, h_n, h_pk, h_ps⟩ := right_num hr
 obtain ⟨h_a, h_b, h_hi, h_lo⟩ := hin
 simp only at h_at_ h_id h_n h_pk h_ps h_a h_b h_hi h_lo
 have hLj : L = Lib.join (wordsL.getD 2 [] :: [Lib.itoa n, adrTxt v6 hi lo]) [32] := hL
 obtain ⟨wd, hwd⟩ : ∃ wd, wordsL.getD 2 [] = wd := ⟨_, rfl⟩
 have lw : wd.length ≤ 6 := by rw [← hwd]; exact word_len_fin 2
 rw [hwd] at hLj
 have N0 := fun W => ref_digits n W (by have := numOk_iff.1 h_n; omega) (by have := numOk_iff.1 h_n; omega)
 have l0 := itoa_len h_n
 have N1 := fun W => refaddr_text v6 hi lo W h_hi h_lo
 have l1 := adrTxt_len v6 hi lo
 generalize hA0 : Lib.itoa n = A0 at N0 l0 hLj
 replace N0 := Lib.hid N0
 replace hA0 := Lib.hid hA0
 generalize hA1 : adrTxt v6 hi lo = A1 at N1 l1 hLj
 replace N1 := Lib.hid N1
 replace hA1 := Lib.hid hA1
 obtain ⟨p1, e1, k1, s1, q1⟩ := catS wd (by omega)
 obtain ⟨p2, e2, k2, s2, q2⟩ := catA p1 A0 (by omega) (by omega)
 obtain ⟨p3, e3, k3, s3, q3⟩ := catS p2 (by omega)
 obtain ⟨p4, e4, k4, s4, q4⟩ := catA p3 A1 (by omega) (by omega)
 have hLp : L = p4 := by
  rw [hLj, ← e4, ← e3, ← e2, ← e1]
  simp [join_cons2, Lib.join_one]
 subst hLp
 clear h1 hr _hs hL hLj e1 q1 e2 q2 e3 q3 e4 q4 l0 l1 lw h_at_ h_id h_n h_pk h_ps h_a h_b h_hi h_lo
 replace hwd := Lib.hid hwd
 replace hb1 := Lib.hid hb1
 go_enter Tryz.func8, Tryz.ntmps8
 go_upto_region 1 with fail
 rw [← hw1]
 clear hw1
 go_upto_region 3 with (go_at_call 12; (refine RT.out.mono ?_); rintro e w3 ⟨rfl, hb3⟩)
 clear c0 c1 c2 c3 c4 c5 c6 c7 c8 c9 c10 c11 c12 RT
 have hbD : Below w1.heap.size w1 w3.drew := hb3.drew
 refine wp_region_held_drew (S := fun W => Below w1.heap.size w1 W ∧ W.cell? ⟨w.heap.size, 0, none⟩ = some (.int .i64 2) ∧ W.cell? ⟨w.heap.size, 1, none⟩ = some (.int .i64 at_) ∧ W.cell? ⟨w.heap.size, 2, none⟩ = some (.int .i64 id) ∧ W.cell? ⟨w.heap.size, 3, none⟩ = some (.int .i64 n) ∧ W.cell? ⟨w.heap.size, 4, none⟩ = some (.string ⟨s.toArray⟩) ∧ W.cell? ⟨w.heap.size, 5, none⟩ = some (.int .u64 ((a : Nat) : Int)) ∧ W.cell? ⟨w.heap.size, 6, none⟩ = some (.int .u64 ((b : Nat) : Int)) ∧ W.cell? ⟨w.heap.size, 7, none⟩ = some (.bool on) ∧ W.cell? ⟨w.heap.size, 8, none⟩ = some (.bool v6) ∧ W.cell? ⟨w.heap.size, 9, none⟩ = some (.int .u64 ((hi : Nat) : Int)) ∧ W.cell? ⟨w.heap.size, 10, none⟩ = some (.int .u64 ((lo : Nat) : Int)) ∧ W.cell? ⟨w.heap.size, 11, none⟩ = some (.int .i64 pk) ∧ W.cell? ⟨w.heap.size, 12, none⟩ = some (.int .i64 ps)) (by kernel_rfl) ⟨hbD, hC.out w3.drew hbD⟩ (fun hHeld => ?_)
 generalize w3.drew = wd0 at *
 refine' tk 1 rfl rfl ?_ ?_; rotate_left; · ((intro w hSw; (try dsimp only at hSw); go_simp) <;> with_reducible rfl); try go_frame
 refine' tk 2 rfl rfl ?_ ?_; rotate_left; · ((intro w hSw; (try dsimp only at hSw); go_simp) <;> with_reducible rfl); try go_frame
 refine wpAnyH_ready (rs := [0]) (by kernel_rfl) (by simp) ?_; refine consH rfl (fun K hK => ?_) AllReadyH.nil
 go_simp
 (go_at_call 23; (with_reducible refine (WD.out _).mono ?_))
 rintro e w4 ⟨rfl, hB4, hb4⟩
 have hbS4 := below_chain hb4 hHeld.1
 have cW : w4.cell? ⟨wd0.heap.size, 2, none⟩ = some (.string ⟨wd.toArray⟩) := by have hc := blk_str hB4 (j := 2) (by decide); rw [hwd.out] at hc; exact hc
 refine hK.out _ _ ⟨hbS4, hC.out _ hbS4⟩ (fun hHeld4 => ?_)
 clear hK K
 try go_frame
 refine' tk 3 rfl rfl ?_ ?_; rotate_left; · ((intro w hSw; (try dsimp only at hSw); go_simp) <;> with_reducible rfl); try go_frame
 refine wpAnyH_ready (rs := [4]) (by kernel_rfl) (by simp) ?_; refine consH rfl (fun K hK => ?_) AllReadyH.nil
 go_simp
 refine hK.out _ _ hHeld4 (fun hHeld5 => ?_)
 clear hK K
 try go_frame
 refine' tk 5 rfl rfl ?_ ?_; rotate_left; · ((intro w hSw; (try dsimp only at hSw); go_simp) <;> with_reducible rfl); try go_frame
 refine wpAnyH_done (by kernel_rfl) ?_ _
 clear cW hB4
 obtain ⟨hbW, c0, c1, c2, c3, c4, c5, c6, c7, c8, c9, c10, c11, c12⟩ := hHeld5
 clear hHeld hHeld4 hb4 hbS4 hbD hb3
 go_upto_region 10 with fail
 clear c0 c1 c2 c3 c4 c5 c6 c7 c8 c9 c10 c11 c12
 have hbD := hbW.drew
 refine wp_region_held_drew (S := fun W => Below w1.heap.size w1 W ∧ W.cell? ⟨w.heap.size, 0, none⟩ = some (.int .i64 2) ∧ W.cell? ⟨w.heap.size, 1, none⟩ = some (.int .i64 at_) ∧ W.cell? ⟨w.heap.size, 2, none⟩ = some (.int .i64 id) ∧ W.cell? ⟨w.heap.size, 3, none⟩ = some (.int .i64 n) ∧ W.cell? ⟨w.heap.size, 4, none⟩ = some (.string ⟨s.toArray⟩) ∧ W.cell? ⟨w.heap.size, 5, none⟩ = some (.int .u64 ((a : Nat) : Int)) ∧ W.cell? ⟨w.heap.size, 6, none⟩ = some (.int .u64 ((b : Nat) : Int)) ∧ W.cell? ⟨w.heap.size, 7, none⟩ = some (.bool on) ∧ W.cell? ⟨w.heap.size, 8, none⟩ = some (.bool v6) ∧ W.cell? ⟨w.heap.size, 9, none⟩ = some (.int .u64 ((hi : Nat) : Int)) ∧ W.cell? ⟨w.heap.size, 10, none⟩ = some (.int .u64 ((lo : Nat) : Int)) ∧ W.cell? ⟨w.heap.size, 11, none⟩ = some (.int .i64 pk) ∧ W.cell? ⟨w.heap.size, 12, none⟩ = some (.int .i64 ps)) (by kernel_rfl) ⟨hbD, hC.out w4.drew hbD⟩ (fun hH => ?_)
 generalize w4.drew = wd1 at *
 refine' tk 0 rfl rfl ?_ ?_; rotate_left; · ((intro w hSw; (try dsimp only at hSw); go_simp) <;> with_reducible rfl); try go_frame
 refine' tk 1 rfl rfl ?_ ?_; rotate_left; · ((intro w hSw; (try dsimp only at hSw); go_simp) <;> with_reducible rfl); try go_frame
 refine' tk 2 rfl rfl ?_ ?_; rotate_left; · ((intro w hSw; (try dsimp only at hSw); go_simp) <;> with_reducible rfl); try go_frame
 refine' tk 3 rfl rfl ?_ ?_; rotate_left; · ((intro w hSw; (try dsimp only at hSw); go_simp) <;> with_reducible rfl); try go_frame
 refine' tk 7 rfl rfl ?_ ?_; rotate_left; · ((intro w hSw; (try dsimp only at hSw); go_simp) <;> with_reducible rfl); try go_frame
 refine' tk 8 rfl rfl ?_ ?_; rotate_left; · ((intro w hSw; (try dsimp only at hSw); go_simp) <;> with_reducible rfl); try go_frame
 refine wpAnyH_ready (rs := [4]) (by kernel_rfl) (by simp) ?_; refine consH rfl (fun K hK => ?_) AllReadyH.nil
 go_simp
 (go_at_call 24; (with_reducible refine (N0.out _).mono ?_))
 rintro e v0 ⟨rfl, hbv0⟩
 have hbS0 := below_chain hbv0 hH.1
 refine hK.out _ _ ⟨hbS0, hC.out _ hbS0⟩ (fun hH0 => ?_)
 clear hK K
 try go_frame
 refine' tk 5 rfl rfl ?_ ?_; rotate_left; · ((intro w hSw; (try dsimp only at hSw); go_simp) <;> with_reducible rfl); try go_frame
 refine' tk 6 rfl rfl ?_ ?_; rotate_left; · ((intro w hSw; (try dsimp only at hSw); go_simp) <;> with_reducible rfl); try go_frame
 refine wpAnyH_ready (rs := [9]) (by kernel_rfl) (by simp) ?_; refine consH rfl (fun K hK => ?_) AllReadyH.nil
 go_simp
 (go_at_call 27; (with_reducible refine (N1.out _).mono ?_))
 rintro e v1 ⟨rfl, hbv1⟩
 have hbS1 := below_chain hbv1 hH0.1
 refine hK.out _ _ ⟨hbS1, hC.out _ hbS1⟩ (fun hH1 => ?_)
 clear hK K
 try go_frame
 refine' tk 10 rfl rfl ?_ ?_; rotate_left; · ((intro w hSw; (try dsimp only at hSw); go_simp) <;> with_reducible rfl); try go_frame
 refine' tk 11 rfl rfl ?_ ?_; rotate_left; · ((intro w hSw; (try dsimp only at hSw); go_simp) <;> with_reducible rfl); try go_frame
 refine wpAnyH_done (by kernel_rfl) ?_ _
 go_wp2_with fail
 go_ret2
 exact ⟨rfl, below_chain hH1.1 hb1.out⟩
set_option maxRecDepth 100000 in
set_option maxHeartbeats 32000000 in
theorem rline3 (at_ id n : Int) (s : List UInt8) (a b : Nat) (on v6 : Bool) (hi lo : Nat) (pk ps : Int) (w : World) (hr : rightL (⟨3, at_, id, n, s, a, b, on, v6, hi, lo, pk, ps⟩ : ActL) = true) (hin : inL (⟨3, at_, id, n, s, a, b, on, v6, hi, lo, pk, ps⟩ : ActL)) (_hs : s.length ≤ 1000000) (L : List UInt8) (hL : L = lineL (⟨3, at_, id, n, s, a, b, on, v6, hi, lo, pk, ps⟩ : ActL)) :
  Calls Tryz.prog 8 #[.agg #[.int .i64 3, .int .i64 at_, .int .i64 id, .int .i64 n, .string ⟨s.toArray⟩, .int .u64 ((a : Nat) : Int), .int .u64 ((b : Nat) : Int), .bool on, .bool v6, .int .u64 ((hi : Nat) : Int), .int .u64 ((lo : Nat) : Int), .int .i64 pk, .int .i64 ps]] w fun e w' => e = .returned (.tuple #[.string ⟨L.toArray⟩, .bool true]) ∧ Below w.heap.size w w' := by
 obtain ⟨w1, hw1⟩ : ∃ w1, w1 = w.alloc (.cells #[.int .i64 3, .int .i64 at_, .int .i64 id, .int .i64 n, .string ⟨s.toArray⟩, .int .u64 ((a : Nat) : Int), .int .u64 ((b : Nat) : Int), .bool on, .bool v6, .int .u64 ((hi : Nat) : Int), .int .u64 ((lo : Nat) : Int), .int .i64 pk, .int .i64 ps] 28) := ⟨_, rfl⟩
 have hb1 : Below w.heap.size w w1 := hw1 ▸ below_alloc (Below.refl _ _) _
 have h1 : Blk w1 w.heap.size 28 (actCs (⟨3, at_, id, n, s, a, b, on, v6, hi, lo, pk, ps⟩ : ActL)) := by rw [hw1]; exact Blk.new w 28 _
 obtain ⟨c0, c1, c2, c3, c4, c5, c6, c7, c8, c9, c10, c11, c12⟩ := act13 h1
 have RT := rs_right (⟨3, at_, id, n, s, a, b, on, v6, hi, lo, pk, ps⟩ : ActL) w1
 rw [hr] at RT
 replace RT := Lib.hid (show Calls Tryz.prog 12 #[.agg #[.int .i64 3, .int .i64 at_, .int .i64 id, .int .i64 n, .string ⟨s.toArray⟩, .int .u64 ((a : Nat) : Int), .int .u64 ((b : Nat) : Int), .bool on, .bool v6, .int .u64 ((hi : Nat) : Int), .int .u64 ((lo : Nat) : Int), .int .i64 pk, .int .i64 ps]] w1 _ from RT)
 have WD := Lib.hid rs_words
 have hC := Lib.hid fun W (hb : Below w1.heap.size w1 W) => act13 (x := (⟨3, at_, id, n, s, a, b, on, v6, hi, lo, pk, ps⟩ : ActL)) (h1.call hb)
 obtain ⟨h_at_, h_id, h_n, h_pk, h_ps⟩ := right_num hr
 obtain ⟨h_a, h_b, h_hi, h_lo⟩ := hin
 simp only at h_at_ h_id h_n h_pk h_ps h_a h_b h_hi h_lo
 have hLj : L = Lib.join (wordsL.getD 3 [] :: [Lib.itoa id]) [32] := hL
 obtain ⟨wd, hwd⟩ : ∃ wd, wordsL.getD 3 [] = wd := ⟨_, rfl⟩
 have lw : wd.length ≤ 6 := by rw [← hwd]; exact word_len_fin 3
 rw [hwd] at hLj
 have N0 := fun W => ref_digits id W (by have := numOk_iff.1 h_id; omega) (by have := numOk_iff.1 h_id; omega)
 have l0 := itoa_len h_id
 generalize hA0 : Lib.itoa id = A0 at N0 l0 hLj
 replace N0 := Lib.hid N0
 replace hA0 := Lib.hid hA0
 obtain ⟨p1, e1, k1, s1, q1⟩ := catS wd (by omega)
 obtain ⟨p2, e2, k2, s2, q2⟩ := catA p1 A0 (by omega) (by omega)
 have hLp : L = p2 := by
  rw [hLj, ← e2, ← e1]
  simp [join_cons2, Lib.join_one]
 subst hLp
 clear h1 hr _hs hL hLj e1 q1 e2 q2 l0 lw h_at_ h_id h_n h_pk h_ps h_a h_b h_hi h_lo
 replace hwd := Lib.hid hwd
 replace hb1 := Lib.hid hb1
 go_enter Tryz.func8, Tryz.ntmps8
 go_upto_region 1 with fail
 rw [← hw1]
 clear hw1
 go_upto_region 3 with (go_at_call 12; (refine RT.out.mono ?_); rintro e w3 ⟨rfl, hb3⟩)
 clear c0 c1 c2 c3 c4 c5 c6 c7 c8 c9 c10 c11 c12 RT
 have hbD : Below w1.heap.size w1 w3.drew := hb3.drew
 refine wp_region_held_drew (S := fun W => Below w1.heap.size w1 W ∧ W.cell? ⟨w.heap.size, 0, none⟩ = some (.int .i64 3) ∧ W.cell? ⟨w.heap.size, 1, none⟩ = some (.int .i64 at_) ∧ W.cell? ⟨w.heap.size, 2, none⟩ = some (.int .i64 id) ∧ W.cell? ⟨w.heap.size, 3, none⟩ = some (.int .i64 n) ∧ W.cell? ⟨w.heap.size, 4, none⟩ = some (.string ⟨s.toArray⟩) ∧ W.cell? ⟨w.heap.size, 5, none⟩ = some (.int .u64 ((a : Nat) : Int)) ∧ W.cell? ⟨w.heap.size, 6, none⟩ = some (.int .u64 ((b : Nat) : Int)) ∧ W.cell? ⟨w.heap.size, 7, none⟩ = some (.bool on) ∧ W.cell? ⟨w.heap.size, 8, none⟩ = some (.bool v6) ∧ W.cell? ⟨w.heap.size, 9, none⟩ = some (.int .u64 ((hi : Nat) : Int)) ∧ W.cell? ⟨w.heap.size, 10, none⟩ = some (.int .u64 ((lo : Nat) : Int)) ∧ W.cell? ⟨w.heap.size, 11, none⟩ = some (.int .i64 pk) ∧ W.cell? ⟨w.heap.size, 12, none⟩ = some (.int .i64 ps)) (by kernel_rfl) ⟨hbD, hC.out w3.drew hbD⟩ (fun hHeld => ?_)
 generalize w3.drew = wd0 at *
 refine' tk 1 rfl rfl ?_ ?_; rotate_left; · ((intro w hSw; (try dsimp only at hSw); go_simp) <;> with_reducible rfl); try go_frame
 refine' tk 2 rfl rfl ?_ ?_; rotate_left; · ((intro w hSw; (try dsimp only at hSw); go_simp) <;> with_reducible rfl); try go_frame
 refine wpAnyH_ready (rs := [0]) (by kernel_rfl) (by simp) ?_; refine consH rfl (fun K hK => ?_) AllReadyH.nil
 go_simp
 (go_at_call 23; (with_reducible refine (WD.out _).mono ?_))
 rintro e w4 ⟨rfl, hB4, hb4⟩
 have hbS4 := below_chain hb4 hHeld.1
 have cW : w4.cell? ⟨wd0.heap.size, 3, none⟩ = some (.string ⟨wd.toArray⟩) := by have hc := blk_str hB4 (j := 3) (by decide); rw [hwd.out] at hc; exact hc
 refine hK.out _ _ ⟨hbS4, hC.out _ hbS4⟩ (fun hHeld4 => ?_)
 clear hK K
 try go_frame
 refine' tk 3 rfl rfl ?_ ?_; rotate_left; · ((intro w hSw; (try dsimp only at hSw); go_simp) <;> with_reducible rfl); try go_frame
 refine wpAnyH_ready (rs := [4]) (by kernel_rfl) (by simp) ?_; refine consH rfl (fun K hK => ?_) AllReadyH.nil
 go_simp
 refine hK.out _ _ hHeld4 (fun hHeld5 => ?_)
 clear hK K
 try go_frame
 refine' tk 5 rfl rfl ?_ ?_; rotate_left; · ((intro w hSw; (try dsimp only at hSw); go_simp) <;> with_reducible rfl); try go_frame
 refine wpAnyH_done (by kernel_rfl) ?_ _
 clear cW hB4
 obtain ⟨hbW, c0, c1, c2, c3, c4, c5, c6, c7, c8, c9, c10, c11, c12⟩ := hHeld5
 clear hHeld hHeld4 hb4 hbS4 hbD hb3
 go_wp2_with (go_at_call 24; (with_reducible refine (N0.out _).mono ?_); rintro e w6 ⟨rfl, hb6⟩)
 go_ret2
 exact ⟨rfl, below_chain hb6 (below_chain hbW hb1.out)⟩
set_option maxRecDepth 100000 in
set_option maxHeartbeats 32000000 in
theorem rline4 (at_ id n : Int) (s : List UInt8) (a b : Nat) (on v6 : Bool) (hi lo : Nat) (pk ps : Int) (w : World) (hr : rightL (⟨4, at_, id, n, s, a, b, on, v6, hi, lo, pk, ps⟩ : ActL) = true) (hin : inL (⟨4, at_, id, n, s, a, b, on, v6, hi, lo, pk, ps⟩ : ActL)) (_hs : s.length ≤ 1000000) (L : List UInt8) (hL : L = lineL (⟨4, at_, id, n, s, a, b, on, v6, hi, lo, pk, ps⟩ : ActL)) :
  Calls Tryz.prog 8 #[.agg #[.int .i64 4, .int .i64 at_, .int .i64 id, .int .i64 n, .string ⟨s.toArray⟩, .int .u64 ((a : Nat) : Int), .int .u64 ((b : Nat) : Int), .bool on, .bool v6, .int .u64 ((hi : Nat) : Int), .int .u64 ((lo : Nat) : Int), .int .i64 pk, .int .i64 ps]] w fun e w' => e = .returned (.tuple #[.string ⟨L.toArray⟩, .bool true]) ∧ Below w.heap.size w w' := by
 obtain ⟨w1, hw1⟩ : ∃ w1, w1 = w.alloc (.cells #[.int .i64 4, .int .i64 at_, .int .i64 id, .int .i64 n, .string ⟨s.toArray⟩, .int .u64 ((a : Nat) : Int), .int .u64 ((b : Nat) : Int), .bool on, .bool v6, .int .u64 ((hi : Nat) : Int), .int .u64 ((lo : Nat) : Int), .int .i64 pk, .int .i64 ps] 28) := ⟨_, rfl⟩
 have hb1 : Below w.heap.size w w1 := hw1 ▸ below_alloc (Below.refl _ _) _
 have h1 : Blk w1 w.heap.size 28 (actCs (⟨4, at_, id, n, s, a, b, on, v6, hi, lo, pk, ps⟩ : ActL)) := by rw [hw1]; exact Blk.new w 28 _
 obtain ⟨c0, c1, c2, c3, c4, c5, c6, c7, c8, c9, c10, c11, c12⟩ := act13 h1
 have RT := rs_right (⟨4, at_, id, n, s, a, b, on, v6, hi, lo, pk, ps⟩ : ActL) w1
 rw [hr] at RT
 replace RT := Lib.hid (show Calls Tryz.prog 12 #[.agg #[.int .i64 4, .int .i64 at_, .int .i64 id, .int .i64 n, .string ⟨s.toArray⟩, .int .u64 ((a : Nat) : Int), .int .u64 ((b : Nat) : Int), .bool on, .bool v6, .int .u64 ((hi : Nat) : Int), .int .u64 ((lo : Nat) : Int), .int .i64 pk, .int .i64 ps]] w1 _ from RT)
 have WD := Lib.hid rs_words
 have hC := Lib.hid fun W (hb : Below w1.heap.size w1 W) => act13 (x := (⟨4, at_, id, n, s, a, b, on, v6, hi, lo, pk, ps⟩ : ActL)) (h1.call hb)
 obtain ⟨h_at_, h_id, h_n, h_pk, h_ps⟩ := right_num hr
 obtain ⟨h_a, h_b, h_hi, h_lo⟩ := hin
 simp only at h_at_ h_id h_n h_pk h_ps h_a h_b h_hi h_lo
 have hLj : L = Lib.join (wordsL.getD 4 [] :: [Lib.itoa id, onL on]) [32] := hL
 obtain ⟨wd, hwd⟩ : ∃ wd, wordsL.getD 4 [] = wd := ⟨_, rfl⟩
 have lw : wd.length ≤ 6 := by rw [← hwd]; exact word_len_fin 4
 rw [hwd] at hLj
 have N0 := fun W => ref_digits id W (by have := numOk_iff.1 h_id; omega) (by have := numOk_iff.1 h_id; omega)
 have l0 := itoa_len h_id
 have N1 := fun W => rs_on on W
 have l1 := on_len on
 generalize hA0 : Lib.itoa id = A0 at N0 l0 hLj
 replace N0 := Lib.hid N0
 replace hA0 := Lib.hid hA0
 generalize hA1 : onL on = A1 at N1 l1 hLj
 replace N1 := Lib.hid N1
 replace hA1 := Lib.hid hA1
 obtain ⟨p1, e1, k1, s1, q1⟩ := catS wd (by omega)
 obtain ⟨p2, e2, k2, s2, q2⟩ := catA p1 A0 (by omega) (by omega)
 obtain ⟨p3, e3, k3, s3, q3⟩ := catS p2 (by omega)
 obtain ⟨p4, e4, k4, s4, q4⟩ := catA p3 A1 (by omega) (by omega)
 have hLp : L = p4 := by
  rw [hLj, ← e4, ← e3, ← e2, ← e1]
  simp [join_cons2, Lib.join_one]
 subst hLp
 clear h1 hr _hs hL hLj e1 q1 e2 q2 e3 q3 e4 q4 l0 l1 lw h_at_ h_id h_n h_pk h_ps h_a h_b h_hi h_lo
 replace hwd := Lib.hid hwd
 replace hb1 := Lib.hid hb1
 go_enter Tryz.func8, Tryz.ntmps8
 go_upto_region 1 with fail
 rw [← hw1]
 clear hw1
 go_upto_region 3 with (go_at_call 12; (refine RT.out.mono ?_); rintro e w3 ⟨rfl, hb3⟩)
 clear c0 c1 c2 c3 c4 c5 c6 c7 c8 c9 c10 c11 c12 RT
 have hbD : Below w1.heap.size w1 w3.drew := hb3.drew
 refine wp_region_held_drew (S := fun W => Below w1.heap.size w1 W ∧ W.cell? ⟨w.heap.size, 0, none⟩ = some (.int .i64 4) ∧ W.cell? ⟨w.heap.size, 1, none⟩ = some (.int .i64 at_) ∧ W.cell? ⟨w.heap.size, 2, none⟩ = some (.int .i64 id) ∧ W.cell? ⟨w.heap.size, 3, none⟩ = some (.int .i64 n) ∧ W.cell? ⟨w.heap.size, 4, none⟩ = some (.string ⟨s.toArray⟩) ∧ W.cell? ⟨w.heap.size, 5, none⟩ = some (.int .u64 ((a : Nat) : Int)) ∧ W.cell? ⟨w.heap.size, 6, none⟩ = some (.int .u64 ((b : Nat) : Int)) ∧ W.cell? ⟨w.heap.size, 7, none⟩ = some (.bool on) ∧ W.cell? ⟨w.heap.size, 8, none⟩ = some (.bool v6) ∧ W.cell? ⟨w.heap.size, 9, none⟩ = some (.int .u64 ((hi : Nat) : Int)) ∧ W.cell? ⟨w.heap.size, 10, none⟩ = some (.int .u64 ((lo : Nat) : Int)) ∧ W.cell? ⟨w.heap.size, 11, none⟩ = some (.int .i64 pk) ∧ W.cell? ⟨w.heap.size, 12, none⟩ = some (.int .i64 ps)) (by kernel_rfl) ⟨hbD, hC.out w3.drew hbD⟩ (fun hHeld => ?_)
 generalize w3.drew = wd0 at *
 refine' tk 1 rfl rfl ?_ ?_; rotate_left; · ((intro w hSw; (try dsimp only at hSw); go_simp) <;> with_reducible rfl); try go_frame
 refine' tk 2 rfl rfl ?_ ?_; rotate_left; · ((intro w hSw; (try dsimp only at hSw); go_simp) <;> with_reducible rfl); try go_frame
 refine wpAnyH_ready (rs := [0]) (by kernel_rfl) (by simp) ?_; refine consH rfl (fun K hK => ?_) AllReadyH.nil
 go_simp
 (go_at_call 23; (with_reducible refine (WD.out _).mono ?_))
 rintro e w4 ⟨rfl, hB4, hb4⟩
 have hbS4 := below_chain hb4 hHeld.1
 have cW : w4.cell? ⟨wd0.heap.size, 4, none⟩ = some (.string ⟨wd.toArray⟩) := by have hc := blk_str hB4 (j := 4) (by decide); rw [hwd.out] at hc; exact hc
 refine hK.out _ _ ⟨hbS4, hC.out _ hbS4⟩ (fun hHeld4 => ?_)
 clear hK K
 try go_frame
 refine' tk 3 rfl rfl ?_ ?_; rotate_left; · ((intro w hSw; (try dsimp only at hSw); go_simp) <;> with_reducible rfl); try go_frame
 refine wpAnyH_ready (rs := [4]) (by kernel_rfl) (by simp) ?_; refine consH rfl (fun K hK => ?_) AllReadyH.nil
 go_simp
 refine hK.out _ _ hHeld4 (fun hHeld5 => ?_)
 clear hK K
 try go_frame
 refine' tk 5 rfl rfl ?_ ?_; rotate_left; · ((intro w hSw; (try dsimp only at hSw); go_simp) <;> with_reducible rfl); try go_frame
 refine wpAnyH_done (by kernel_rfl) ?_ _
 clear cW hB4
 obtain ⟨hbW, c0, c1, c2, c3, c4, c5, c6, c7, c8, c9, c10, c11, c12⟩ := hHeld5
 clear hHeld hHeld4 hb4 hbS4 hbD hb3
 go_upto_region 15 with fail
 clear c0 c1 c2 c3 c4 c5 c6 c7 c8 c9 c10 c11 c12
 have hbD := hbW.drew
 refine wp_region_held_drew (S := fun W => Below w1.heap.size w1 W ∧ W.cell? ⟨w.heap.size, 0, none⟩ = some (.int .i64 4) ∧ W.cell? ⟨w.heap.size, 1, none⟩ = some (.int .i64 at_) ∧ W.cell? ⟨w.heap.size, 2, none⟩ = some (.int .i64 id) ∧ W.cell? ⟨w.heap.size, 3, none⟩ = some (.int .i64 n) ∧ W.cell? ⟨w.heap.size, 4, none⟩ = some (.string ⟨s.toArray⟩) ∧ W.cell? ⟨w.heap.size, 5, none⟩ = some (.int .u64 ((a : Nat) : Int)) ∧ W.cell? ⟨w.heap.size, 6, none⟩ = some (.int .u64 ((b : Nat) : Int)) ∧ W.cell? ⟨w.heap.size, 7, none⟩ = some (.bool on) ∧ W.cell? ⟨w.heap.size, 8, none⟩ = some (.bool v6) ∧ W.cell? ⟨w.heap.size, 9, none⟩ = some (.int .u64 ((hi : Nat) : Int)) ∧ W.cell? ⟨w.heap.size, 10, none⟩ = some (.int .u64 ((lo : Nat) : Int)) ∧ W.cell? ⟨w.heap.size, 11, none⟩ = some (.int .i64 pk) ∧ W.cell? ⟨w.heap.size, 12, none⟩ = some (.int .i64 ps)) (by kernel_rfl) ⟨hbD, hC.out w4.drew hbD⟩ (fun hH => ?_)
 generalize w4.drew = wd1 at *
 refine' tk 0 rfl rfl ?_ ?_; rotate_left; · ((intro w hSw; (try dsimp only at hSw); go_simp) <;> with_reducible rfl); try go_frame
 refine' tk 1 rfl rfl ?_ ?_; rotate_left; · ((intro w hSw; (try dsimp only at hSw); go_simp) <;> with_reducible rfl); try go_frame
 refine' tk 2 rfl rfl ?_ ?_; rotate_left; · ((intro w hSw; (try dsimp only at hSw); go_simp) <;> with_reducible rfl); try go_frame
 refine' tk 3 rfl rfl ?_ ?_; rotate_left; · ((intro w hSw; (try dsimp only at hSw); go_simp) <;> with_reducible rfl); try go_frame
 refine' tk 7 rfl rfl ?_ ?_; rotate_left; · ((intro w hSw; (try dsimp only at hSw); go_simp) <;> with_reducible rfl); try go_frame
 refine' tk 8 rfl rfl ?_ ?_; rotate_left; · ((intro w hSw; (try dsimp only at hSw); go_simp) <;> with_reducible rfl); try go_frame
 refine wpAnyH_ready (rs := [4]) (by kernel_rfl) (by simp) ?_; refine consH rfl (fun K hK => ?_) AllReadyH.nil
 go_simp
 (go_at_call 24; (with_reducible refine (N0.out _).mono ?_))
 rintro e v0 ⟨rfl, hbv0⟩
 have hbS0 := below_chain hbv0 hH.1
 refine hK.out _ _ ⟨hbS0, hC.out _ hbS0⟩ (fun hH0 => ?_)
 clear hK K
 try go_frame
 refine' tk 5 rfl rfl ?_ ?_; rotate_left; · ((intro w hSw; (try dsimp only at hSw); go_simp) <;> with_reducible rfl); try go_frame
 refine' tk 6 rfl rfl ?_ ?_; rotate_left; · ((intro w hSw; (try dsimp only at hSw); go_simp) <;> with_reducible rfl); try go_frame
 refine wpAnyH_ready (rs := [9]) (by kernel_rfl) (by simp) ?_; refine consH rfl (fun K hK => ?_) AllReadyH.nil
 go_simp
 (go_at_call 28; (with_reducible refine (N1.out _).mono ?_))
 rintro e v1 ⟨rfl, rfl⟩
 refine hK.out _ _ hH0 (fun hH1 => ?_)
 clear hK K
 try go_frame
 refine' tk 10 rfl rfl ?_ ?_; rotate_left; · ((intro w hSw; (try dsimp only at hSw); go_simp) <;> with_reducible rfl); try go_frame
 refine' tk 11 rfl rfl ?_ ?_; rotate_left; · ((intro w hSw; (try dsimp only at hSw); go_simp) <;> with_reducible rfl); try go_frame
 refine wpAnyH_done (by kernel_rfl) ?_ _
 go_wp2_with fail
 go_ret2
 exact ⟨rfl, below_chain hH1.1 hb1.out⟩
set_option maxRecDepth 100000 in
set_option maxHeartbeats 32000000 in
theorem rline5 (at_ id n : Int) (s : List UInt8) (a b : Nat) (on v6 : Bool) (hi lo : Nat) (pk ps : Int) (w : World) (hr : rightL (⟨5, at_, id, n, s, a, b, on, v6, hi, lo, pk, ps⟩ : ActL) = true) (hin : inL (⟨5, at_, id, n, s, a, b, on, v6, hi, lo, pk, ps⟩ : ActL)) (_hs : s.length ≤ 1000000) (L : List UInt8) (hL : L = lineL (⟨5, at_, id, n, s, a, b, on, v6, hi, lo, pk, ps⟩ : ActL)) :
  Calls Tryz.prog 8 #[.agg #[.int .i64 5, .int .i64 at_, .int .i64 id, .int .i64 n, .string ⟨s.toArray⟩, .int .u64 ((a : Nat) : Int), .int .u64 ((b : Nat) : Int), .bool on, .bool v6, .int .u64 ((hi : Nat) : Int), .int .u64 ((lo : Nat) : Int), .int .i64 pk, .int .i64 ps]] w fun e w' => e = .returned (.tuple #[.string ⟨L.toArray⟩, .bool true]) ∧ Below w.heap.size w w' := by
 obtain ⟨w1, hw1⟩ : ∃ w1, w1 = w.alloc (.cells #[.int .i64 5, .int .i64 at_, .int .i64 id, .int .i64 n, .string ⟨s.toArray⟩, .int .u64 ((a : Nat) : Int), .int .u64 ((b : Nat) : Int), .bool on, .bool v6, .int .u64 ((hi : Nat) : Int), .int .u64 ((lo : Nat) : Int), .int .i64 pk, .int .i64 ps] 28) := ⟨_, rfl⟩
 have hb1 : Below w.heap.size w w1 := hw1 ▸ below_alloc (Below.refl _ _) _
 have h1 : Blk w1 w.heap.size 28 (actCs (⟨5, at_, id, n, s, a, b, on, v6, hi, lo, pk, ps⟩ : ActL)) := by rw [hw1]; exact Blk.new w 28 _
 obtain ⟨c0, c1, c2, c3, c4, c5, c6, c7, c8, c9, c10, c11, c12⟩ := act13 h1
 have RT := rs_right (⟨5, at_, id, n, s, a, b, on, v6, hi, lo, pk, ps⟩ : ActL) w1
 rw [hr] at RT
 replace RT := Lib.hid (show Calls Tryz.prog 12 #[.agg #[.int .i64 5, .int .i64 at_, .int .i64 id, .int .i64 n, .string ⟨s.toArray⟩, .int .u64 ((a : Nat) : Int), .int .u64 ((b : Nat) : Int), .bool on, .bool v6, .int .u64 ((hi : Nat) : Int), .int .u64 ((lo : Nat) : Int), .int .i64 pk, .int .i64 ps]] w1 _ from RT)
 have WD := Lib.hid rs_words
 have hC := Lib.hid fun W (hb : Below w1.heap.size w1 W) => act13 (x := (⟨5, at_, id, n, s, a, b, on, v6, hi, lo, pk, ps⟩ : ActL)) (h1.call hb)
 obtain ⟨h_at_, h_id, h_n, h_pk, h_ps⟩ := right_num hr
 obtain ⟨h_a, h_b, h_hi, h_lo⟩ := hin
 simp only at h_at_ h_id h_n h_pk h_ps h_a h_b h_hi h_lo
 have hLj : L = Lib.join (wordsL.getD 5 [] :: [Lib.itoa id, Lib.itoa n]) [32] := hL
 obtain ⟨wd, hwd⟩ : ∃ wd, wordsL.getD 5 [] = wd := ⟨_, rfl⟩
 have lw : wd.length ≤ 6 := by rw [← hwd]; exact word_len_fin 5
 rw [hwd] at hLj
 have N0 := fun W => ref_digits id W (by have := numOk_iff.1 h_id; omega) (by have := numOk_iff.1 h_id; omega)
 have l0 := itoa_len h_id
 have N1 := fun W => ref_digits n W (by have := numOk_iff.1 h_n; omega) (by have := numOk_iff.1 h_n; omega)
 have l1 := itoa_len h_n
 generalize hA0 : Lib.itoa id = A0 at N0 l0 hLj
 replace N0 := Lib.hid N0
 replace hA0 := Lib.hid hA0
 generalize hA1 : Lib.itoa n = A1 at N1 l1 hLj
 replace N1 := Lib.hid N1
 replace hA1 := Lib.hid hA1
 obtain ⟨p1, e1, k1, s1, q1⟩ := catS wd (by omega)
 obtain ⟨p2, e2, k2, s2, q2⟩ := catA p1 A0 (by omega) (by omega)
 obtain ⟨p3, e3, k3, s3, q3⟩ := catS p2 (by omega)
 obtain ⟨p4, e4, k4, s4, q4⟩ := catA p3 A1 (by omega) (by omega)
 have hLp : L = p4 := by
  rw [hLj, ← e4, ← e3, ← e2, ← e1]
  simp [join_cons2, Lib.join_one]
 subst hLp
 clear h1 hr _hs hL hLj e1 q1 e2 q2 e3 q3 e4 q4 l0 l1 lw h_at_ h_id h_n h_pk h_ps h_a h_b h_hi h_lo
 replace hwd := Lib.hid hwd
 replace hb1 := Lib.hid hb1
 go_enter Tryz.func8, Tryz.ntmps8
 go_upto_region 1 with fail
 rw [← hw1]
 clear hw1
 go_upto_region 3 with (go_at_call 12; (refine RT.out.mono ?_); rintro e w3 ⟨rfl, hb3⟩)
 clear c0 c1 c2 c3 c4 c5 c6 c7 c8 c9 c10 c11 c12 RT
 have hbD : Below w1.heap.size w1 w3.drew := hb3.drew
 refine wp_region_held_drew (S := fun W => Below w1.heap.size w1 W ∧ W.cell? ⟨w.heap.size, 0, none⟩ = some (.int .i64 5) ∧ W.cell? ⟨w.heap.size, 1, none⟩ = some (.int .i64 at_) ∧ W.cell? ⟨w.heap.size, 2, none⟩ = some (.int .i64 id) ∧ W.cell? ⟨w.heap.size, 3, none⟩ = some (.int .i64 n) ∧ W.cell? ⟨w.heap.size, 4, none⟩ = some (.string ⟨s.toArray⟩) ∧ W.cell? ⟨w.heap.size, 5, none⟩ = some (.int .u64 ((a : Nat) : Int)) ∧ W.cell? ⟨w.heap.size, 6, none⟩ = some (.int .u64 ((b : Nat) : Int)) ∧ W.cell? ⟨w.heap.size, 7, none⟩ = some (.bool on) ∧ W.cell? ⟨w.heap.size, 8, none⟩ = some (.bool v6) ∧ W.cell? ⟨w.heap.size, 9, none⟩ = some (.int .u64 ((hi : Nat) : Int)) ∧ W.cell? ⟨w.heap.size, 10, none⟩ = some (.int .u64 ((lo : Nat) : Int)) ∧ W.cell? ⟨w.heap.size, 11, none⟩ = some (.int .i64 pk) ∧ W.cell? ⟨w.heap.size, 12, none⟩ = some (.int .i64 ps)) (by kernel_rfl) ⟨hbD, hC.out w3.drew hbD⟩ (fun hHeld => ?_)
 generalize w3.drew = wd0 at *
 refine' tk 1 rfl rfl ?_ ?_; rotate_left; · ((intro w hSw; (try dsimp only at hSw); go_simp) <;> with_reducible rfl); try go_frame
 refine' tk 2 rfl rfl ?_ ?_; rotate_left; · ((intro w hSw; (try dsimp only at hSw); go_simp) <;> with_reducible rfl); try go_frame
 refine wpAnyH_ready (rs := [0]) (by kernel_rfl) (by simp) ?_; refine consH rfl (fun K hK => ?_) AllReadyH.nil
 go_simp
 (go_at_call 23; (with_reducible refine (WD.out _).mono ?_))
 rintro e w4 ⟨rfl, hB4, hb4⟩
 have hbS4 := below_chain hb4 hHeld.1
 have cW : w4.cell? ⟨wd0.heap.size, 5, none⟩ = some (.string ⟨wd.toArray⟩) := by have hc := blk_str hB4 (j := 5) (by decide); rw [hwd.out] at hc; exact hc
 refine hK.out _ _ ⟨hbS4, hC.out _ hbS4⟩ (fun hHeld4 => ?_)
 clear hK K
 try go_frame
 refine' tk 3 rfl rfl ?_ ?_; rotate_left; · ((intro w hSw; (try dsimp only at hSw); go_simp) <;> with_reducible rfl); try go_frame
 refine wpAnyH_ready (rs := [4]) (by kernel_rfl) (by simp) ?_; refine consH rfl (fun K hK => ?_) AllReadyH.nil
 go_simp
 refine hK.out _ _ hHeld4 (fun hHeld5 => ?_)
 clear hK K
 try go_frame
 refine' tk 5 rfl rfl ?_ ?_; rotate_left; · ((intro w hSw; (try dsimp only at hSw); go_simp) <;> with_reducible rfl); try go_frame
 refine wpAnyH_done (by kernel_rfl) ?_ _
 clear cW hB4
 obtain ⟨hbW, c0, c1, c2, c3, c4, c5, c6, c7, c8, c9, c10, c11, c12⟩ := hHeld5
 clear hHeld hHeld4 hb4 hbS4 hbD hb3
 go_upto_region 17 with fail
 clear c0 c1 c2 c3 c4 c5 c6 c7 c8 c9 c10 c11 c12
 have hbD := hbW.drew
 refine wp_region_held_drew (S := fun W => Below w1.heap.size w1 W ∧ W.cell? ⟨w.heap.size, 0, none⟩ = some (.int .i64 5) ∧ W.cell? ⟨w.heap.size, 1, none⟩ = some (.int .i64 at_) ∧ W.cell? ⟨w.heap.size, 2, none⟩ = some (.int .i64 id) ∧ W.cell? ⟨w.heap.size, 3, none⟩ = some (.int .i64 n) ∧ W.cell? ⟨w.heap.size, 4, none⟩ = some (.string ⟨s.toArray⟩) ∧ W.cell? ⟨w.heap.size, 5, none⟩ = some (.int .u64 ((a : Nat) : Int)) ∧ W.cell? ⟨w.heap.size, 6, none⟩ = some (.int .u64 ((b : Nat) : Int)) ∧ W.cell? ⟨w.heap.size, 7, none⟩ = some (.bool on) ∧ W.cell? ⟨w.heap.size, 8, none⟩ = some (.bool v6) ∧ W.cell? ⟨w.heap.size, 9, none⟩ = some (.int .u64 ((hi : Nat) : Int)) ∧ W.cell? ⟨w.heap.size, 10, none⟩ = some (.int .u64 ((lo : Nat) : Int)) ∧ W.cell? ⟨w.heap.size, 11, none⟩ = some (.int .i64 pk) ∧ W.cell? ⟨w.heap.size, 12, none⟩ = some (.int .i64 ps)) (by kernel_rfl) ⟨hbD, hC.out w4.drew hbD⟩ (fun hH => ?_)
 generalize w4.drew = wd1 at *
 refine' tk 0 rfl rfl ?_ ?_; rotate_left; · ((intro w hSw; (try dsimp only at hSw); go_simp) <;> with_reducible rfl); try go_frame
 refine' tk 1 rfl rfl ?_ ?_; rotate_left; · ((intro w hSw; (try dsimp only at hSw); go_simp) <;> with_reducible rfl); try go_frame
 refine' tk 2 rfl rfl ?_ ?_; rotate_left; · ((intro w hSw; (try dsimp only at hSw); go_simp) <;> with_reducible rfl); try go_frame
 refine' tk 3 rfl rfl ?_ ?_; rotate_left; · ((intro w hSw; (try dsimp only at hSw); go_simp) <;> with_reducible rfl); try go_frame
 refine' tk 7 rfl rfl ?_ ?_; rotate_left; · ((intro w hSw; (try dsimp only at hSw); go_simp) <;> with_reducible rfl); try go_frame
 refine' tk 8 rfl rfl ?_ ?_; rotate_left; · ((intro w hSw; (try dsimp only at hSw); go_simp) <;> with_reducible rfl); try go_frame
 refine wpAnyH_ready (rs := [4]) (by kernel_rfl) (by simp) ?_; refine consH rfl (fun K hK => ?_) AllReadyH.nil
 go_simp
 (go_at_call 24; (with_reducible refine (N0.out _).mono ?_))
 rintro e v0 ⟨rfl, hbv0⟩
 have hbS0 := below_chain hbv0 hH.1
 refine hK.out _ _ ⟨hbS0, hC.out _ hbS0⟩ (fun hH0 => ?_)
 clear hK K
 try go_frame
 refine' tk 5 rfl rfl ?_ ?_; rotate_left; · ((intro w hSw; (try dsimp only at hSw); go_simp) <;> with_reducible rfl); try go_frame
 refine' tk 6 rfl rfl ?_ ?_; rotate_left; · ((intro w hSw; (try dsimp only at hSw); go_simp) <;> with_reducible rfl); try go_frame
 refine wpAnyH_ready (rs := [9]) (by kernel_rfl) (by simp) ?_; refine consH rfl (fun K hK => ?_) AllReadyH.nil
 go_simp
 (go_at_call 24; (with_reducible refine (N1.out _).mono ?_))
 rintro e v1 ⟨rfl, hbv1⟩
 have hbS1 := below_chain hbv1 hH0.1
 refine hK.out _ _ ⟨hbS1, hC.out _ hbS1⟩ (fun hH1 => ?_)
 clear hK K
 try go_frame
 refine' tk 10 rfl rfl ?_ ?_; rotate_left; · ((intro w hSw; (try dsimp only at hSw); go_simp) <;> with_reducible rfl); try go_frame
 refine' tk 11 rfl rfl ?_ ?_; rotate_left; · ((intro w hSw; (try dsimp only at hSw); go_simp) <;> with_reducible rfl); try go_frame
 refine wpAnyH_done (by kernel_rfl) ?_ _
 go_wp2_with fail
 go_ret2
 exact ⟨rfl, below_chain hH1.1 hb1.out⟩
set_option maxRecDepth 100000 in
set_option maxHeartbeats 32000000 in
theorem rline6 (at_ id n : Int) (s : List UInt8) (a b : Nat) (on v6 : Bool) (hi lo : Nat) (pk ps : Int) (w : World) (hr : rightL (⟨6, at_, id, n, s, a, b, on, v6, hi, lo, pk, ps⟩ : ActL) = true) (hin : inL (⟨6, at_, id, n, s, a, b, on, v6, hi, lo, pk, ps⟩ : ActL)) (_hs : s.length ≤ 1000000) (L : List UInt8) (hL : L = lineL (⟨6, at_, id, n, s, a, b, on, v6, hi, lo, pk, ps⟩ : ActL)) :
  Calls Tryz.prog 8 #[.agg #[.int .i64 6, .int .i64 at_, .int .i64 id, .int .i64 n, .string ⟨s.toArray⟩, .int .u64 ((a : Nat) : Int), .int .u64 ((b : Nat) : Int), .bool on, .bool v6, .int .u64 ((hi : Nat) : Int), .int .u64 ((lo : Nat) : Int), .int .i64 pk, .int .i64 ps]] w fun e w' => e = .returned (.tuple #[.string ⟨L.toArray⟩, .bool true]) ∧ Below w.heap.size w w' := by
 obtain ⟨w1, hw1⟩ : ∃ w1, w1 = w.alloc (.cells #[.int .i64 6, .int .i64 at_, .int .i64 id, .int .i64 n, .string ⟨s.toArray⟩, .int .u64 ((a : Nat) : Int), .int .u64 ((b : Nat) : Int), .bool on, .bool v6, .int .u64 ((hi : Nat) : Int), .int .u64 ((lo : Nat) : Int), .int .i64 pk, .int .i64 ps] 28) := ⟨_, rfl⟩
 have hb1 : Below w.heap.size w w1 := hw1 ▸ below_alloc (Below.refl _ _) _
 have h1 : Blk w1 w.heap.size 28 (actCs (⟨6, at_, id, n, s, a, b, on, v6, hi, lo, pk, ps⟩ : ActL)) := by rw [hw1]; exact Blk.new w 28 _
 obtain ⟨c0, c1, c2, c3, c4, c5, c6, c7, c8, c9, c10, c11, c12⟩ := act13 h1
 have RT := rs_right (⟨6, at_, id, n, s, a, b, on, v6, hi, lo, pk, ps⟩ : ActL) w1
 rw [hr] at RT
 replace RT := Lib.hid (show Calls Tryz.prog 12 #[.agg #[.int .i64 6, .int .i64 at_, .int .i64 id, .int .i64 n, .string ⟨s.toArray⟩, .int .u64 ((a : Nat) : Int), .int .u64 ((b : Nat) : Int), .bool on, .bool v6, .int .u64 ((hi : Nat) : Int), .int .u64 ((lo : Nat) : Int), .int .i64 pk, .int .i64 ps]] w1 _ from RT)
 have WD := Lib.hid rs_words
 have hC := Lib.hid fun W (hb : Below w1.heap.size w1 W) => act13 (x := (⟨6, at_, id, n, s, a, b, on, v6, hi, lo, pk, ps⟩ : ActL)) (h1.call hb)
 obtain ⟨h_at_, h_id, h_n, h_pk, h_ps⟩ := right_num hr
 obtain ⟨h_a, h_b, h_hi, h_lo⟩ := hin
 simp only at h_at_ h_id h_n h_pk h_ps h_a h_b h_hi h_lo
 have hLj : L = Lib.join (wordsL.getD 6 [] :: [Lib.itoa id, onL on]) [32] := hL
 obtain ⟨wd, hwd⟩ : ∃ wd, wordsL.getD 6 [] = wd := ⟨_, rfl⟩
 have lw : wd.length ≤ 6 := by rw [← hwd]; exact word_len_fin 6
 rw [hwd] at hLj
 have N0 := fun W => ref_digits id W (by have := numOk_iff.1 h_id; omega) (by have := numOk_iff.1 h_id; omega)
 have l0 := itoa_len h_id
 have N1 := fun W => rs_on on W
 have l1 := on_len on
 generalize hA0 : Lib.itoa id = A0 at N0 l0 hLj
 replace N0 := Lib.hid N0
 replace hA0 := Lib.hid hA0
 generalize hA1 : onL on = A1 at N1 l1 hLj
 replace N1 := Lib.hid N1
 replace hA1 := Lib.hid hA1
 obtain ⟨p1, e1, k1, s1, q1⟩ := catS wd (by omega)
 obtain ⟨p2, e2, k2, s2, q2⟩ := catA p1 A0 (by omega) (by omega)
 obtain ⟨p3, e3, k3, s3, q3⟩ := catS p2 (by omega)
 obtain ⟨p4, e4, k4, s4, q4⟩ := catA p3 A1 (by omega) (by omega)
 have hLp : L = p4 := by
  rw [hLj, ← e4, ← e3, ← e2, ← e1]
  simp [join_cons2, Lib.join_one]
 subst hLp
 clear h1 hr _hs hL hLj e1 q1 e2 q2 e3 q3 e4 q4 l0 l1 lw h_at_ h_id h_n h_pk h_ps h_a h_b h_hi h_lo
 replace hwd := Lib.hid hwd
 replace hb1 := Lib.hid hb1
 go_enter Tryz.func8, Tryz.ntmps8
 go_upto_region 1 with fail
 rw [← hw1]
 clear hw1
 go_upto_region 3 with (go_at_call 12; (refine RT.out.mono ?_); rintro e w3 ⟨rfl, hb3⟩)
 clear c0 c1 c2 c3 c4 c5 c6 c7 c8 c9 c10 c11 c12 RT
 have hbD : Below w1.heap.size w1 w3.drew := hb3.drew
 refine wp_region_held_drew (S := fun W => Below w1.heap.size w1 W ∧ W.cell? ⟨w.heap.size, 0, none⟩ = some (.int .i64 6) ∧ W.cell? ⟨w.heap.size, 1, none⟩ = some (.int .i64 at_) ∧ W.cell? ⟨w.heap.size, 2, none⟩ = some (.int .i64 id) ∧ W.cell? ⟨w.heap.size, 3, none⟩ = some (.int .i64 n) ∧ W.cell? ⟨w.heap.size, 4, none⟩ = some (.string ⟨s.toArray⟩) ∧ W.cell? ⟨w.heap.size, 5, none⟩ = some (.int .u64 ((a : Nat) : Int)) ∧ W.cell? ⟨w.heap.size, 6, none⟩ = some (.int .u64 ((b : Nat) : Int)) ∧ W.cell? ⟨w.heap.size, 7, none⟩ = some (.bool on) ∧ W.cell? ⟨w.heap.size, 8, none⟩ = some (.bool v6) ∧ W.cell? ⟨w.heap.size, 9, none⟩ = some (.int .u64 ((hi : Nat) : Int)) ∧ W.cell? ⟨w.heap.size, 10, none⟩ = some (.int .u64 ((lo : Nat) : Int)) ∧ W.cell? ⟨w.heap.size, 11, none⟩ = some (.int .i64 pk) ∧ W.cell? ⟨w.heap.size, 12, none⟩ = some (.int .i64 ps)) (by kernel_rfl) ⟨hbD, hC.out w3.drew hbD⟩ (fun hHeld => ?_)
 generalize w3.drew = wd0 at *
 refine' tk 1 rfl rfl ?_ ?_; rotate_left; · ((intro w hSw; (try dsimp only at hSw); go_simp) <;> with_reducible rfl); try go_frame
 refine' tk 2 rfl rfl ?_ ?_; rotate_left; · ((intro w hSw; (try dsimp only at hSw); go_simp) <;> with_reducible rfl); try go_frame
 refine wpAnyH_ready (rs := [0]) (by kernel_rfl) (by simp) ?_; refine consH rfl (fun K hK => ?_) AllReadyH.nil
 go_simp
 (go_at_call 23; (with_reducible refine (WD.out _).mono ?_))
 rintro e w4 ⟨rfl, hB4, hb4⟩
 have hbS4 := below_chain hb4 hHeld.1
 have cW : w4.cell? ⟨wd0.heap.size, 6, none⟩ = some (.string ⟨wd.toArray⟩) := by have hc := blk_str hB4 (j := 6) (by decide); rw [hwd.out] at hc; exact hc
 refine hK.out _ _ ⟨hbS4, hC.out _ hbS4⟩ (fun hHeld4 => ?_)
 clear hK K
 try go_frame
 refine' tk 3 rfl rfl ?_ ?_; rotate_left; · ((intro w hSw; (try dsimp only at hSw); go_simp) <;> with_reducible rfl); try go_frame
 refine wpAnyH_ready (rs := [4]) (by kernel_rfl) (by simp) ?_; refine consH rfl (fun K hK => ?_) AllReadyH.nil
 go_simp
 refine hK.out _ _ hHeld4 (fun hHeld5 => ?_)
 clear hK K
 try go_frame
 refine' tk 5 rfl rfl ?_ ?_; rotate_left; · ((intro w hSw; (try dsimp only at hSw); go_simp) <;> with_reducible rfl); try go_frame
 refine wpAnyH_done (by kernel_rfl) ?_ _
 clear cW hB4
 obtain ⟨hbW, c0, c1, c2, c3, c4, c5, c6, c7, c8, c9, c10, c11, c12⟩ := hHeld5
 clear hHeld hHeld4 hb4 hbS4 hbD hb3
 go_upto_region 15 with fail
 clear c0 c1 c2 c3 c4 c5 c6 c7 c8 c9 c10 c11 c12
 have hbD := hbW.drew
 refine wp_region_held_drew (S := fun W => Below w1.heap.size w1 W ∧ W.cell? ⟨w.heap.size, 0, none⟩ = some (.int .i64 6) ∧ W.cell? ⟨w.heap.size, 1, none⟩ = some (.int .i64 at_) ∧ W.cell? ⟨w.heap.size, 2, none⟩ = some (.int .i64 id) ∧ W.cell? ⟨w.heap.size, 3, none⟩ = some (.int .i64 n) ∧ W.cell? ⟨w.heap.size, 4, none⟩ = some (.string ⟨s.toArray⟩) ∧ W.cell? ⟨w.heap.size, 5, none⟩ = some (.int .u64 ((a : Nat) : Int)) ∧ W.cell? ⟨w.heap.size, 6, none⟩ = some (.int .u64 ((b : Nat) : Int)) ∧ W.cell? ⟨w.heap.size, 7, none⟩ = some (.bool on) ∧ W.cell? ⟨w.heap.size, 8, none⟩ = some (.bool v6) ∧ W.cell? ⟨w.heap.size, 9, none⟩ = some (.int .u64 ((hi : Nat) : Int)) ∧ W.cell? ⟨w.heap.size, 10, none⟩ = some (.int .u64 ((lo : Nat) : Int)) ∧ W.cell? ⟨w.heap.size, 11, none⟩ = some (.int .i64 pk) ∧ W.cell? ⟨w.heap.size, 12, none⟩ = some (.int .i64 ps)) (by kernel_rfl) ⟨hbD, hC.out w4.drew hbD⟩ (fun hH => ?_)
 generalize w4.drew = wd1 at *
 refine' tk 0 rfl rfl ?_ ?_; rotate_left; · ((intro w hSw; (try dsimp only at hSw); go_simp) <;> with_reducible rfl); try go_frame
 refine' tk 1 rfl rfl ?_ ?_; rotate_left; · ((intro w hSw; (try dsimp only at hSw); go_simp) <;> with_reducible rfl); try go_frame
 refine' tk 2 rfl rfl ?_ ?_; rotate_left; · ((intro w hSw; (try dsimp only at hSw); go_simp) <;> with_reducible rfl); try go_frame
 refine' tk 3 rfl rfl ?_ ?_; rotate_left; · ((intro w hSw; (try dsimp only at hSw); go_simp) <;> with_reducible rfl); try go_frame
 refine' tk 7 rfl rfl ?_ ?_; rotate_left; · ((intro w hSw; (try dsimp only at hSw); go_simp) <;> with_reducible rfl); try go_frame
 refine' tk 8 rfl rfl ?_ ?_; rotate_left; · ((intro w hSw; (try dsimp only at hSw); go_simp) <;> with_reducible rfl); try go_frame
 refine wpAnyH_ready (rs := [4]) (by kernel_rfl) (by simp) ?_; refine consH rfl (fun K hK => ?_) AllReadyH.nil
 go_simp
 (go_at_call 24; (with_reducible refine (N0.out _).mono ?_))
 rintro e v0 ⟨rfl, hbv0⟩
 have hbS0 := below_chain hbv0 hH.1
 refine hK.out _ _ ⟨hbS0, hC.out _ hbS0⟩ (fun hH0 => ?_)
 clear hK K
 try go_frame
 refine' tk 5 rfl rfl ?_ ?_; rotate_left; · ((intro w hSw; (try dsimp only at hSw); go_simp) <;> with_reducible rfl); try go_frame
 refine' tk 6 rfl rfl ?_ ?_; rotate_left; · ((intro w hSw; (try dsimp only at hSw); go_simp) <;> with_reducible rfl); try go_frame
 refine wpAnyH_ready (rs := [9]) (by kernel_rfl) (by simp) ?_; refine consH rfl (fun K hK => ?_) AllReadyH.nil
 go_simp
 (go_at_call 28; (with_reducible refine (N1.out _).mono ?_))
 rintro e v1 ⟨rfl, rfl⟩
 refine hK.out _ _ hH0 (fun hH1 => ?_)
 clear hK K
 try go_frame
 refine' tk 10 rfl rfl ?_ ?_; rotate_left; · ((intro w hSw; (try dsimp only at hSw); go_simp) <;> with_reducible rfl); try go_frame
 refine' tk 11 rfl rfl ?_ ?_; rotate_left; · ((intro w hSw; (try dsimp only at hSw); go_simp) <;> with_reducible rfl); try go_frame
 refine wpAnyH_done (by kernel_rfl) ?_ _
 go_wp2_with fail
 go_ret2
 exact ⟨rfl, below_chain hH1.1 hb1.out⟩
end Go.Proofs.YtodbgjnccngljaaGreatDoor
