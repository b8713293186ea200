/- least: the order of backends, its draws counted: draws, and blocks laid behind. -/
import Derived.Test.YtnmmjchhinfbpaaLeastA
import Derived.Test.YtnmmjchhinfbpaaNum
import Derived.Test.YtnmmjchhinfbpaaInsL
import Derived.StillTailTactics
namespace Go.Proofs.Ytnmmjchhinfbpaa
open Go Go.RowKit Go.Deep

theorem product_dr (a b : Nat) (w : World) (ha : a < 18446744073709551616) (hb : b < 18446744073709551616) :
    Calls Try.prog 119 #[.int .u64 a, .int .u64 b] w fun e w' => e = .returned (.agg #[.int .u64 (((a * b : Nat) : Int) / 18446744073709551616), .int .u64 (((a * b : Nat) : Int) % 18446744073709551616)]) ∧ Below w.heap.size w w' ∧ w.drawn ≤ w'.drawn := by
  go_enter Try.func119, Try.ntmps119
  go_wp2_with (go_at_call 123; refine (Try.bits_Mul64 _ _ ha hb _).mono ?_; rintro e w' ⟨rfl, rfl⟩)
  refine bodyPost_ret (v := .agg #[.int .u64 (((a * b : Nat) : Int) / 18446744073709551616), .int .u64 (((a * b : Nat) : Int) % 18446744073709551616)]) (by simp [results, Try.results119, go_sem]) rfl ⟨rfl, (by repeat (first | exact Below.refl _ _ | assumption | refine below_alloc ?_ _ | refine below_chain (by assumption) ?_ | refine below_call2 (by assumption) ?_ (by first | omega | (simp; done) | (simp; omega) | (simp [World.setCell]; omega)) | refine below_drewN ?_ _ | refine Below.drew ?_ | refine Below.alloc ?_ (by first | omega | (simp; done) | (simp; omega) | (simp [World.setCell]; omega)) _ | refine Below.setCell ?_ (by first | omega | (simp; done) | (simp; omega) | (simp [World.setCell]; omega)) _)), Nat.le_refl _⟩

theorem cross_dr (a b c d : Nat) (w : World) (ha : a < 18446744073709551616) (hb : b < 18446744073709551616) (hc : c < 18446744073709551616) (hd : d < 18446744073709551616) :
    Calls Try.prog 108 #[.int .u64 a, .int .u64 b, .int .u64 c, .int .u64 d] w fun e w' => e = .returned (.int .i64 (cmpI ((a * b : Nat) : Int) ((c * d : Nat) : Int))) ∧ Below w.heap.size w w' ∧ w.drawn ≤ w'.drawn := by
  rw [← cross_halves _ _ (by omega) (by omega)]
  have C1 := fun W => product_dr a b W ha hb
  have C2 := fun W => product_dr c d W hc hd
  generalize ((a * b : Nat) : Int) = p at *
  generalize ((c * d : Nat) : Int) = q at *
  generalize hp1 : p / 18446744073709551616 = p1 at *
  generalize hp2 : p % 18446744073709551616 = p2 at *
  generalize hq1 : q / 18446744073709551616 = q1 at *
  generalize hq2 : q % 18446744073709551616 = q2 at *
  clear hp1 hp2 hq1 hq2
  replace C1 := Lib.hid C1
  replace C2 := Lib.hid C2
  go_enter Try.func108, Try.ntmps108
  go_wp2_with fail
  refine (C1.out _).mono ?_
  rintro e w1 ⟨rfl, hb1, hd1⟩
  go_wp2_with fail
  refine (C2.out _).mono ?_
  rintro e w2 ⟨rfl, hb2, hd2⟩
  go_wp2_with fail
  have B1 := (Blk.new w2 171 #[.int .u64 p1, .int .u64 p2]).alloc (.cells #[.int .u64 q1, .int .u64 q2] 171)
  have B2 := Blk.new (w2.alloc (.cells #[.int .u64 p1, .int .u64 p2] 171)) 171 #[.int .u64 q1, .int .u64 q2]
  rw [World.size_alloc] at B2
  have hbx : Below w.heap.size w ((w2.alloc (.cells #[.int .u64 p1, .int .u64 p2] 171)).alloc (.cells #[.int .u64 q1, .int .u64 q2] 171)) := by
    have z1 := hb1.size
    have z2 := hb2.size
    exact ((below_call hb1 z1 hb2).alloc (by omega) _).alloc (by rw [World.size_alloc]; omega) _
  have hdx : w.drawn ≤ ((w2.alloc (.cells #[.int .u64 p1, .int .u64 p2] 171)).alloc (.cells #[.int .u64 q1, .int .u64 q2] 171)).drawn := Nat.le_trans hd1 hd2
  clear hd1 hd2
  generalize (w2.alloc (.cells #[.int .u64 p1, .int .u64 p2] 171)).alloc (.cells #[.int .u64 q1, .int .u64 q2] 171) = X at *
  have z1 := B1.lt
  have z2 := B2.lt
  have c1 := B1.cell 0
  have c2 := B1.cell 1
  have c3 := B2.cell 0
  have c4 := B2.cell 1
  simp at c1 c2 c3 c4
  generalize w2.heap.size = g at *
  have n1 := World.new_ne X _ c1
  have n3 := World.new_ne X _ c3
  clear C1 C2 hb1 hb2 B1 B2
  have hz := hbx.size
  go_region_held3 (fun w' => w'.cell? ⟨g, 0, none⟩ = some (.int .u64 p1) ∧ w'.cell? ⟨g, 1, none⟩ = some (.int .u64 p2) ∧ w'.cell? ⟨g + 1, 0, none⟩ = some (.int .u64 q1) ∧ w'.cell? ⟨g + 1, 1, none⟩ = some (.int .u64 q2)) (go_keep) (first
    | (go_at_call 56; refine (compare_any _ _ _).mono ?_; rintro e w' ⟨rfl, rfl⟩)
    | (go_at_call 55; refine (or_any _ _ _ _ (by exact Blk.new _ _ _)).mono ?_; rintro e w' ⟨rfl, rfl⟩))
  go_wp2_with fail
  go_ret
  exact ⟨rfl, (by repeat (first | exact Below.refl _ _ | assumption | refine below_alloc ?_ _ | refine below_chain (by assumption) ?_ | refine below_call2 (by assumption) ?_ (by first | omega | (simp; done) | (simp; omega) | (simp [World.setCell]; omega)) | refine below_drewN ?_ _ | refine Below.drew ?_ | refine Below.alloc ?_ (by first | omega | (simp; done) | (simp; omega) | (simp [World.setCell]; omega)) _ | refine Below.setCell ?_ (by first | omega | (simp; done) | (simp; omega) | (simp [World.setCell]; omega)) _)), Nat.le_trans hdx (Nat.le_succ _)⟩
theorem less_dr (L W i L2 W2 i2 : Int) (w : World) : Calls Try.prog 83 #[.int .i64 L, .int .i64 W, .int .i64 i, .int .i64 L2, .int .i64 W2, .int .i64 i2] w fun e w' => e = .returned (.bool (lessB L W i L2 W2 i2)) ∧ Below w.heap.size w w' ∧ w.drawn ≤ w'.drawn := by
  have B1 := bears_any L W
  have B2 := bears_any L2 W2
  unfold lessB
  obtain ⟨o1, ho1⟩ : ∃ o, bearB L W = o := ⟨_, rfl⟩
  obtain ⟨o2, ho2⟩ : ∃ o, bearB L2 W2 = o := ⟨_, rfl⟩
  rw [ho1] at B1 ⊢
  rw [ho2] at B2 ⊢
  replace B1 := Lib.hid B1
  replace B2 := Lib.hid B2
  cases o1
  · go_enter Try.func83, Try.ntmps83
    go_wp2_with (go_at_call 107; with_reducible refine (B1.out _).mono ?_; rintro e w1 ⟨rfl, rfl⟩)
    go_ret
    exact ⟨rfl, Below.refl _ _, Nat.le_refl _⟩
  cases o2
  · go_enter Try.func83, Try.ntmps83
    go_wp2_with (go_at_call 107; first | (with_reducible refine (B1.out _).mono ?_; rintro e w1 ⟨rfl, rfl⟩) | (with_reducible refine (B2.out _).mono ?_; rintro e w1 ⟨rfl, rfl⟩))
    go_ret
    exact ⟨rfl, Below.refl _ _, Nat.le_refl _⟩
  obtain ⟨a1, a2, a3, a4⟩ := bearB_t ho1
  obtain ⟨c1, c2, c3, c4⟩ := bearB_t ho2
  clear ho1 ho2
  obtain ⟨L, rfl⟩ := Int.eq_ofNat_of_zero_le a1
  obtain ⟨L2, rfl⟩ := Int.eq_ofNat_of_zero_le c1
  obtain ⟨W, rfl⟩ := Int.eq_ofNat_of_zero_le (show 0 ≤ W by omega)
  obtain ⟨W2, rfl⟩ := Int.eq_ofNat_of_zero_le (show 0 ≤ W2 by omega)
  have C := fun w0 => cross_dr L W2 L2 W w0 (by omega) (by omega) (by omega) (by omega)
  have C2 := C
  rw [show (L : Int) * (W2 : Int) = ((L * W2 : Nat) : Int) by simp, show (L2 : Int) * (W : Int) = ((L2 * W : Nat) : Int) by simp]
  clear C
  generalize L * W2 = p at *
  generalize L2 * W = q at *
  unfold cmpI at C2
  by_cases g1 : (p : Int) < (q : Int)
  · rw [if_pos g1] at C2
    replace C2 := Lib.hid C2
    replace g1 := Lib.hid g1
    go_enter Try.func83, Try.ntmps83
    go_wp2_with (first | (go_at_call 107; first | (with_reducible refine (B1.out _).mono ?_; rintro e w1 ⟨rfl, rfl⟩) | (with_reducible refine (B2.out _).mono ?_; rintro e w1 ⟨rfl, rfl⟩)) | (go_at_call 108; go_must (with_reducible refine (C2.out _).mono ?_; rintro e w2 ⟨rfl, hb2, hd2⟩)))
    go_ret
    refine ⟨?_, hb2, hd2⟩
    show Ending.returned (.bool _) = _
    simp [show p < q by have := g1.out; omega]
  · rw [if_neg g1] at C2
    by_cases g2 : (p : Int) = (q : Int)
    · obtain rfl : p = q := by omega
      rw [if_neg g1] at C2
      replace C2 := Lib.hid C2
      clear g1 g2
      go_enter Try.func83, Try.ntmps83
      go_wp2_with (first | (go_at_call 107; first | (with_reducible refine (B1.out _).mono ?_; rintro e w1 ⟨rfl, rfl⟩) | (with_reducible refine (B2.out _).mono ?_; rintro e w1 ⟨rfl, rfl⟩)) | (go_at_call 108; go_must (with_reducible refine (C2.out _).mono ?_; rintro e w2 ⟨rfl, hb2, hd2⟩)))
      go_ret
      refine ⟨?_, hb2, hd2⟩
      show Ending.returned (.bool _) = _
      simp
    · rw [if_pos (by omega)] at C2
      replace C2 := Lib.hid C2
      replace g1 := Lib.hid g1
      replace g2 := Lib.hid g2
      go_enter Try.func83, Try.ntmps83
      go_wp2_with (first | (go_at_call 107; first | (with_reducible refine (B1.out _).mono ?_; rintro e w1 ⟨rfl, rfl⟩) | (with_reducible refine (B2.out _).mono ?_; rintro e w1 ⟨rfl, rfl⟩)) | (go_at_call 108; go_must (with_reducible refine (C2.out _).mono ?_; rintro e w2 ⟨rfl, hb2, hd2⟩)))
      go_ret
      refine ⟨?_, hb2, hd2⟩
      show Ending.returned (.bool _) = _
      simp [show ¬ p < q by have := g1.out; omega, g2.out]
set_option maxRecDepth 100000 in
set_option maxHeartbeats 4000000 in
theorem order1_dr (x y : Bk) (g b gc : Nat) (M : LM) (w : World) (hc : w.cell? ⟨gc, 0, none⟩ = some (.pointer (some ⟨g, 0, none⟩))) (h : LoadAt w g b M) (hx : bkWf x) (hy : bkWf y) :
    Calls Try.prog 82 #[x.val, y.val, .pointer (some ⟨gc, 0, none⟩)] w fun e w' => e = .returned (.int .i64 (ordI M x y)) ∧ Below w.heap.size w w' ∧ w.drawn ≤ w'.drawn := by
  obtain ⟨xi, xw, xs, xv, xh, xo⟩ := x
  obtain ⟨yi, yw, ys, yv, yh, yo⟩ := y
  unfold bkWf ordI at *
  unfold Bk.val
  dsimp only at *
  have L1 := fun W => less_dr (lmGet M xi) xw xi (lmGet M yi) yw yi W
  have L2 := fun W => less_dr (lmGet M yi) yw yi (lmGet M xi) xw xi W
  obtain ⟨o, ho⟩ : ∃ o, lessB (lmGet M xi) xw xi (lmGet M yi) yw yi = o := ⟨_, rfl⟩
  obtain ⟨o2, ho2⟩ : ∃ o, lessB (lmGet M yi) yw yi (lmGet M xi) xw xi = o := ⟨_, rfl⟩
  rw [ho] at L1 ⊢
  rw [ho2] at L2 ⊢
  obtain ⟨w0, hw0⟩ : ∃ w0, w0 = (w.alloc (.cells #[.int .i64 xi, .int .i64 xw, .int .i64 xs, .bool xv, .int .u64 xh, .int .u64 xo] 46)).alloc (.cells #[.int .i64 yi, .int .i64 yw, .int .i64 ys, .bool yv, .int .u64 yh, .int .u64 yo] 46) := ⟨_, rfl⟩
  have hb0 : Below w.heap.size w w0 := hw0 ▸ below_alloc (below_alloc (Below.refl _ _) _) _
  have hd0 : w.drawn ≤ w0.drawn := hw0 ▸ Nat.le_refl _
  have B1 : Blk w0 w.heap.size 46 #[.int .i64 xi, .int .i64 xw, .int .i64 xs, .bool xv, .int .u64 xh, .int .u64 xo] := hw0 ▸ (Blk.new w _ _).alloc _
  have B2 : Blk w0 (w.heap.size + 1) 46 #[.int .i64 yi, .int .i64 yw, .int .i64 ys, .bool yv, .int .u64 yh, .int .u64 yo] := by
    have := Blk.new (w.alloc (.cells #[.int .i64 xi, .int .i64 xw, .int .i64 xs, .bool xv, .int .u64 xh, .int .u64 xo] 46)) 46 #[.int .i64 yi, .int .i64 yw, .int .i64 ys, .bool yv, .int .u64 yh, .int .u64 yo]
    rw [← hw0] at this
    simpa using this
  have G1 := fun (W : World) (hb : Below w.heap.size w W) => load_get g b M xi W (h.call hb) hx
  have G2 := fun (W : World) (hb : Below w.heap.size w W) => load_get g b M yi W (h.call hb) hy
  have hc1 : ∀ W, Below w.heap.size w W → W.cell? ⟨gc, 0, none⟩ = some (.pointer (some ⟨g, 0, none⟩)) := fun W hb => (hb.cell (p := ⟨gc, 0, none⟩) (block_lt_of_cell hc)).trans hc
  generalize lmGet M xi = gx at *
  generalize lmGet M yi = gy at *
  replace G1 := Lib.hid G1
  replace G2 := Lib.hid G2
  replace L1 := Lib.hid L1
  replace L2 := Lib.hid L2
  replace ho := Lib.hid ho
  replace ho2 := Lib.hid ho2
  replace hc1 := Lib.hid hc1
  clear h hc
  go_enter Try.func82, Try.ntmps82
  go_wp2_with fail
  rw [← hw0]
  clear hw0
  have hc0 := hc1.out _ hb0
  have d0 := B1.cell 0
  have d1 := B1.cell 1
  have e0 := B2.cell 0
  have e1 := B2.cell 1
  simp only [List.getElem?_toArray, List.getElem?_cons_zero, List.getElem?_cons_succ] at d0 d1 e0 e1
  have hbd := fun n => below_drewN hb0 n
  replace hbd := Lib.hid hbd
  refine wp_region_still_tail 16 (by kernel_rfl) (by kernel_rfl) ?_
  simp only [List.take_succ_cons, List.take_zero, List.drop_succ_cons, List.drop_zero]
  repeat still_step
  still_call (still_of (G1.out _ hb0.drew))
  repeat still_step
  still_call (still_of (G2.out _ hb0.drew))
  repeat still_step
  refine wpStill_nil ?_
  change wpList _ _ _ _ _ w0.drew
  have C1 : Blk w0.drew w.heap.size 46 #[.int .i64 xi, .int .i64 xw, .int .i64 xs, .bool xv, .int .u64 xh, .int .u64 xo] := B1
  have C2 : Blk w0.drew (w.heap.size + 1) 46 #[.int .i64 yi, .int .i64 yw, .int .i64 ys, .bool yv, .int .u64 yh, .int .u64 yo] := B2
  have hbe : Below w.heap.size w w0.drew := hb0.drew
  have hde : w.drawn ≤ w0.drew.drawn := Nat.le_succ_of_le hd0
  clear hd0
  clear B1 B2 d0 d1 e0 e1 hc0 hb0 hbd
  generalize w0.drew = w1 at *
  go_wp2_with fail
  refine (L1.out _).mono ?_
  rintro e w2 ⟨rfl, hb2, hd2⟩
  have D1 := C1.call hb2
  have D2 := C2.call hb2
  have hb3 := below_chain hb2 hbe
  have hd3 := Nat.le_trans hde hd2
  clear hde hd2
  clear C1 C2 hbe hb2
  cases o
  · have hc0 := hc1.out _ hb3
    have d0 := D1.cell 0
    have d1 := D1.cell 1
    have e0 := D2.cell 0
    have e1 := D2.cell 1
    simp only [List.getElem?_toArray, List.getElem?_cons_zero, List.getElem?_cons_succ] at d0 d1 e0 e1
    go_wp2_with fail
    refine wp_region_still_tail 16 (by kernel_rfl) (by kernel_rfl) ?_
    simp only [List.take_succ_cons, List.take_zero, List.drop_succ_cons, List.drop_zero]
    repeat still_step
    still_call (still_of (G2.out _ hb3.drew))
    repeat still_step
    still_call (still_of (G1.out _ hb3.drew))
    repeat still_step
    refine wpStill_nil ?_
    change wpList _ _ _ _ _ w2.drew
    have hb4 : Below w.heap.size w w2.drew := hb3.drew
    have hd4 : w.drawn ≤ w2.drew.drawn := Nat.le_succ_of_le hd3
    clear hd3
    clear D1 D2 d0 d1 e0 e1 hc0 hb3
    generalize w2.drew = w3 at *
    go_wp2_with fail
    refine (L2.out _).mono ?_
    rintro e w4 ⟨rfl, hb5, hd5⟩
    have hb6 := below_chain hb5 hb4
    have hd6 := Nat.le_trans hd4 hd5
    clear hd4 hd5
    clear hb5 hb4
    cases o2
    · go_wp2_with fail
      go_ret
      exact ⟨rfl, hb6, hd6⟩
    · go_wp2_with fail
      go_ret
      exact ⟨rfl, hb6, hd6⟩
  · go_wp2_with fail
    go_ret
    exact ⟨rfl, hb3, hd3⟩
theorem gr_of {w w' : World} (hb : Below w.heap.size w w') (hd : w.drawn ≤ w'.drawn) : ∃ q os, w' = Sort.grow (w.drewN q) os := by
  refine ⟨w'.drawn - w.drawn, w'.heap.extract w.heap.size w'.heap.size, ?_⟩
  obtain ⟨h1, h2, h3, h4, h5⟩ := hb
  have hh : w'.heap = w.heap ++ w'.heap.extract w.heap.size w'.heap.size := by
    apply Array.ext_getElem?
    intro i
    rw [Array.getElem?_append]
    split
    · rename_i hi
      exact h5 i hi
    · rename_i hi
      rw [Array.getElem?_extract]
      split
      · congr 1
        omega
      · rename_i hj
        rw [Array.getElem?_eq_none]
        omega
  cases w
  cases w'
  simp only [Sort.grow, World.drewN] at *
  simp only [World.mk.injEq]
  refine ⟨hh, h2, by omega, h1, h3⟩
end Go.Proofs.Ytnmmjchhinfbpaa
