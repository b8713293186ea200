/- load: the law LoadLess, called. -/
import Derived.Test.YtiicgnijiiidcaaLoadF
import Derived.Test.YtiicgnijiiidcaaLoadL
import Derived.Deep.RegionHeld3
namespace Go.Proofs.Ytiicgnijiiidcaa
open Go Go.RowKit Go.Deep

def sel3 (i a b c : Int) : Int := if i = 0 then a else if i = 1 then b else c
set_option maxHeartbeats 4000000 in
theorem bears25 (a b c x y z : Int) (i k : Int) (hi : i = 0 ∨ i = 1 ∨ i = 2) (hk : k = 0 ∨ k = 1 ∨ k = 2) (w : World) :
    Calls Try.prog 75 #[.agg #[.int .i64 a, .int .i64 b, .int .i64 c], .agg #[.int .i64 x, .int .i64 y, .int .i64 z], .int .i64 i, .int .i64 k] w fun e w' =>
      e = .returned (.bool (lessB (sel3 i a b c) (sel3 i x y z) i (sel3 k a b c) (sel3 k x y z) k)) ∧ Below w.heap.size w w' := by
  obtain ⟨w0, hw0⟩ : ∃ w0, w0 = (w.alloc (.cells #[.int .i64 a, .int .i64 b, .int .i64 c] 129)).alloc (.cells #[.int .i64 x, .int .i64 y, .int .i64 z] 129) := ⟨_, rfl⟩
  have hb0 : Below w.heap.size w w0 := hw0 ▸ below_alloc (below_alloc (Below.refl _ _) _) _
  have B0 : Blk w0 w.heap.size 129 #[.int .i64 a, .int .i64 b, .int .i64 c] := hw0 ▸ (Blk.new w _ _).alloc _
  have B1 : Blk w0 (w.heap.size + 1) 129 #[.int .i64 x, .int .i64 y, .int .i64 z] := by
    have := Blk.new (w.alloc (.cells #[.int .i64 a, .int .i64 b, .int .i64 c] 129)) 129 #[.int .i64 x, .int .i64 y, .int .i64 z]
    rw [← hw0] at this
    simpa using this
  have c0 := B0.cell 0
  have c1 := B0.cell 1
  have c2 := B0.cell 2
  have d0 := B1.cell 0
  have d1 := B1.cell 1
  have d2 := B1.cell 2
  simp at c0 c1 c2 d0 d1 d2
  have L := fun n k i n2 k2 i2 W => less_any n k i n2 k2 i2 W
  replace L := Lib.hid L
  rcases hi with rfl | rfl | rfl <;> rcases hk with rfl | rfl | rfl
  all_goals
    go_enter Try.func75, Try.ntmps75
    go_wp2_with fail
    rw [← hw0]
    clear hw0
    go_region_held3 (fun w' => Below w0.heap.size w0 w' ∧ w'.cell? ⟨w.heap.size, 0, none⟩ = some (.int .i64 a) ∧ w'.cell? ⟨w.heap.size, 1, none⟩ = some (.int .i64 b) ∧ w'.cell? ⟨w.heap.size, 2, none⟩ = some (.int .i64 c) ∧ w'.cell? ⟨w.heap.size + 1, 0, none⟩ = some (.int .i64 x) ∧ w'.cell? ⟨w.heap.size + 1, 1, none⟩ = some (.int .i64 y) ∧ w'.cell? ⟨w.heap.size + 1, 2, none⟩ = some (.int .i64 z)) ((first | assumption | ((refine ⟨?_, ?_⟩; (first | assumption | exact (Below.refl _ _).drew | exact Below.refl _ _); go_keep)))) (first
      | (go_at_call 73; refine (L.out _ _ _ _ _ _ _).mono ?_; rintro e w1 ⟨rfl, hb1⟩; have hS := hold6 (by assumption) hb1))
    go_wp2_with fail
    go_ret
    exact ⟨rfl, below_chain (by exact hS.1) hb0⟩

set_option maxRecDepth 100000 in
set_option maxHeartbeats 16000000 in
theorem loadLess_calls (l0 l1 l2 w0 w1 w2 : Int) (w : World) (a0 : 0 ≤ l0 ∧ l0 < 18446744073709551616) (a1 : 0 ≤ l1 ∧ l1 < 18446744073709551616) (a2 : 0 ≤ l2 ∧ l2 < 18446744073709551616) (b0 : 0 ≤ w0 ∧ w0 < 65536) (b1 : 0 ≤ w1 ∧ w1 < 65536) (b2 : 0 ≤ w2 ∧ w2 < 65536) :
    Calls Try.prog 13 #[.agg #[.int .u64 l0, .int .u64 l1, .int .u64 l2], .agg #[.int .u16 w0, .int .u16 w1, .int .u16 w2]] w fun e w' => e = .returned (.bool true) ∧ Below w.heap.size w w' := by
  obtain ⟨a00, a01⟩ := a0
  obtain ⟨a10, a11⟩ := a1
  obtain ⟨a20, a21⟩ := a2
  obtain ⟨b00, b01⟩ := b0
  obtain ⟨b10, b11⟩ := b1
  obtain ⟨b20, b21⟩ := b2
  go_enter Try.func13, Try.ntmps13
  go_wp2_with fail
  refine wp_loop_rounds 4 ?_
  rw [rounds_succ]
  go_wp2_with fail
  rw [rounds_succ]
  go_wp2_with fail
  rw [rounds_succ]
  go_wp2_with fail
  rw [rounds_succ]
  go_wp2_with fail
  have e0 := Int.emod_nonneg l0 (show (1099511627776 : Int) ≠ 0 by decide)
  have e1 := Int.emod_nonneg l1 (show (1099511627776 : Int) ≠ 0 by decide)
  have e2 := Int.emod_nonneg l2 (show (1099511627776 : Int) ≠ 0 by decide)
  have f0 := Int.emod_lt_of_pos l0 (show (0 : Int) < 1099511627776 by decide)
  have f1 := Int.emod_lt_of_pos l1 (show (0 : Int) < 1099511627776 by decide)
  have f2 := Int.emod_lt_of_pos l2 (show (0 : Int) < 1099511627776 by decide)
  have g0 : 1 ≤ 1 + w0 % 1000 ∧ 1 + w0 % 1000 ≤ 1000 := by omega
  have g1 : 1 ≤ 1 + w1 % 1000 ∧ 1 + w1 % 1000 ≤ 1000 := by omega
  have g2 : 1 ≤ 1 + w2 % 1000 ∧ 1 + w2 % 1000 ≤ 1000 := by omega
  have hbW : Below w.heap.size w ((((w.alloc (.cells #[.int .u64 l0, .int .u64 l1, .int .u64 l2] 127)).alloc (.cells #[.int .u16 w0, .int .u16 w1, .int .u16 w2] 128)).alloc (.cells #[.int .i64 (l0 % 1099511627776), .int .i64 (l1 % 1099511627776), .int .i64 (l2 % 1099511627776)] 129)).alloc (.cells #[.int .i64 (1 + w0 % 1000), .int .i64 (1 + w1 % 1000), .int .i64 (1 + w2 % 1000)] 129)) := below_alloc (below_alloc (below_alloc (below_alloc (Below.refl _ _) _) _) _) _
  have N0 : Blk ((((w.alloc (.cells #[.int .u64 l0, .int .u64 l1, .int .u64 l2] 127)).alloc (.cells #[.int .u16 w0, .int .u16 w1, .int .u16 w2] 128)).alloc (.cells #[.int .i64 (l0 % 1099511627776), .int .i64 (l1 % 1099511627776), .int .i64 (l2 % 1099511627776)] 129)).alloc (.cells #[.int .i64 (1 + w0 % 1000), .int .i64 (1 + w1 % 1000), .int .i64 (1 + w2 % 1000)] 129)) (w.heap.size + 1 + 1) 129 #[.int .i64 (l0 % 1099511627776), .int .i64 (l1 % 1099511627776), .int .i64 (l2 % 1099511627776)] := by
    have := (Blk.new ((w.alloc (.cells #[.int .u64 l0, .int .u64 l1, .int .u64 l2] 127)).alloc (.cells #[.int .u16 w0, .int .u16 w1, .int .u16 w2] 128)) 129 #[.int .i64 (l0 % 1099511627776), .int .i64 (l1 % 1099511627776), .int .i64 (l2 % 1099511627776)]).alloc (.cells #[.int .i64 (1 + w0 % 1000), .int .i64 (1 + w1 % 1000), .int .i64 (1 + w2 % 1000)] 129)
    simp only [World.size_alloc] at this
    exact this
  have M0 : Blk ((((w.alloc (.cells #[.int .u64 l0, .int .u64 l1, .int .u64 l2] 127)).alloc (.cells #[.int .u16 w0, .int .u16 w1, .int .u16 w2] 128)).alloc (.cells #[.int .i64 (l0 % 1099511627776), .int .i64 (l1 % 1099511627776), .int .i64 (l2 % 1099511627776)] 129)).alloc (.cells #[.int .i64 (1 + w0 % 1000), .int .i64 (1 + w1 % 1000), .int .i64 (1 + w2 % 1000)] 129)) (w.heap.size + 1 + 1 + 1) 129 #[.int .i64 (1 + w0 % 1000), .int .i64 (1 + w1 % 1000), .int .i64 (1 + w2 % 1000)] := by
    have := Blk.new (((w.alloc (.cells #[.int .u64 l0, .int .u64 l1, .int .u64 l2] 127)).alloc (.cells #[.int .u16 w0, .int .u16 w1, .int .u16 w2] 128)).alloc (.cells #[.int .i64 (l0 % 1099511627776), .int .i64 (l1 % 1099511627776), .int .i64 (l2 % 1099511627776)] 129)) 129 #[.int .i64 (1 + w0 % 1000), .int .i64 (1 + w1 % 1000), .int .i64 (1 + w2 % 1000)]
    simp only [World.size_alloc] at this
    exact this
  generalize ((((w.alloc (.cells #[.int .u64 l0, .int .u64 l1, .int .u64 l2] 127)).alloc (.cells #[.int .u16 w0, .int .u16 w1, .int .u16 w2] 128)).alloc (.cells #[.int .i64 (l0 % 1099511627776), .int .i64 (l1 % 1099511627776), .int .i64 (l2 % 1099511627776)] 129)).alloc (.cells #[.int .i64 (1 + w0 % 1000), .int .i64 (1 + w1 % 1000), .int .i64 (1 + w2 % 1000)] 129)) = wA at *
  generalize l0 % 1099511627776 = x0 at *
  generalize l1 % 1099511627776 = x1 at *
  generalize l2 % 1099511627776 = x2 at *
  generalize 1 + w0 % 1000 = y0 at *
  generalize 1 + w1 % 1000 = y1 at *
  generalize 1 + w2 % 1000 = y2 at *
  have A0 := bearB_in e0 (by omega) g0.1 g0.2
  have A1 := bearB_in e1 (by omega) g1.1 g1.2
  have A2 := bearB_in e2 (by omega) g2.1 g2.2
  have R1 := lessB_one A0 A1
  have R2 := lessB_self x0 y0 0
  have R3 := lessB_more (i := 5) (i2 := 1) e0 f0 g0.1 g0.2
  have R4 := lessB_trans A0 A1 A2
  have B01 := fun W => bears25 x0 x1 x2 y0 y1 y2 0 1 (by simp) (by simp) W
  have B10 := fun W => bears25 x0 x1 x2 y0 y1 y2 1 0 (by simp) (by simp) W
  have B00 := fun W => bears25 x0 x1 x2 y0 y1 y2 0 0 (by simp) (by simp) W
  have B12 := fun W => bears25 x0 x1 x2 y0 y1 y2 1 2 (by simp) (by simp) W
  have B02 := fun W => bears25 x0 x1 x2 y0 y1 y2 0 2 (by simp) (by simp) W
  simp only [sel3, if_true, show ¬ ((1 : Int) = 0) by decide, show ¬ ((2 : Int) = 0) by decide, show ¬ ((2 : Int) = 1) by decide, if_false] at B01 B10 B00 B12 B02
  have LM := fun W => less_any x0 y0 5 (x0 + 1) y0 1 W
  rw [R2] at B00
  rw [R3] at LM
  obtain ⟨p, hp⟩ : ∃ p, lessB x0 y0 0 x1 y1 1 = p := ⟨_, rfl⟩
  obtain ⟨q, hq⟩ : ∃ q, lessB x1 y1 1 x2 y2 2 = q := ⟨_, rfl⟩
  obtain ⟨r, hr⟩ : ∃ r, lessB x0 y0 0 x2 y2 2 = r := ⟨_, rfl⟩
  obtain ⟨s, hs⟩ : ∃ s, lessB x1 y1 1 x0 y0 0 = s := ⟨_, rfl⟩
  rw [hp] at B01 R1 R4
  rw [hq] at B12 R4
  rw [hr] at B02 R4
  rw [hs] at B10 R1
  replace B01 := Lib.hid B01
  replace B10 := Lib.hid B10
  replace B00 := Lib.hid B00
  replace B12 := Lib.hid B12
  replace B02 := Lib.hid B02
  replace LM := Lib.hid LM
  replace R4 := Lib.hid R4
  clear A0 A1 A2 R2 R3 hp hq hr hs g1 g2
  have h6 : ∀ W : World, Blk W (w.heap.size + 1 + 1) 129 #[.int .i64 x0, .int .i64 x1, .int .i64 x2] → Blk W (w.heap.size + 1 + 1 + 1) 129 #[.int .i64 y0, .int .i64 y1, .int .i64 y2] → W.cell? ⟨w.heap.size + 1 + 1, 0, none⟩ = some (.int .i64 x0) ∧ W.cell? ⟨w.heap.size + 1 + 1, 1, none⟩ = some (.int .i64 x1) ∧ W.cell? ⟨w.heap.size + 1 + 1, 2, none⟩ = some (.int .i64 x2) ∧ W.cell? ⟨w.heap.size + 1 + 1 + 1, 0, none⟩ = some (.int .i64 y0) ∧ W.cell? ⟨w.heap.size + 1 + 1 + 1, 1, none⟩ = some (.int .i64 y1) ∧ W.cell? ⟨w.heap.size + 1 + 1 + 1, 2, none⟩ = some (.int .i64 y2) := fun W a b => ⟨a.cell 0, a.cell 1, a.cell 2, b.cell 0, b.cell 1, b.cell 2⟩
  replace h6 := Lib.hid h6
  refine (B01.out _).mono ?_
  rintro e v1 ⟨rfl, hb1⟩
  have hbA := below_chain hb1 hbW
  have N1 := N0.call hb1
  have M1 := M0.call hb1
  clear hb1 hbW N0 M0
  obtain ⟨t0, t1, t2, u0, u1, u2⟩ := h6.out _ N1 M1
  go_wp2_with fail
  refine (B10.out _).mono ?_
  rintro e v2 ⟨rfl, hb2⟩
  have hbB := below_chain hb2 hbA
  have N2 := N1.call hb2
  have M2 := M1.call hb2
  clear hb2 hbA N1 M1 t0 t1 t2 u0 u1 u2
  obtain ⟨t0, t1, t2, u0, u1, u2⟩ := h6.out _ N2 M2
  go_wp2_with fail
  refine (B00.out _).mono ?_
  rintro e v3 ⟨rfl, hb3⟩
  have hbC := below_chain hb3 hbB
  have N3 := N2.call hb3
  have M3 := M2.call hb3
  clear hb3 hbB N2 M2 t0 t1 t2 u0 u1 u2
  obtain ⟨t0, t1, t2, u0, u1, u2⟩ := h6.out _ N3 M3
  go_wp2_with fail
  refine (LM.out _).mono ?_
  rintro e v4 ⟨rfl, hb4⟩
  have hbD := below_chain hb4 hbC
  have N4 := N3.call hb4
  have M4 := M3.call hb4
  clear hb4 hbC N3 M3 t0 t1 t2 u0 u1 u2
  obtain ⟨t0, t1, t2, u0, u1, u2⟩ := h6.out _ N4 M4
  cases p
  · clear R1 R4
    go_wp2_with fail
    refine (awake25 _).mono ?_
    rintro e v5 ⟨rfl, hb5⟩
    go_wp2_with fail
    go_ret
    exact ⟨rfl, below_chain hb5 hbD⟩
  · cases q
    · clear R1 R4
      go_wp2_with fail
      refine (B12.out _).mono ?_
      rintro e v5 ⟨rfl, hb5⟩
      have hbE := below_chain hb5 hbD
      clear hb5 hbD t0 t1 t2 u0 u1 u2
      go_wp2_with fail
      refine (awake25 _).mono ?_
      rintro e v6 ⟨rfl, hb6⟩
      go_wp2_with fail
      go_ret
      exact ⟨rfl, below_chain hb6 hbE⟩
    · have hrt : r = true := R4.out rfl rfl
      subst hrt
      clear R1 R4
      go_wp2_with fail
      refine (B12.out _).mono ?_
      rintro e v5 ⟨rfl, hb5⟩
      have hbE := below_chain hb5 hbD
      have N5 := N4.call hb5
      have M5 := M4.call hb5
      clear hb5 hbD N4 M4 t0 t1 t2 u0 u1 u2
      obtain ⟨t0, t1, t2, u0, u1, u2⟩ := h6.out _ N5 M5
      go_wp2_with fail
      refine (B02.out _).mono ?_
      rintro e v6 ⟨rfl, hb6⟩
      have hbF := below_chain hb6 hbE
      clear hb6 hbE N5 M5 t0 t1 t2 u0 u1 u2
      go_wp2_with fail
      refine (awake25 _).mono ?_
      rintro e v7 ⟨rfl, hb7⟩
      go_wp2_with fail
      go_ret
      exact ⟨rfl, below_chain hb7 hbF⟩
end Go.Proofs.Ytiicgnijiiidcaa
