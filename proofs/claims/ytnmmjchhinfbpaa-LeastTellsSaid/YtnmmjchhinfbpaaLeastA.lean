/- least: Pick. -/
import Derived.Test.YtnmmjchhinfbpaaEligA
namespace Go.Proofs.Ytnmmjchhinfbpaa
open Go Go.RowKit Go.Deep

def ordI (M : LM) (a b : Bk) : Int := if lessB (lmGet M a.id) a.w a.id (lmGet M b.id) b.w b.id then -1 else if lessB (lmGet M b.id) b.w b.id (lmGet M a.id) a.w a.id then 1 else 0
theorem betterB_ord (M : LM) (a b : Bk) : betterB M a b = if decide (ordI M b a < 0) then b else a := by
  unfold betterB ordI
  cases lessB (lmGet M b.id) b.w b.id (lmGet M a.id) a.w a.id <;> cases lessB (lmGet M a.id) a.w a.id (lmGet M b.id) b.w b.id <;> simp
set_option maxRecDepth 100000 in
set_option maxHeartbeats 4000000 in
theorem order1_any (x y : Bk) (g b gc : Nat) (M : LM) (w : World) (hc : w.cell? ⟨gc, 0, none⟩ = some (.pointer (some ⟨g, 0, none⟩))) (h : LoadAt w g b M) (hx : bkWf x) (hy : bkWf y) :
    Calls Try.prog 82 #[x.val, y.val, .pointer (some ⟨gc, 0, none⟩)] w fun e w' => e = .returned (.int .i64 (ordI M x y)) ∧ Below w.heap.size w w' := by
  obtain ⟨xi, xw, xs, xv, xh, xo⟩ := x
  obtain ⟨yi, yw, ys, yv, yh, yo⟩ := y
  unfold bkWf ordI at *
  unfold Bk.val
  dsimp only at *
  have L1 := fun W => less_any (lmGet M xi) xw xi (lmGet M yi) yw yi W
  have L2 := fun W => less_any (lmGet M yi) yw yi (lmGet M xi) xw xi W
  obtain ⟨o, ho⟩ : ∃ o, lessB (lmGet M xi) xw xi (lmGet M yi) yw yi = o := ⟨_, rfl⟩
  obtain ⟨o2, ho2⟩ : ∃ o, lessB (lmGet M yi) yw yi (lmGet M xi) xw xi = o := ⟨_, rfl⟩
  rw [ho] at L1 ⊢
  rw [ho2] at L2 ⊢
  obtain ⟨w0, hw0⟩ : ∃ w0, w0 = (w.alloc (.cells #[.int .i64 xi, .int .i64 xw, .int .i64 xs, .bool xv, .int .u64 xh, .int .u64 xo] 46)).alloc (.cells #[.int .i64 yi, .int .i64 yw, .int .i64 ys, .bool yv, .int .u64 yh, .int .u64 yo] 46) := ⟨_, rfl⟩
  have hb0 : Below w.heap.size w w0 := hw0 ▸ below_alloc (below_alloc (Below.refl _ _) _) _
  have B1 : Blk w0 w.heap.size 46 #[.int .i64 xi, .int .i64 xw, .int .i64 xs, .bool xv, .int .u64 xh, .int .u64 xo] := hw0 ▸ (Blk.new w _ _).alloc _
  have B2 : Blk w0 (w.heap.size + 1) 46 #[.int .i64 yi, .int .i64 yw, .int .i64 ys, .bool yv, .int .u64 yh, .int .u64 yo] := by
    have := Blk.new (w.alloc (.cells #[.int .i64 xi, .int .i64 xw, .int .i64 xs, .bool xv, .int .u64 xh, .int .u64 xo] 46)) 46 #[.int .i64 yi, .int .i64 yw, .int .i64 ys, .bool yv, .int .u64 yh, .int .u64 yo]
    rw [← hw0] at this
    simpa using this
  have G1 := fun (W : World) (hb : Below w.heap.size w W) => load_get g b M xi W (h.call hb) hx
  have G2 := fun (W : World) (hb : Below w.heap.size w W) => load_get g b M yi W (h.call hb) hy
  have hc1 : ∀ W, Below w.heap.size w W → W.cell? ⟨gc, 0, none⟩ = some (.pointer (some ⟨g, 0, none⟩)) := fun W hb => (hb.cell (p := ⟨gc, 0, none⟩) (block_lt_of_cell hc)).trans hc
  generalize lmGet M xi = gx at *
  generalize lmGet M yi = gy at *
  replace G1 := Lib.hid G1
  replace G2 := Lib.hid G2
  replace L1 := Lib.hid L1
  replace L2 := Lib.hid L2
  replace ho := Lib.hid ho
  replace ho2 := Lib.hid ho2
  replace hc1 := Lib.hid hc1
  clear h hc
  go_enter Try.func82, Try.ntmps82
  go_wp2_with fail
  rw [← hw0]
  clear hw0
  have hc0 := hc1.out _ hb0
  have d0 := B1.cell 0
  have d1 := B1.cell 1
  have e0 := B2.cell 0
  have e1 := B2.cell 1
  simp only [List.getElem?_toArray, List.getElem?_cons_zero, List.getElem?_cons_succ] at d0 d1 e0 e1
  have hbd := fun n => below_drewN hb0 n
  replace hbd := Lib.hid hbd
  refine wp_region_still_tail 16 (by kernel_rfl) (by kernel_rfl) ?_
  simp only [List.take_succ_cons, List.take_zero, List.drop_succ_cons, List.drop_zero]
  repeat still_step
  still_call (still_of (G1.out _ hb0.drew))
  repeat still_step
  still_call (still_of (G2.out _ hb0.drew))
  repeat still_step
  refine wpStill_nil ?_
  change wpList _ _ _ _ _ w0.drew
  have C1 : Blk w0.drew w.heap.size 46 #[.int .i64 xi, .int .i64 xw, .int .i64 xs, .bool xv, .int .u64 xh, .int .u64 xo] := B1
  have C2 : Blk w0.drew (w.heap.size + 1) 46 #[.int .i64 yi, .int .i64 yw, .int .i64 ys, .bool yv, .int .u64 yh, .int .u64 yo] := B2
  have hbe : Below w.heap.size w w0.drew := hb0.drew
  clear B1 B2 d0 d1 e0 e1 hc0 hb0 hbd
  generalize w0.drew = w1 at *
  go_wp2_with fail
  refine (L1.out _).mono ?_
  rintro e w2 ⟨rfl, hb2⟩
  have D1 := C1.call hb2
  have D2 := C2.call hb2
  have hb3 := below_chain hb2 hbe
  clear C1 C2 hbe hb2
  cases o
  · have hc0 := hc1.out _ hb3
    have d0 := D1.cell 0
    have d1 := D1.cell 1
    have e0 := D2.cell 0
    have e1 := D2.cell 1
    simp only [List.getElem?_toArray, List.getElem?_cons_zero, List.getElem?_cons_succ] at d0 d1 e0 e1
    go_wp2_with fail
    refine wp_region_still_tail 16 (by kernel_rfl) (by kernel_rfl) ?_
    simp only [List.take_succ_cons, List.take_zero, List.drop_succ_cons, List.drop_zero]
    repeat still_step
    still_call (still_of (G2.out _ hb3.drew))
    repeat still_step
    still_call (still_of (G1.out _ hb3.drew))
    repeat still_step
    refine wpStill_nil ?_
    change wpList _ _ _ _ _ w2.drew
    have hb4 : Below w.heap.size w w2.drew := hb3.drew
    clear D1 D2 d0 d1 e0 e1 hc0 hb3
    generalize w2.drew = w3 at *
    go_wp2_with fail
    refine (L2.out _).mono ?_
    rintro e w4 ⟨rfl, hb5⟩
    have hb6 := below_chain hb5 hb4
    clear hb5 hb4
    cases o2
    · go_wp2_with fail
      go_ret
      exact ⟨rfl, hb6⟩
    · go_wp2_with fail
      go_ret
      exact ⟨rfl, hb6⟩
  · go_wp2_with fail
    go_ret
    exact ⟨rfl, hb3⟩
theorem order_any (p : Option Addr) (w : World) : Calls Try.prog 48 #[.pointer p] w fun e w' => e = .returned (.func (Fn.func 82) #[] #[.pointer (some ⟨w.heap.size, 0, none⟩)]) ∧ w' = w.alloc (.cells #[.pointer p] 57) := by
  go_enter Try.func48, Try.ntmps48
  go_wp2_with fail
  go_ret
  exact ⟨rfl, rfl⟩

set_option maxRecDepth 100000 in
set_option maxHeartbeats 4000000 in
theorem minfunc_any (l : List Bk) (A : Option Addr) (c gc g b : Nat) (M : LM) (w : World) (hr : Reads w w.heap.size 6 A l.length (l.flatMap Bk.cells)) (hl : l.length ≤ 1000000) (h0 : 0 < l.length) (hc : w.cell? ⟨gc, 0, none⟩ = some (.pointer (some ⟨g, 0, none⟩))) (h : LoadAt w g b M) (hwf : ∀ x ∈ l, bkWf x) :
    Calls Try.prog 81 #[.slice A l.length c, .func (Fn.func 82) #[] #[.pointer (some ⟨gc, 0, none⟩)]] w fun e w' => e = .returned (foldB M l).val ∧ Below w.heap.size w w' := by
  have hlt1 : ¬ ((l.length : Int) < 1) := by omega
  have hlt1b : decide ((l.length : Int) < 1) = false := by simp; omega
  obtain ⟨ad, x, rfl, hbl, hx, c0, c1, c2, c3, c4, c5⟩ := bk_at hr h0
  have hf1 : foldB M (l.take 1) = x := by
    have := foldB_take M l 0 x hx
    rw [if_pos rfl] at this
    exact this
  have hpos : (0 : Int) < (l.length : Int) := by omega
  have e00 : ad.add (0 * 6) = ad := by unfold Addr.add; cases ad; simp_all
  rw [e00] at c0 c1 c2 c3 c4 c5
  have hz : Addr.add ad 0 = ad := by unfold Addr.add; cases ad; simp_all
  obtain ⟨xi, xw, xs, xv, xh, xo⟩ := x
  dsimp only at *
  replace hf1 := Lib.hid hf1
  replace hx := Lib.hid hx
  replace e00 := Lib.hid e00
  go_enter Try.func81, Try.ntmps81
  go_wp2_with fail
  go_loopw [6] (fun i wr => ∃ k : Nat, 1 ≤ k ∧ k ≤ l.length ∧ i = .int .i64 (k : Nat) ∧ Blk wr w.heap.size 46 #[.int .i64 0, .int .i64 0, .int .i64 0, .bool false, .int .u64 0, .int .u64 0] ∧ Blk wr (w.heap.size + 1) 46 (foldB M (l.take k)).arr ∧ Below w.heap.size w wr) (fun i _ => l.length - (intOf i).toNat)
  case atStart => exact ⟨1, by omega, by omega, rfl, (Blk.new w _ _).alloc _, by rw [hf1.out]; have hn := Blk.new (w.alloc (.cells #[.int .i64 0, .int .i64 0, .int .i64 0, .bool false, .int .u64 0, .int .u64 0] 46)) 46 #[.int .i64 xi, .int .i64 xw, .int .i64 xs, .bool xv, .int .u64 xh, .int .u64 xo]; simp only [World.size_alloc] at hn; exact hn, below_alloc (below_alloc (Below.refl _ _) _) _⟩
  case round =>
    obtain ⟨k, hk1, hk, rfl, hB0, hB1, hb⟩ := hrel
    clear c0 c1 c2 c3 c4 c5 hx hf1
    by_cases hlt : k < l.length
    · have hlti : (k : Int) < (l.length : Int) := by omega
      obtain ⟨ad', x, hade, hbl', hx, c0, c1, c2, c3, c4, c5⟩ := bk_at (hr.below hb) hlt
      obtain rfl : ad = ad' := by simpa using hade
      have hstep := foldB_take M l k x hx
      rw [if_neg (by omega), betterB_ord] at hstep
      have hxw := hwf x (List.mem_of_getElem? hx)
      have hfw := foldB_wf (M := M) (l := l.take k) fun y hy => hwf y (List.mem_of_mem_take hy)
      have hBt := order1_any x (foldB M (l.take k)) g b gc M
      have hLr := h.call hb
      have hcr := (hb.cell (p := ⟨gc, 0, none⟩) (block_lt_of_cell hc)).trans hc
      generalize foldB M (l.take k) = y at *
      generalize ordI M x y = oi at *
      have BT := Lib.hid fun (W : World) (hW : Below wr.heap.size wr W) => hBt W ((hW.cell (p := ⟨gc, 0, none⟩) (block_lt_of_cell hcr)).trans hcr) (hLr.call hW) hxw hfw
      obtain ⟨xi, xw, xs, xv, xh, xo⟩ := x
      obtain ⟨yi, yw, ys, yv, yh, yo⟩ := y
      have hz1 := hB1.lt
      have hz0 := hB0.lt
      obtain ⟨⟨d0, d1, d2, d3, d4, d5⟩, -⟩ := hB1.six
      unfold Bk.arr Bk.val at *
      dsimp only at *
      clear hBt hLr hcr hfw hxw hx h hc hwf hade hr
      obtain ⟨t, ht⟩ : ∃ t, decide (oi < 0) = t := ⟨_, rfl⟩
      rw [ht] at hstep
      replace hstep := Lib.hid hstep
      go_wp2_with fail
      refine wp_region_still_tail 6 (by kernel_rfl) (by kernel_rfl) ?_
      simp only [List.take_succ_cons, List.take_zero, List.drop_succ_cons, List.drop_zero]
      repeat still_step
      refine wpStill_nil ?_
      change wpList _ _ _ _ _ wr.drew
      have A0 : Blk wr.drew w.heap.size 46 #[.int .i64 0, .int .i64 0, .int .i64 0, .bool false, .int .u64 0, .int .u64 0] := hB0
      have A1 : Blk wr.drew (w.heap.size + 1) 46 #[.int .i64 yi, .int .i64 yw, .int .i64 ys, .bool yv, .int .u64 yh, .int .u64 yo] := hB1
      have hb1 : Below w.heap.size w wr.drew := hb.drew
      have hB2 := BT.out wr.drew (Below.refl _ _).drew
      replace hB2 := Lib.hid hB2
      clear hB0 hB1 hb BT d0 d1 d2 d3 d4 d5
      have hC : (wr.drew.cell? (ad.add (k * 6)) = some (.int .i64 xi) ∧ wr.drew.cell? ⟨(ad.add (k * 6)).block, (ad.add (k * 6)).off + 1, none⟩ = some (.int .i64 xw) ∧ wr.drew.cell? ⟨(ad.add (k * 6)).block, (ad.add (k * 6)).off + 2, none⟩ = some (.int .i64 xs) ∧ wr.drew.cell? ⟨(ad.add (k * 6)).block, (ad.add (k * 6)).off + 3, none⟩ = some (.bool xv) ∧ wr.drew.cell? ⟨(ad.add (k * 6)).block, (ad.add (k * 6)).off + 4, none⟩ = some (.int .u64 xh) ∧ wr.drew.cell? ⟨(ad.add (k * 6)).block, (ad.add (k * 6)).off + 5, none⟩ = some (.int .u64 xo)) := ⟨c0, c1, c2, c3, c4, c5⟩
      clear c0 c1 c2 c3 c4 c5
      generalize wr.drew = w1 at *
      go_wp2_with fail
      refine hB2.out.mono ?_
      rintro e w2 ⟨rfl, hb2⟩
      have D0 := A0.call hb2
      have D1 := A1.call hb2
      have hbB := below_chain hb2 hb1
      obtain ⟨g0, g1, g2, g3, g4, g5⟩ := hC
      have c0 := (hb2.cell (p := ad.add (k * 6)) (block_lt_of_cell g0)).trans g0
      have c1 := (hb2.cell (p := ⟨(ad.add (k * 6)).block, (ad.add (k * 6)).off + 1, none⟩) (block_lt_of_cell g1)).trans g1
      have c2 := (hb2.cell (p := ⟨(ad.add (k * 6)).block, (ad.add (k * 6)).off + 2, none⟩) (block_lt_of_cell g2)).trans g2
      have c3 := (hb2.cell (p := ⟨(ad.add (k * 6)).block, (ad.add (k * 6)).off + 3, none⟩) (block_lt_of_cell g3)).trans g3
      have c4 := (hb2.cell (p := ⟨(ad.add (k * 6)).block, (ad.add (k * 6)).off + 4, none⟩) (block_lt_of_cell g4)).trans g4
      have c5 := (hb2.cell (p := ⟨(ad.add (k * 6)).block, (ad.add (k * 6)).off + 5, none⟩) (block_lt_of_cell g5)).trans g5
      clear g0 g1 g2 g3 g4 g5 A0 A1 hb1 hb2 hB2
      obtain ⟨-, q0, q1, q2, q3, q4, q5⟩ := D1.six
      obtain ⟨⟨d0, d1, d2, d3, d4, d5⟩, -⟩ := D1.six
      cases t
      · simp only [Bool.false_eq_true, if_false] at hstep
        go_wp2_with fail
        go_roundw
        case rel => exact ⟨k + 1, by omega, by omega, by go_num, D0, by rw [hstep.out]; exact D1, hbB⟩
        case measure => simp [intOf]; omega
      · simp only [if_true] at hstep
        go_wp2_with fail
        go_roundw
        case rel => exact ⟨k + 1, by omega, by omega, by go_num, blk_far6 D0 (by omega), by rw [hstep.out]; exact blk_set6 D1, set6 hbB (by omega)⟩
        case measure => simp [intOf]; omega
    · obtain rfl : k = l.length := by omega
      have hlti : ¬ (l.length : Int) < (l.length : Int) := by omega
      rw [List.take_length] at hB1
      obtain ⟨y, hy⟩ : ∃ y, foldB M l = y := ⟨_, rfl⟩
      rw [hy] at hB1
      obtain ⟨yi, yw, ys, yv, yh, yo⟩ := y
      replace hy := Lib.hid hy
      unfold Bk.arr at hB1
      dsimp only at hB1
      obtain ⟨⟨d0, d1, d2, d3, d4, d5⟩, -⟩ := hB1.six
      obtain ⟨⟨e0, e1, e2, e3, e4, e5⟩, q0, q1, q2, q3, q4, q5⟩ := hB0.six
      have hfin := blk_set6 (a0 := .int .i64 yi) (a1 := .int .i64 yw) (a2 := .int .i64 ys) (a3 := .bool yv) (a4 := .int .u64 yh) (a5 := .int .u64 yo) hB0
      obtain ⟨⟨f0, f1, f2, f3, f4, f5⟩, -⟩ := hfin.six
      clear h hc hwf hr hfin
      go_wp2_with fail
      refine bodyPost_ret (v := .agg #[.int .i64 yi, .int .i64 yw, .int .i64 ys, .bool yv, .int .u64 yh, .int .u64 yo]) (by simp [results, Try.results81, go_sem, f0, f1, f2, f3, f4, f5]) rfl ?_
      exact ⟨by rw [hy.out], set6 hb (by omega)⟩
end Go.Proofs.Ytnmmjchhinfbpaa
