/- the reference's Draw; the closure that is the better one of two; folds. -/
import Derived.Test.YtdkcjfcjckpjcaaTwoA
namespace Go.Proofs.Ytdkcjfcjckpjcaa
open Go Go.RowKit Go.Deep

set_option maxRecDepth 100000 in
set_option maxHeartbeats 2000000 in
theorem ref_draw (l : List Bk) (A : Option Addr) (c : Nat) (x : Nat) (w : World) (hx : x < 18446744073709551616) (hr : Reads w w.heap.size 6 A l.length (l.flatMap Bk.cells)) (hl : l.length ≤ 1000000) :
    Calls Try.prog 82 #[.slice A l.length c, .int .u64 x] w fun e w' => e = .returned (.tuple #[(drawB l x).val, .bool (drawOk l)]) ∧ Below w.heap.size w w' := by
  by_cases h0 : l.length = 0
  · have e0 : ((l.length : Int) == 0) = true := by rw [h0]; rfl
    obtain rfl : l = [] := List.eq_nil_of_length_eq_zero h0
    go_enter Try.func82, Try.ntmps82
    go_wp2_with fail
    refine bodyPost_ret (v := .tuple #[.agg #[.int .i64 0, .int .i64 0, .int .i64 0, .bool false, .int .u64 0, .int .u64 0], .bool false]) (by simp [results, Try.results82, go_sem, *]) rfl ?_
    exact ⟨rfl, (by repeat (first | exact Below.refl _ _ | assumption | refine below_alloc ?_ _ | refine below_chain (by assumption) ?_ | refine below_call2 (by assumption) ?_ (by first | omega | (simp; done) | (simp; omega) | (simp [World.setCell]; omega)) | refine below_drewN ?_ _ | refine Below.drew ?_ | refine Below.alloc ?_ (by first | omega | (simp; done) | (simp; omega) | (simp [World.setCell]; omega)) _ | refine Below.setCell ?_ (by first | omega | (simp; done) | (simp; omega) | (simp [World.setCell]; omega)) _))⟩
  · have e0 : ((l.length : Int) == 0) = false := by rw [beq_eq_false_iff_ne]; omega
    obtain ⟨k, hk, hkl⟩ := scale_nat x l.length hx (by omega) (by omega)
    have SC := fun W => refscale_any x l.length W hx
    rw [hk] at SC
    obtain ⟨ad, b, rfl, hbl, hb, c0, c1, c2, c3, c4, c5⟩ := bk_at hr hkl
    have hkli : (k : Int) < (l.length : Int) := by omega
    have hfin : drawB l x = b := by unfold drawB; rw [if_neg h0, hk, Int.toNat_natCast, List.getD_eq_getElem?_getD, hb]; rfl
    have hok : drawOk l = true := by unfold drawOk; simp [h0]
    rw [hfin, hok]
    obtain ⟨bi, bw, bs, bv, bh, bo⟩ := b
    unfold Bk.val
    dsimp only at *
    replace SC := Lib.hid SC
    have hne : (ad.add (k * 6)).block < w.heap.size := by rw [block_of_add]; exact hbl
    clear hk hb hfin hok h0
    go_enter Try.func82, Try.ntmps82
    go_wp2_with (go_at_call 72; with_reducible refine (SC.out _).mono ?_; rintro e w4 ⟨rfl, rfl⟩)
    refine bodyPost_ret (v := .tuple #[.agg #[.int .i64 bi, .int .i64 bw, .int .i64 bs, .bool bv, .int .u64 bh, .int .u64 bo], .bool true]) (by simp [results, Try.results82, go_sem, *]) rfl ?_
    exact ⟨rfl, (by repeat (first | exact Below.refl _ _ | assumption | refine below_alloc ?_ _ | refine below_chain (by assumption) ?_ | refine below_call2 (by assumption) ?_ (by first | omega | (simp; done) | (simp; omega) | (simp [World.setCell]; omega)) | refine below_drewN ?_ _ | refine Below.drew ?_ | refine Below.alloc ?_ (by first | omega | (simp; done) | (simp; omega) | (simp [World.setCell]; omega)) _ | refine Below.setCell ?_ (by first | omega | (simp; done) | (simp; omega) | (simp [World.setCell]; omega)) _))⟩

theorem still_of {P : Program} {f : FuncId} {args : Array Value} {w : World} {v : Value} (h : Calls P f args w fun e w' => e = .returned v ∧ w = w') : Calls P f args w fun e w'' => e = .returned v ∧ w'' = w := h.mono fun _ _ ⟨h1, h2⟩ => ⟨h1, h2.symm⟩
def betterB (M : LM) (a b : Bk) : Bk := if lessB (lmGet M b.id) b.w b.id (lmGet M a.id) a.w a.id then b else a
def bkWf (b : Bk) : Prop := (Lit.int .i64 b.id).wf = true
set_option maxRecDepth 100000 in
set_option maxHeartbeats 2000000 in
theorem better1_any (x y : Bk) (g b gc : Nat) (M : LM) (w : World) (hc : w.cell? ⟨gc, 0, none⟩ = some (.pointer (some ⟨g, 0, none⟩))) (h : LoadAt w g b M) (hx : bkWf x) (hy : bkWf y) :
    Calls Try.prog 129 #[x.val, y.val, .pointer (some ⟨gc, 0, none⟩)] w fun e w' => e = .returned (betterB M x y).val ∧ Below w.heap.size w w' := by
  obtain ⟨xi, xw, xs, xv, xh, xo⟩ := x
  obtain ⟨yi, yw, ys, yv, yh, yo⟩ := y
  unfold betterB bkWf at *
  unfold Bk.val
  dsimp only at *
  have L := fun W => less_any (lmGet M yi) yw yi (lmGet M xi) xw xi W
  obtain ⟨o, ho⟩ : ∃ o, lessB (lmGet M yi) yw yi (lmGet M xi) xw xi = o := ⟨_, rfl⟩
  rw [ho] at L ⊢
  obtain ⟨w0, hw0⟩ : ∃ w0, w0 = ((w.alloc (.cells #[.int .i64 xi, .int .i64 xw, .int .i64 xs, .bool xv, .int .u64 xh, .int .u64 xo] 106)).alloc (.cells #[.int .i64 yi, .int .i64 yw, .int .i64 ys, .bool yv, .int .u64 yh, .int .u64 yo] 106)).alloc (.cells #[.int .i64 0, .int .i64 0, .int .i64 0, .bool false, .int .u64 0, .int .u64 0] 106) := ⟨_, rfl⟩
  have hb0 : Below w.heap.size w w0 := hw0 ▸ (by repeat (first | exact Below.refl _ _ | assumption | refine below_alloc ?_ _ | refine below_chain (by assumption) ?_ | refine below_call2 (by assumption) ?_ (by first | omega | (simp; done) | (simp; omega) | (simp [World.setCell]; omega)) | refine below_drewN ?_ _ | refine Below.drew ?_ | refine Below.alloc ?_ (by first | omega | (simp; done) | (simp; omega) | (simp [World.setCell]; omega)) _ | refine Below.setCell ?_ (by first | omega | (simp; done) | (simp; omega) | (simp [World.setCell]; omega)) _))
  have B1 : Blk w0 w.heap.size 106 #[.int .i64 xi, .int .i64 xw, .int .i64 xs, .bool xv, .int .u64 xh, .int .u64 xo] := hw0 ▸ ((Blk.new w _ _).alloc _).alloc _
  have B2 : Blk w0 (w.heap.size + 1) 106 #[.int .i64 yi, .int .i64 yw, .int .i64 ys, .bool yv, .int .u64 yh, .int .u64 yo] := hw0 ▸ by simpa using (Blk.new (w.alloc (.cells #[.int .i64 xi, .int .i64 xw, .int .i64 xs, .bool xv, .int .u64 xh, .int .u64 xo] 106)) 106 #[.int .i64 yi, .int .i64 yw, .int .i64 ys, .bool yv, .int .u64 yh, .int .u64 yo]).alloc (.cells #[.int .i64 0, .int .i64 0, .int .i64 0, .bool false, .int .u64 0, .int .u64 0] 106)
  have B3 : Blk w0 (w.heap.size + 1 + 1) 106 #[.int .i64 0, .int .i64 0, .int .i64 0, .bool false, .int .u64 0, .int .u64 0] := hw0 ▸ by simpa using Blk.new ((w.alloc (.cells #[.int .i64 xi, .int .i64 xw, .int .i64 xs, .bool xv, .int .u64 xh, .int .u64 xo] 106)).alloc (.cells #[.int .i64 yi, .int .i64 yw, .int .i64 ys, .bool yv, .int .u64 yh, .int .u64 yo] 106)) 106 #[.int .i64 0, .int .i64 0, .int .i64 0, .bool false, .int .u64 0, .int .u64 0]
  have h0 := h.call hb0
  have hc0 := (hb0.cell (p := ⟨gc, 0, none⟩) (block_lt_of_cell hc)).trans hc
  have G1 := fun (W : World) (hW : W.heap = w0.heap) => load_get g b M xi W (by unfold LoadAt Blk Imap World.ownsMap at h0 ⊢; rw [hW]; exact h0) hx
  have G2 := fun (W : World) (hW : W.heap = w0.heap) => load_get g b M yi W (by unfold LoadAt Blk Imap World.ownsMap at h0 ⊢; rw [hW]; exact h0) hy
  generalize lmGet M xi = gx at *
  generalize lmGet M yi = gy at *
  replace G1 := Lib.hid G1
  replace G2 := Lib.hid G2
  replace L := Lib.hid L
  replace ho := Lib.hid ho
  clear h hc h0
  go_enter Try.func129, Try.ntmps129
  go_wp2_with fail
  rw [← hw0]
  have d0 := B1.cell 0
  have d1 := B1.cell 1
  have e0 := B2.cell 0
  have e1 := B2.cell 1
  simp at d0 d1 e0 e1
  clear hw0
  refine wp_region_still_tail 16 (by kernel_rfl) (by kernel_rfl) ?_
  simp only [List.take_succ_cons, List.take_zero, List.drop_succ_cons, List.drop_zero]
  repeat still_step
  still_call (still_of (G2.out _ (hdrew _)))
  repeat still_step
  still_call (still_of (G1.out _ (hdrew _)))
  repeat still_step
  refine wpStill_nil ?_
  change wpList _ _ _ _ _ w0.drew
  have C1 : Blk w0.drew w.heap.size 106 #[.int .i64 xi, .int .i64 xw, .int .i64 xs, .bool xv, .int .u64 xh, .int .u64 xo] := B1
  have C2 : Blk w0.drew (w.heap.size + 1) 106 #[.int .i64 yi, .int .i64 yw, .int .i64 ys, .bool yv, .int .u64 yh, .int .u64 yo] := B2
  have C3 : Blk w0.drew (w.heap.size + 1 + 1) 106 #[.int .i64 0, .int .i64 0, .int .i64 0, .bool false, .int .u64 0, .int .u64 0] := B3
  have hbd : Below w.heap.size w w0.drew := hb0.drew
  clear B1 B2 B3 G1 G2 d0 d1 e0 e1 hc0 hb0
  generalize w0.drew = w1 at *
  cases o
  · go_wp2_with (go_at_call 88; with_reducible refine (L.out _).mono ?_; rintro e w2 ⟨rfl, hb2⟩; have D1 := C1.call hb2; have D3 := C3.call hb2; have d0 := D1.cell 0; have d1 := D1.cell 1; have d2 := D1.cell 2; have d3 := D1.cell 3; have d4 := D1.cell 4; have d5 := D1.cell 5; have f0 := D3.cell 0; have f1 := D3.cell 1; have f2 := D3.cell 2; have f3 := D3.cell 3; have f4 := D3.cell 4; have f5 := D3.cell 5; simp at d0 d1 d2 d3 d4 d5 f0 f1 f2 f3 f4 f5; have q0 := D3.frozen 0; have q1 := D3.frozen 1; have q2 := D3.frozen 2; have q3 := D3.frozen 3; have q4 := D3.frozen 4; have q5 := D3.frozen 5)
    refine bodyPost_ret (v := .agg #[.int .i64 xi, .int .i64 xw, .int .i64 xs, .bool xv, .int .u64 xh, .int .u64 xo]) (by simp [results, Try.results129, go_sem, f0, f1, f2, f3, f4, f5]) rfl ?_
    exact ⟨rfl, set6 (below_chain hb2 hbd) (by omega)⟩
  · go_wp2_with (go_at_call 88; with_reducible refine (L.out _).mono ?_; rintro e w2 ⟨rfl, hb2⟩; have D1 := C2.call hb2; have D3 := C3.call hb2; have d0 := D1.cell 0; have d1 := D1.cell 1; have d2 := D1.cell 2; have d3 := D1.cell 3; have d4 := D1.cell 4; have d5 := D1.cell 5; have f0 := D3.cell 0; have f1 := D3.cell 1; have f2 := D3.cell 2; have f3 := D3.cell 3; have f4 := D3.cell 4; have f5 := D3.cell 5; simp at d0 d1 d2 d3 d4 d5 f0 f1 f2 f3 f4 f5; have q0 := D3.frozen 0; have q1 := D3.frozen 1; have q2 := D3.frozen 2; have q3 := D3.frozen 3; have q4 := D3.frozen 4; have q5 := D3.frozen 5)
    refine bodyPost_ret (v := .agg #[.int .i64 yi, .int .i64 yw, .int .i64 ys, .bool yv, .int .u64 yh, .int .u64 yo]) (by simp [results, Try.results129, go_sem, f0, f1, f2, f3, f4, f5]) rfl ?_
    exact ⟨rfl, set6 (below_chain hb2 hbd) (by omega)⟩
end Go.Proofs.Ytdkcjfcjckpjcaa
