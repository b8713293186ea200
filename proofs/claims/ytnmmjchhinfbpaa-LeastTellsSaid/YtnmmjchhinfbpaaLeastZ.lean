/- least: Quick: the second closure; MinFunc and least by it. -/
import Derived.Test.YtnmmjchhinfbpaaLeastY
namespace Go.Proofs.Ytnmmjchhinfbpaa
open Go Go.RowKit Go.Deep Go.Maps Go.ChangeMaps

theorem Stay2.and {P Q : World → Prop} (hp : ∀ W W1, Below W.heap.size W W1 → P W → P W1) (hq : ∀ W W1, Below W.heap.size W W1 → Q W → Q W1) : ∀ W W1, Below W.heap.size W W1 → P W ∧ Q W → P W1 ∧ Q W1 := fun W W1 hb h => ⟨hp W W1 hb h.1, hq W W1 hb h.2⟩
abbrev q1fn (gt gl : Nat) : Value := .func (Fn.func 51) #[] #[.pointer (some ⟨gt, 0, none⟩), .pointer (some ⟨gl, 0, none⟩)]
/-- What the second closure is given. -/
structure Q2St (w : World) (gb gt gl g b bm n : Nat) (M : LM) (f : Int → Nat) : Prop where
  q : QSt w gt gl g b bm n M f
  cb : w.cell? ⟨gb, 0, none⟩ = some (q1fn gt gl)
theorem Q2St.call {w w' : World} {gb gt gl g b bm n : Nat} {M : LM} {f : Int → Nat} (h : Q2St w gb gt gl g b bm n M f) (hb : Below w.heap.size w w') : Q2St w' gb gt gl g b bm n M f :=
  ⟨h.q.call hb, (hb.cell (block_lt_of_cell h.cb)).trans h.cb⟩
def qordI (k1 k2 : Int) (i1 i2 : Int) : Int := orI (cmpI k1 k2) (cmpI i1 i2)
set_option maxRecDepth 100000 in
set_option maxHeartbeats 8000000 in
theorem quick2_any (x y : Bk) (gb gt gl g b bm n : Nat) (M : LM) (f : Int → Nat) (kx ky : Int) (w : World) (h : Q2St w gb gt gl g b bm n M f) (hx : bkWf x) (hy : bkWf y) (hkx : BurdenIs (f x.id) (lmGet M x.id) x.w kx) (hky : BurdenIs (f y.id) (lmGet M y.id) y.w ky) :
    Calls Try.prog 54 #[x.val, y.val, .pointer (some ⟨gb, 0, none⟩)] w fun e w' => e = .returned (.int .i64 (qordI kx ky x.id y.id)) ∧ Below w.heap.size w w' := by
  have K1 := fun W (hb : Below w.heap.size w W) => quick1_any x gt gl g b bm n M f kx W (h.q.call hb) hx hkx
  have K2 := fun W (hb : Below w.heap.size w W) => quick1_any y gt gl g b bm n M f ky W (h.q.call hb) hy hky
  obtain ⟨xi, xw, xs, xv, xh, xo⟩ := x
  obtain ⟨yi, yw, ys, yv, yh, yo⟩ := y
  unfold Bk.val at *
  unfold qordI
  dsimp only at *
  have C1 := fun W => compare_any kx ky W
  have C2 := fun W => compare_int xi yi W
  have OR := fun g W h => or_any (cmpI kx ky) (cmpI xi yi) g W h
  generalize cmpI kx ky = c1 at *
  generalize cmpI xi yi = c2 at *
  generalize orI c1 c2 = c3 at *
  obtain ⟨w0, hw0⟩ : ∃ w0, w0 = (w.alloc (.cells #[.int .i64 xi, .int .i64 xw, .int .i64 xs, .bool xv, .int .u64 xh, .int .u64 xo] 46)).alloc (.cells #[.int .i64 yi, .int .i64 yw, .int .i64 ys, .bool yv, .int .u64 yh, .int .u64 yo] 46) := ⟨_, rfl⟩
  have hb0 : Below w.heap.size w w0 := hw0 ▸ below_alloc (below_alloc (Below.refl _ _) _) _
  have B1 : Blk w0 w.heap.size 46 #[.int .i64 xi, .int .i64 xw, .int .i64 xs, .bool xv, .int .u64 xh, .int .u64 xo] := hw0 ▸ (Blk.new w _ _).alloc _
  have B2 : Blk w0 (w.heap.size + 1) 46 #[.int .i64 yi, .int .i64 yw, .int .i64 ys, .bool yv, .int .u64 yh, .int .u64 yo] := by
    have := Blk.new (w.alloc (.cells #[.int .i64 xi, .int .i64 xw, .int .i64 xs, .bool xv, .int .u64 xh, .int .u64 xo] 46)) 46 #[.int .i64 yi, .int .i64 yw, .int .i64 ys, .bool yv, .int .u64 yh, .int .u64 yo]
    rw [← hw0] at this
    simpa using this
  have cb := (h.call hb0).cb
  obtain ⟨⟨x0, x1, x2, x3, x4, x5⟩, -⟩ := B1.six
  obtain ⟨⟨y0, y1, y2, y3, y4, y5⟩, -⟩ := B2.six
  have hst : ∀ W W1, Below W.heap.size W W1 → (fun w' => Below w0.heap.size w0 w' ∧ w'.cell? ⟨gb, 0, none⟩ = some (q1fn gt gl) ∧ w'.cell? ⟨w.heap.size, 0, none⟩ = some (.int .i64 xi) ∧ w'.cell? ⟨w.heap.size, 1, none⟩ = some (.int .i64 xw) ∧ w'.cell? ⟨w.heap.size, 2, none⟩ = some (.int .i64 xs) ∧ w'.cell? ⟨w.heap.size, 3, none⟩ = some (.bool xv) ∧ w'.cell? ⟨w.heap.size, 4, none⟩ = some (.int .u64 xh) ∧ w'.cell? ⟨w.heap.size, 5, none⟩ = some (.int .u64 xo) ∧ w'.cell? ⟨w.heap.size + 1, 0, none⟩ = some (.int .i64 yi) ∧ w'.cell? ⟨w.heap.size + 1, 1, none⟩ = some (.int .i64 yw) ∧ w'.cell? ⟨w.heap.size + 1, 2, none⟩ = some (.int .i64 ys) ∧ w'.cell? ⟨w.heap.size + 1, 3, none⟩ = some (.bool yv) ∧ w'.cell? ⟨w.heap.size + 1, 4, none⟩ = some (.int .u64 yh) ∧ w'.cell? ⟨w.heap.size + 1, 5, none⟩ = some (.int .u64 yo)) W → (fun w' => Below w0.heap.size w0 w' ∧ w'.cell? ⟨gb, 0, none⟩ = some (q1fn gt gl) ∧ w'.cell? ⟨w.heap.size, 0, none⟩ = some (.int .i64 xi) ∧ w'.cell? ⟨w.heap.size, 1, none⟩ = some (.int .i64 xw) ∧ w'.cell? ⟨w.heap.size, 2, none⟩ = some (.int .i64 xs) ∧ w'.cell? ⟨w.heap.size, 3, none⟩ = some (.bool xv) ∧ w'.cell? ⟨w.heap.size, 4, none⟩ = some (.int .u64 xh) ∧ w'.cell? ⟨w.heap.size, 5, none⟩ = some (.int .u64 xo) ∧ w'.cell? ⟨w.heap.size + 1, 0, none⟩ = some (.int .i64 yi) ∧ w'.cell? ⟨w.heap.size + 1, 1, none⟩ = some (.int .i64 yw) ∧ w'.cell? ⟨w.heap.size + 1, 2, none⟩ = some (.int .i64 ys) ∧ w'.cell? ⟨w.heap.size + 1, 3, none⟩ = some (.bool yv) ∧ w'.cell? ⟨w.heap.size + 1, 4, none⟩ = some (.int .u64 yh) ∧ w'.cell? ⟨w.heap.size + 1, 5, none⟩ = some (.int .u64 yo)) W1 := by
    intro W W1 hb h
    obtain ⟨h0, h1, h2, h3, h4, h5, h6, h7, h8, h9, h10, h11, h12, h13⟩ := h
    exact ⟨below_chain hb h0, (hb.cell (block_lt_of_cell h1)).trans h1, (hb.cell (block_lt_of_cell h2)).trans h2, (hb.cell (block_lt_of_cell h3)).trans h3, (hb.cell (block_lt_of_cell h4)).trans h4, (hb.cell (block_lt_of_cell h5)).trans h5, (hb.cell (block_lt_of_cell h6)).trans h6, (hb.cell (block_lt_of_cell h7)).trans h7, (hb.cell (block_lt_of_cell h8)).trans h8, (hb.cell (block_lt_of_cell h9)).trans h9, (hb.cell (block_lt_of_cell h10)).trans h10, (hb.cell (block_lt_of_cell h11)).trans h11, (hb.cell (block_lt_of_cell h12)).trans h12, (hb.cell (block_lt_of_cell h13)).trans h13⟩
  have hSb : ∀ W, (fun w' => Below w0.heap.size w0 w' ∧ w'.cell? ⟨gb, 0, none⟩ = some (q1fn gt gl) ∧ w'.cell? ⟨w.heap.size, 0, none⟩ = some (.int .i64 xi) ∧ w'.cell? ⟨w.heap.size, 1, none⟩ = some (.int .i64 xw) ∧ w'.cell? ⟨w.heap.size, 2, none⟩ = some (.int .i64 xs) ∧ w'.cell? ⟨w.heap.size, 3, none⟩ = some (.bool xv) ∧ w'.cell? ⟨w.heap.size, 4, none⟩ = some (.int .u64 xh) ∧ w'.cell? ⟨w.heap.size, 5, none⟩ = some (.int .u64 xo) ∧ w'.cell? ⟨w.heap.size + 1, 0, none⟩ = some (.int .i64 yi) ∧ w'.cell? ⟨w.heap.size + 1, 1, none⟩ = some (.int .i64 yw) ∧ w'.cell? ⟨w.heap.size + 1, 2, none⟩ = some (.int .i64 ys) ∧ w'.cell? ⟨w.heap.size + 1, 3, none⟩ = some (.bool yv) ∧ w'.cell? ⟨w.heap.size + 1, 4, none⟩ = some (.int .u64 yh) ∧ w'.cell? ⟨w.heap.size + 1, 5, none⟩ = some (.int .u64 yo)) W → Below w.heap.size w W := fun W h => below_chain h.1 hb0
  replace K1 := Lib.hid K1
  replace K2 := Lib.hid K2
  replace C1 := Lib.hid C1
  replace C2 := Lib.hid C2
  replace OR := Lib.hid OR
  replace hst := Lib.hid hst
  replace hSb := Lib.hid hSb
  clear h hx hy hkx hky
  go_enter Try.func54, Try.ntmps54
  go_wp2_with fail
  rw [← hw0]
  clear hw0
  go_region_held3 (fun w' => Below w0.heap.size w0 w' ∧ w'.cell? ⟨gb, 0, none⟩ = some (q1fn gt gl) ∧ w'.cell? ⟨w.heap.size, 0, none⟩ = some (.int .i64 xi) ∧ w'.cell? ⟨w.heap.size, 1, none⟩ = some (.int .i64 xw) ∧ w'.cell? ⟨w.heap.size, 2, none⟩ = some (.int .i64 xs) ∧ w'.cell? ⟨w.heap.size, 3, none⟩ = some (.bool xv) ∧ w'.cell? ⟨w.heap.size, 4, none⟩ = some (.int .u64 xh) ∧ w'.cell? ⟨w.heap.size, 5, none⟩ = some (.int .u64 xo) ∧ w'.cell? ⟨w.heap.size + 1, 0, none⟩ = some (.int .i64 yi) ∧ w'.cell? ⟨w.heap.size + 1, 1, none⟩ = some (.int .i64 yw) ∧ w'.cell? ⟨w.heap.size + 1, 2, none⟩ = some (.int .i64 ys) ∧ w'.cell? ⟨w.heap.size + 1, 3, none⟩ = some (.bool yv) ∧ w'.cell? ⟨w.heap.size + 1, 4, none⟩ = some (.int .u64 yh) ∧ w'.cell? ⟨w.heap.size + 1, 5, none⟩ = some (.int .u64 yo)) ((first | assumption | exact hst.out _ _ (below_alloc (Below.refl _ _) _) (by assumption) | ((refine ⟨?_, ?_⟩; (first | assumption | exact (Below.refl _ _).drew | exact Below.refl _ _); go_keep)))) (first
    | (go_at_call 51; (with_reducible refine (K1.out _ (hSb.out _ (by assumption))).mono ?_); rintro e w1 ⟨rfl, hb1⟩; have hS := hst.out _ _ hb1 (by assumption))
    | (go_at_call 51; (with_reducible refine (K2.out _ (hSb.out _ (by assumption))).mono ?_); rintro e w1 ⟨rfl, hb1⟩; have hS := hst.out _ _ hb1 (by assumption))
    | (go_at_call 56; (with_reducible refine (C1.out _).mono ?_); rintro e w1 ⟨rfl, rfl⟩)
    | (go_at_call 57; (with_reducible refine (C2.out _).mono ?_); rintro e w1 ⟨rfl, rfl⟩)
    | (go_at_call 55; refine (OR.out _ _ (Blk.new _ _ _)).mono ?_; rintro e w1 ⟨rfl, rfl⟩))
  all_goals
    go_wp2_with fail
    go_ret
    exact ⟨rfl, by first | exact hSb.out _ (by assumption) | exact below_alloc (hSb.out _ (by assumption)) _⟩
end Go.Proofs.Ytnmmjchhinfbpaa
