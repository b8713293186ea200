/- least: Burden; Quick's closures. -/
import Derived.Test.YtkpkjpdhlmjchaaLeastX
namespace Go.Proofs.Ytkpkjpdhlmjchaa
open Go Go.RowKit Go.Deep Go.Maps Go.ChangeMaps

/-- What Burden computes, step by step. -/
structure BurdenIs (t : Nat) (n wt : Int) (r : Nat) : Prop where
  n0 : 0 ≤ n
  n1 : n ≤ 1099511627776
  w0 : 1 ≤ wt
  w1 : wt ≤ 1000
  steps : ∃ p x q : Nat, FB t ∧ FB x ∧ FB r ∧ (∀ w : World, (convert 3 51 (.int .i64 (n + 1))).run Try.prog w = .ok (.float .f64 p) w) ∧ (∀ w : World, (binOp .mul 51 (.float .f64 t) (.float .f64 p)).run Try.prog w = .ok (.float .f64 x) w) ∧
    (∀ w : World, (convert 3 51 (.int .i64 wt)).run Try.prog w = .ok (.float .f64 q) w) ∧ (∀ w : World, (binOp .quo 51 (.float .f64 x) (.float .f64 q)).run Try.prog w = .ok (.float .f64 r) w)
theorem burden_any {t r : Nat} {n wt : Int} (h : BurdenIs t n wt r) (w : World) : Calls Try.prog 30 #[.float .f64 t, .int .i64 n, .int .i64 wt] w fun e w' => e = .returned (.float .f64 r) ∧ w = w' := by
  obtain ⟨n0, n1, w0, w1, p, x, q, ft, fx, fr, s1, s2, s3, s4⟩ := h
  have d1 : decide (n < 0) = false := by simpa using n0
  have d2 : decide (1099511627776 < n) = false := by simpa using n1
  have d3 : decide (wt < 1) = false := by simp; omega
  have d4 : decide (1000 < wt) = false := by simpa using w1
  have C1 := Lib.hid fun W => clean_any ft W
  have C2 := Lib.hid fun W => clean_any fx W
  have C3 := Lib.hid fun W => clean_any fr W
  go_enter Try.func30, Try.ntmps30
  go_wp2_with fail
  refine (C1.out _).mono ?_
  rintro e w1 ⟨rfl, rfl⟩
  go_wp2_with fail
  refine (C2.out _).mono ?_
  rintro e w1 ⟨rfl, rfl⟩
  go_wp2_with fail
  refine (C3.out _).mono ?_
  rintro e w1 ⟨rfl, rfl⟩
  go_wp2_with fail
  go_ret
  exact ⟨rfl, rfl⟩
/-- What a backend's burden is made of. -/
structure QSt (w : World) (gt gl g b bm n : Nat) (M : LM) (f : Int → Nat) : Prop where
  ct : w.cell? ⟨gt, 0, none⟩ = some (.map (some bm))
  cl : w.cell? ⟨gl, 0, none⟩ = some (.pointer (some ⟨g, 0, none⟩))
  load : LoadAt w g b M
  map : Fmap w bm n f
theorem QSt.call {w w' : World} {gt gl g b bm n : Nat} {M : LM} {f : Int → Nat} (h : QSt w gt gl g b bm n M f) (hb : Below w.heap.size w w') : QSt w' gt gl g b bm n M f :=
  ⟨(hb.cell (block_lt_of_cell h.ct)).trans h.ct, (hb.cell (block_lt_of_cell h.cl)).trans h.cl, h.load.call hb, h.map.call hb⟩
set_option maxRecDepth 100000 in
set_option maxHeartbeats 2000000 in
theorem quick1_any (x : Bk) (gt gl g b bm n : Nat) (M : LM) (f : Int → Nat) (r : Nat) (w : World) (h : QSt w gt gl g b bm n M f) (hx : bkWf x) (hr : BurdenIs (f x.id) (lmGet M x.id) x.w r) :
    Calls Try.prog 69 #[x.val, .pointer (some ⟨gt, 0, none⟩), .pointer (some ⟨gl, 0, none⟩)] w fun e w' => e = .returned (.int .u64 ((r : Int) + 9223372036854775808)) ∧ Below w.heap.size w w' := by
  obtain ⟨xi, xw, xs, xv, xh, xo⟩ := x
  unfold Bk.val
  dsimp only at *
  obtain ⟨w0, hw0⟩ : ∃ w0, w0 = w.alloc (.cells #[.int .i64 xi, .int .i64 xw, .int .i64 xs, .bool xv, .int .u64 xh, .int .u64 xo] 47) := ⟨_, rfl⟩
  have hb0 : Below w.heap.size w w0 := hw0 ▸ below_alloc (Below.refl _ _) _
  have B1 : Blk w0 w.heap.size 47 #[.int .i64 xi, .int .i64 xw, .int .i64 xs, .bool xv, .int .u64 xh, .int .u64 xo] := hw0 ▸ Blk.new w _ _
  have h0 := h.call hb0
  have ct := h0.ct
  have cl := h0.cl
  have d0 := B1.cell 0
  have d1 := B1.cell 1
  simp only [List.getElem?_toArray, List.getElem?_cons_zero, List.getElem?_cons_succ] at d0 d1
  have LK := fun k => Fmap.look (w := w0.drewN k) (id := xi) h0.map hx
  have G := fun k => Lib.hid (load_get g b M xi (w0.drewN k) h0.load hx)
  have FR : FB r := by obtain ⟨_, _, _, _, _, fr, _⟩ := hr.steps; exact fr
  have BU := Lib.hid fun W => burden_any hr W
  have KE := Lib.hid fun W => key_any FR W
  replace G := Lib.hid G
  clear h h0 FR hr
  generalize lmGet M xi = gx at *
  go_enter Try.func69, Try.ntmps69
  go_wp2_with fail
  rw [← hw0]
  clear hw0
  go_quiet ((first | (go_at_call 35; with_reducible exact Calls.quiet_of_same (still_of ((G.out _).out))) | (go_at_call 30; with_reducible exact Calls.quiet_of_same (still_of (BU.out _))) | (go_at_call 70; with_reducible exact Calls.quiet_of_same (still_of (KE.out _)))))
  have hb1 : Below w.heap.size w (w0.drewN nq) := below_drewN hb0 nq
  clear LK
  generalize w0.drewN nq = w2 at *
  go_wp2_with fail
  go_ret
  exact ⟨rfl, hb1⟩
theorem compare_int (x y : Int) (w : World) : Calls Try.prog 74 #[.int .i64 x, .int .i64 y] w fun e w' => e = .returned (.int .i64 (cmpI x y)) ∧ w = w' := by
  go_enter Try.func74, Try.ntmps74
  go_wp2
  all_goals go_ret
  all_goals refine ⟨ret_int ?_, rfl⟩
  all_goals (unfold cmpI; repeat' split) <;> omega
end Go.Proofs.Ytkpkjpdhlmjchaa
