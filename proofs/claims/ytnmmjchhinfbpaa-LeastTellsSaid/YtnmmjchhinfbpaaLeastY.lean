/- least: Burden; Quick's closures. -/
import Derived.Test.YtnmmjchhinfbpaaLeastX
import Derived.Test.YtnmmjchhinfbpaaLeastI
namespace Go.Proofs.Ytnmmjchhinfbpaa
open Go Go.RowKit Go.Deep Go.Maps Go.ChangeMaps

/-- A burden's key. -/
def BurdenIs (t : Nat) (n wt : Int) (r : Int) : Prop := t < 18446744073709551616 ∧ keyB (brdB t n wt) = r
/-- What a backend's burden is made of. -/
structure QSt (w : World) (gt gl g b bm n : Nat) (M : LM) (f : Int → Nat) : Prop where
  ct : w.cell? ⟨gt, 0, none⟩ = some (.map (some bm))
  cl : w.cell? ⟨gl, 0, none⟩ = some (.pointer (some ⟨g, 0, none⟩))
  load : LoadAt w g b M
  map : Fmap w bm n f
theorem QSt.call {w w' : World} {gt gl g b bm n : Nat} {M : LM} {f : Int → Nat} (h : QSt w gt gl g b bm n M f) (hb : Below w.heap.size w w') : QSt w' gt gl g b bm n M f :=
  ⟨(hb.cell (block_lt_of_cell h.ct)).trans h.ct, (hb.cell (block_lt_of_cell h.cl)).trans h.cl, h.load.call hb, h.map.call hb⟩
set_option maxRecDepth 100000 in
set_option maxHeartbeats 2000000 in
theorem quick1_any (x : Bk) (gt gl g b bm n : Nat) (M : LM) (f : Int → Nat) (r : Int) (w : World) (h : QSt w gt gl g b bm n M f) (hx : bkWf x) (hr : BurdenIs (f x.id) (lmGet M x.id) x.w r) :
    Calls Try.prog 51 #[x.val, .pointer (some ⟨gt, 0, none⟩), .pointer (some ⟨gl, 0, none⟩)] w fun e w' => e = .returned (.int .u64 r) ∧ Below w.heap.size w w' := by
  obtain ⟨xi, xw, xs, xv, xh, xo⟩ := x
  unfold Bk.val
  dsimp only at *
  obtain ⟨w0, hw0⟩ : ∃ w0, w0 = w.alloc (.cells #[.int .i64 xi, .int .i64 xw, .int .i64 xs, .bool xv, .int .u64 xh, .int .u64 xo] 46) := ⟨_, rfl⟩
  have hb0 : Below w.heap.size w w0 := hw0 ▸ below_alloc (Below.refl _ _) _
  have B1 : Blk w0 w.heap.size 46 #[.int .i64 xi, .int .i64 xw, .int .i64 xs, .bool xv, .int .u64 xh, .int .u64 xo] := hw0 ▸ Blk.new w _ _
  have h0 := h.call hb0
  have ct := h0.ct
  have cl := h0.cl
  have d0 := B1.cell 0
  have d1 := B1.cell 1
  simp only [List.getElem?_toArray, List.getElem?_cons_zero, List.getElem?_cons_succ] at d0 d1
  have LK := fun k => Fmap.look (w := w0.drewN k) (id := xi) h0.map hx
  have G := fun k => Lib.hid (load_get g b M xi (w0.drewN k) h0.load hx)
  obtain ⟨ht, hr⟩ := hr
  have BU := fun W => burden_all (f xi) (lmGet M xi) xw ht W
  have KE := fun W => key_all (brdB_cl (n := lmGet M xi) (wt := xw) ht) W
  rw [hr] at KE
  generalize brdB (f xi) (lmGet M xi) xw = bd at *
  replace BU := Lib.hid BU
  replace KE := Lib.hid KE
  replace G := Lib.hid G
  clear h h0 ht hr
  generalize lmGet M xi = gx at *
  go_enter Try.func51, Try.ntmps51
  go_wp2_with fail
  rw [← hw0]
  clear hw0
  go_quiet ((first | (go_at_call 53; with_reducible exact Calls.quiet_of_same (still_of ((G.out _).out))) | (go_at_call 28; with_reducible exact Calls.quiet_of_same (still_of (BU.out _))) | (go_at_call 52; with_reducible exact Calls.quiet_of_same (still_of (KE.out _)))))
  have hb1 : Below w.heap.size w (w0.drewN nq) := below_drewN hb0 nq
  clear LK
  generalize w0.drewN nq = w2 at *
  go_wp2_with fail
  go_ret
  exact ⟨rfl, hb1⟩
theorem compare_int (x y : Int) (w : World) : Calls Try.prog 57 #[.int .i64 x, .int .i64 y] w fun e w' => e = .returned (.int .i64 (cmpI x y)) ∧ w = w' := by
  go_enter Try.func57, Try.ntmps57
  go_wp2
  all_goals go_ret
  all_goals refine ⟨ret_int ?_, rfl⟩
  all_goals (unfold cmpI; repeat' split) <;> omega
end Go.Proofs.Ytnmmjchhinfbpaa
