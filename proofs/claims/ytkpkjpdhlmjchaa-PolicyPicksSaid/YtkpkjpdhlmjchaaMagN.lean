/- maglev: what a table answers: Pick, Places, Count, Moved; the document's Pick. maglev: the document's Pick; Count; Moved. maglev: the check of an example. maglev: what a law's set of backends gives. -/
import Derived.Test.YtkpkjpdhlmjchaaMagJ
import Derived.Test.YtkpkjpdhlmjchaaMagH
import Derived.Test.YtkpkjpdhlmjchaaTwoG
namespace Go.Proofs.Ytkpkjpdhlmjchaa
open Go Go.RowKit Go.Deep

theorem hold13 {w0 W w1 : World} {a1 a2 a3 a4 a5 a6 a7 a8 a9 a10 a11 a12 a13 : Addr} {v1 v2 v3 v4 v5 v6 v7 v8 v9 v10 v11 v12 v13 : Value} (h : Below w0.heap.size w0 W ∧ W.cell? a1 = some v1 ∧ W.cell? a2 = some v2 ∧ W.cell? a3 = some v3 ∧ W.cell? a4 = some v4 ∧ W.cell? a5 = some v5 ∧ W.cell? a6 = some v6 ∧ W.cell? a7 = some v7 ∧ W.cell? a8 = some v8 ∧ W.cell? a9 = some v9 ∧ W.cell? a10 = some v10 ∧ W.cell? a11 = some v11 ∧ W.cell? a12 = some v12 ∧ W.cell? a13 = some v13) (hb : Below W.heap.size W w1) : Below w0.heap.size w0 w1 ∧ w1.cell? a1 = some v1 ∧ w1.cell? a2 = some v2 ∧ w1.cell? a3 = some v3 ∧ w1.cell? a4 = some v4 ∧ w1.cell? a5 = some v5 ∧ w1.cell? a6 = some v6 ∧ w1.cell? a7 = some v7 ∧ w1.cell? a8 = some v8 ∧ w1.cell? a9 = some v9 ∧ w1.cell? a10 = some v10 ∧ w1.cell? a11 = some v11 ∧ w1.cell? a12 = some v12 ∧ w1.cell? a13 = some v13 := by
  obtain ⟨h0, h1, h2, h3, h4, h5, h6, h7, h8, h9, h10, h11, h12, h13⟩ := h
  exact ⟨below_chain hb h0, (hb.cell (block_lt_of_cell h1)).trans h1, (hb.cell (block_lt_of_cell h2)).trans h2, (hb.cell (block_lt_of_cell h3)).trans h3, (hb.cell (block_lt_of_cell h4)).trans h4, (hb.cell (block_lt_of_cell h5)).trans h5, (hb.cell (block_lt_of_cell h6)).trans h6, (hb.cell (block_lt_of_cell h7)).trans h7, (hb.cell (block_lt_of_cell h8)).trans h8, (hb.cell (block_lt_of_cell h9)).trans h9, (hb.cell (block_lt_of_cell h10)).trans h10, (hb.cell (block_lt_of_cell h11)).trans h11, (hb.cell (block_lt_of_cell h12)).trans h12, (hb.cell (block_lt_of_cell h13)).trans h13⟩
theorem given_any {w : World} {g : Nat} {ka kb : Int} {pl : List Int} (h : TabAt w g ka kb pl) (h0 : 0 < pl.length) :
    Calls Try.prog 101 #[.pointer (some ⟨g, 0, none⟩)] w fun e w' => e = .returned (.bool true) ∧ w = w' := by
  obtain ⟨gp, h1, h2⟩ := h
  have c2 := h1.cell 2
  simp at c2
  have hi : (0 : Int) < (pl.length : Int) := by omega
  go_enter Try.func101, Try.ntmps101
  go_wp2_with fail
  go_ret
  exact ⟨rfl, rfl⟩
theorem given_nil (w : World) : Calls Try.prog 101 #[.pointer none] w fun e w' => e = .returned (.bool false) ∧ w = w' := by
  go_enter Try.func101, Try.ntmps101
  go_wp2_with fail
  go_ret
  exact ⟨rfl, rfl⟩
theorem given_plain (w : World) (g : Nat) (a b : Value) (h : Blk w g 167 #[a, b, .slice none 0 0]) : Calls Try.prog 101 #[.pointer (some ⟨g, 0, none⟩)] w fun e w' => e = .returned (.bool false) ∧ w = w' := by
  have c2 := h.cell 2
  simp at c2
  go_enter Try.func101, Try.ntmps101
  go_wp2_with fail
  go_ret
  exact ⟨rfl, rfl⟩
theorem pick_nil (t : Tup) (w : World) : Calls Try.prog 91 #[.pointer none, t.val] w fun e w' => e = .returned (.tuple #[.int .i64 0, .bool false]) ∧ Below w.heap.size w w' := by
  obtain ⟨p, v, hi, lo, v', hi', lo', sp, dp⟩ := t
  unfold Tup.val
  dsimp only
  go_enter Try.func91, Try.ntmps91
  go_wp2_with (go_at_call 101; with_reducible refine (given_nil _).mono ?_; rintro e w1 ⟨rfl, rfl⟩)
  go_ret2
  exact ⟨rfl, (by repeat (first | exact Below.refl _ _ | assumption | refine below_alloc ?_ _ | refine below_chain (by assumption) ?_ | refine below_call2 (by assumption) ?_ (by first | omega | (simp; done) | (simp; omega) | (simp [World.setCell]; omega)) | refine below_drewN ?_ _ | refine Below.drew ?_ | refine Below.alloc ?_ (by first | omega | (simp; done) | (simp; omega) | (simp [World.setCell]; omega)) _ | refine Below.setCell ?_ (by first | omega | (simp; done) | (simp; omega) | (simp [World.setCell]; omega)) _))⟩
theorem places_nil (w : World) : Calls Try.prog 61 #[.pointer none] w fun e w' => e = .returned (.slice none 0 0) ∧ w = w' := by
  go_enter Try.func61, Try.ntmps61
  go_wp2_with (go_at_call 101; with_reducible refine (given_nil _).mono ?_; rintro e w1 ⟨rfl, rfl⟩)
  go_ret
  exact ⟨rfl, rfl⟩
theorem places_plain (w : World) (g : Nat) (a b : Value) (h : Blk w g 167 #[a, b, .slice none 0 0]) : Calls Try.prog 61 #[.pointer (some ⟨g, 0, none⟩)] w fun e w' => e = .returned (.slice none 0 0) ∧ w = w' := by
  have G := given_plain w g a b h
  go_enter Try.func61, Try.ntmps61
  go_wp2_with (go_at_call 101; with_reducible refine G.mono ?_; rintro e w1 ⟨rfl, rfl⟩)
  go_ret
  exact ⟨rfl, rfl⟩
theorem PlAt.reads {w : World} {g : Nat} {pl : List Int} (h : PlAt w g pl.length pl) : Reads w w.heap.size 1 (some ⟨g, 0, none⟩) pl.length (pl.map (.int .i64)) := by
  refine ⟨by simp, fun _ => ⟨_, rfl, h.lt, fun j u hu => ?_⟩⟩
  rw [List.getElem?_map, Option.map_eq_some_iff] at hu
  obtain ⟨x, hx, rfl⟩ := hu
  have hj : j < pl.length := (List.getElem?_eq_some_iff.1 hx).1
  have e : (⟨g, 0, none⟩ : Addr).add j = ⟨g, j, none⟩ := by unfold Addr.add; split <;> simp_all
  rw [e, h.cell hj, List.getD_eq_getElem?_getD, hx]
  rfl
theorem places_any {w : World} {g : Nat} {ka kb : Int} {pl : List Int} (h : TabAt w g ka kb pl) (h0 : 0 < pl.length) (hl : pl.length ≤ 65536) :
    Calls Try.prog 61 #[.pointer (some ⟨g, 0, none⟩)] w fun e w' => ∃ A c, e = .returned (.slice A pl.length c) ∧ Reads w' w'.heap.size 1 A pl.length (pl.map (.int .i64)) ∧ Below w.heap.size w w' := by
  have G := given_any h h0
  obtain ⟨gp, h1, h2⟩ := h
  have c2 := h1.cell 2
  simp at c2
  have C := clone_int (some ⟨gp, 0, none⟩) pl.length pl w h2.reads hl
  replace C := Lib.hid C
  go_enter Try.func61, Try.ntmps61
  go_wp2_with (go_at_call 101; with_reducible refine G.mono ?_; rintro e w1 ⟨rfl, rfl⟩)
  refine C.out.mono ?_
  rintro e w1 ⟨v, rfl, hown, hb⟩
  obtain ⟨A', c', rfl⟩ := slice_of_own w1 hown
  go_wp2_with fail
  go_ret
  exact ⟨A', c', rfl, Reads.of_own hown, hb⟩

def pickI (ka kb : Int) (pl : List Int) (t : Tup) : Int := pl.getD (scaleI (sipHash ka kb ⟨(tupPut t).toArray⟩) pl.length).toNat 0
theorem hash_scale (ka kb : Int) (x : ByteArray) (n : Nat) (h0 : 0 < n) (h1 : n ≤ 65536) : ∃ h k : Nat, sipHash ka kb x = (h : Int) ∧ h < 18446744073709551616 ∧ scaleI h n = (k : Int) ∧ k < n := by
  obtain ⟨h, hh, hlt⟩ := sip_rng ka kb x
  obtain ⟨k, hk, hkl⟩ := scale_nat h n hlt h0 (by omega)
  exact ⟨h, k, hh, hlt, hk, hkl⟩
set_option maxRecDepth 100000 in
set_option maxHeartbeats 4000000 in
theorem pick_any {w : World} {g : Nat} {ka kb : Int} {pl : List Int} (t : Tup) (h : TabAt w g ka kb pl) (h0 : 0 < pl.length) (hl : pl.length ≤ 65536) :
    Calls Try.prog 91 #[.pointer (some ⟨g, 0, none⟩), t.val] w fun e w' => e = .returned (.tuple #[.int .i64 (pickI ka kb pl t), .bool true]) ∧ Below w.heap.size w w' := by
  have G := given_any (h.alloc (.cells t.cells.toArray 82)) h0
  obtain ⟨x, k, hx, hx1, hk, hkl⟩ := hash_scale ka kb ⟨(tupPut t).toArray⟩ pl.length h0 hl
  have hp : pickI ka kb pl t = pl.getD k 0 := by unfold pickI; rw [hx, hk]; rfl
  rw [hp]
  have S := fun W => hash_any ka kb ⟨(tupPut t).toArray⟩ W (by have := tupPut_len t; simp [ByteArray.size]; omega)
  have T := tuple_put t
  have N := fun W => scale_any x pl.length W hx1
  rw [hx] at S
  rw [hk] at N
  obtain ⟨w0, hw0⟩ : ∃ w0, w0 = w.alloc (.cells t.cells.toArray 82) := ⟨_, rfl⟩
  rw [← hw0] at G
  have hb0 : Below w.heap.size w w0 := hw0 ▸ below_alloc (Below.refl _ _) _
  have B1 : Blk w0 w.heap.size 82 t.cells.toArray := hw0 ▸ Blk.new w _ _
  have hT := h.keep hb0
  clear h
  obtain ⟨gp, h1, h2⟩ := hT
  have p0 := h1.cell 0
  have p1 := h1.cell 1
  have p2 := h1.cell 2
  have d := h2.cell hkl
  generalize pl.getD k 0 = y at *
  have hki : (k : Int) < (pl.length : Int) := by omega
  obtain ⟨tp, v, hi, lo, v', hi', lo', sp, dp⟩ := t
  unfold Tup.val at *
  have c0 := B1.cell 0
  have c1 := B1.cell 1
  have c2 := B1.cell 2
  have c3 := B1.cell 3
  have c4 := B1.cell 4
  have c5 := B1.cell 5
  have c6 := B1.cell 6
  have c7 := B1.cell 7
  have c8 := B1.cell 8
  dsimp only at *
  simp only [List.getElem?_toArray, List.getElem?_cons_zero, List.getElem?_cons_succ] at c0 c1 c2 c3 c4 c5 c6 c7 c8 p0 p1 p2
  generalize (⟨(tupPut _).toArray⟩ : ByteArray) = z at *
  replace S := Lib.hid S
  replace T := Lib.hid T
  replace N := Lib.hid N
  replace G := Lib.hid G
  clear hx hk hp
  go_enter Try.func91, Try.ntmps91
  go_wp2_with fail
  rw [← hw0]
  clear hw0
  refine G.out.mono ?_
  rintro e w1 ⟨rfl, rfl⟩
  go_wp2_with fail
  go_region_held3 (fun w' => Below w0.heap.size w0 w' ∧ w'.cell? ⟨g, 0, none⟩ = some (.int .u64 ka) ∧ w'.cell? ⟨g, 1, none⟩ = some (.int .u64 kb) ∧ w'.cell? ⟨g, 2, none⟩ = some (.slice (some ⟨gp, 0, none⟩) pl.length pl.length) ∧ w'.cell? ⟨gp, k, none⟩ = some (.int .i64 y) ∧ w'.cell? ⟨w.heap.size, 0, none⟩ = some (.int .i64 tp) ∧ w'.cell? ⟨w.heap.size, 1, none⟩ = some (.bool v) ∧ w'.cell? ⟨w.heap.size, 2, none⟩ = some (.int .u64 hi) ∧ w'.cell? ⟨w.heap.size, 3, none⟩ = some (.int .u64 lo) ∧ w'.cell? ⟨w.heap.size, 4, none⟩ = some (.bool v') ∧ w'.cell? ⟨w.heap.size, 5, none⟩ = some (.int .u64 hi') ∧ w'.cell? ⟨w.heap.size, 6, none⟩ = some (.int .u64 lo') ∧ w'.cell? ⟨w.heap.size, 7, none⟩ = some (.int .i64 sp) ∧ w'.cell? ⟨w.heap.size, 8, none⟩ = some (.int .i64 dp)) ((first | assumption | ((refine ⟨?_, ?_⟩; (first | assumption | exact (Below.refl _ _).drew | exact Below.refl _ _); go_keep)))) (first
    | (go_at_call 119; (with_reducible refine (T.out _).mono ?_); rintro e w2 ⟨rfl, hb2⟩; have hS := hold13 (by assumption) hb2)
    | (go_at_call 118; (with_reducible refine (S.out _).mono ?_); rintro e w2 ⟨rfl, hb2⟩; have hS := hold13 (by assumption) hb2)
    | (go_at_call 117; (with_reducible refine (N.out _).mono ?_); rintro e w2 ⟨rfl, hb2⟩; have hS := hold13 (by assumption) hb2))
  all_goals
    go_wp2_with fail
    go_ret2
    exact ⟨rfl, below_chain (by exact hS.1) hb0⟩
end Go.Proofs.Ytkpkjpdhlmjchaa

namespace Go.Proofs.Ytkpkjpdhlmjchaa
open Go Go.RowKit Go.Deep

set_option maxRecDepth 100000 in
set_option maxHeartbeats 4000000 in
theorem refpick_any {w : World} {gp : Nat} (ka kb : Int) {pl : List Int} (t : Tup) (h : PlAt w gp pl.length pl) (h0 : 0 < pl.length) (hl : pl.length ≤ 65536) (x1 : t.hi < 18446744073709551616) (x2 : t.lo < 18446744073709551616) (x3 : t.hi' < 18446744073709551616) (x4 : t.lo' < 18446744073709551616) :
    Calls Try.prog 92 #[.slice (some ⟨gp, 0, none⟩) pl.length pl.length, .agg #[.int .u64 ka, .int .u64 kb], t.val] w fun e w' => e = .returned (.int .i64 (pickI ka kb pl t)) ∧ Below w.heap.size w w' := by
  obtain ⟨x, k, hx, hx1, hk, hkl⟩ := hash_scale ka kb ⟨(tupPut t).toArray⟩ pl.length h0 hl
  have hp : pickI ka kb pl t = pl.getD k 0 := by unfold pickI; rw [hx, hk]; rfl
  rw [hp]
  have S := fun W => refhash_any ka kb ⟨(tupPut t).toArray⟩ W (by have := tupPut_len t; simp [ByteArray.size]; omega)
  have T := fun W => reftuple_put t W x1 x2 x3 x4
  have N := fun W => refscale_any x pl.length W hx1
  rw [hx] at S
  rw [hk] at N
  clear x1 x2 x3 x4
  obtain ⟨w0, hw0⟩ : ∃ w0, w0 = (w.alloc (.cells #[.int .u64 ka, .int .u64 kb] 25)).alloc (.cells t.cells.toArray 82) := ⟨_, rfl⟩
  have hb0 : Below w.heap.size w w0 := hw0 ▸ below_alloc (below_alloc (Below.refl _ _) _) _
  have B0 : Blk w0 w.heap.size 25 #[.int .u64 ka, .int .u64 kb] := hw0 ▸ (Blk.new w _ _).alloc _
  have B1 : Blk w0 (w.heap.size + 1) 82 t.cells.toArray := by
    have := Blk.new (w.alloc (.cells #[.int .u64 ka, .int .u64 kb] 25)) 82 t.cells.toArray
    rw [← hw0] at this
    simpa using this
  have h2 : PlAt w0 gp pl.length pl := h.of_block (hb0.block gp h.lt)
  clear h
  have p0 := B0.cell 0
  have p1 := B0.cell 1
  have d := h2.cell hkl
  generalize pl.getD k 0 = y at *
  have hki : (k : Int) < (pl.length : Int) := by omega
  obtain ⟨tp, v, hi, lo, v', hi', lo', sp, dp⟩ := t
  unfold Tup.val at *
  have c0 := B1.cell 0
  have c1 := B1.cell 1
  have c2 := B1.cell 2
  have c3 := B1.cell 3
  have c4 := B1.cell 4
  have c5 := B1.cell 5
  have c6 := B1.cell 6
  have c7 := B1.cell 7
  have c8 := B1.cell 8
  dsimp only at *
  simp only [List.getElem?_toArray, List.getElem?_cons_zero, List.getElem?_cons_succ] at c0 c1 c2 c3 c4 c5 c6 c7 c8 p0 p1
  generalize (⟨(tupPut _).toArray⟩ : ByteArray) = z at *
  replace S := Lib.hid S
  replace T := Lib.hid T
  replace N := Lib.hid N
  clear hx hk hp
  go_enter Try.func92, Try.ntmps92
  go_wp2_with fail
  rw [← hw0]
  clear hw0
  go_region_held3 (fun w' => Below w0.heap.size w0 w' ∧ w'.cell? ⟨w.heap.size, 0, none⟩ = some (.int .u64 ka) ∧ w'.cell? ⟨w.heap.size, 1, none⟩ = some (.int .u64 kb) ∧ w'.cell? ⟨gp, k, none⟩ = some (.int .i64 y) ∧ w'.cell? ⟨w.heap.size + 1, 0, none⟩ = some (.int .i64 tp) ∧ w'.cell? ⟨w.heap.size + 1, 1, none⟩ = some (.bool v) ∧ w'.cell? ⟨w.heap.size + 1, 2, none⟩ = some (.int .u64 hi) ∧ w'.cell? ⟨w.heap.size + 1, 3, none⟩ = some (.int .u64 lo) ∧ w'.cell? ⟨w.heap.size + 1, 4, none⟩ = some (.bool v') ∧ w'.cell? ⟨w.heap.size + 1, 5, none⟩ = some (.int .u64 hi') ∧ w'.cell? ⟨w.heap.size + 1, 6, none⟩ = some (.int .u64 lo') ∧ w'.cell? ⟨w.heap.size + 1, 7, none⟩ = some (.int .i64 sp) ∧ w'.cell? ⟨w.heap.size + 1, 8, none⟩ = some (.int .i64 dp)) ((first | assumption | ((refine ⟨?_, ?_⟩; (first | assumption | exact (Below.refl _ _).drew | exact Below.refl _ _); go_keep)))) (first
    | (go_at_call 122; (with_reducible refine (T.out _).mono ?_); rintro e w2 ⟨rfl, hb2⟩; have hS := hold12 (by assumption) hb2)
    | (go_at_call 121; (with_reducible refine (S.out _).mono ?_); rintro e w2 ⟨rfl, hb2⟩; have hS := hold12 (by assumption) hb2)
    | (go_at_call 120; (with_reducible refine (N.out _).mono ?_); rintro e w2 ⟨rfl, rfl⟩; have hS := hold12 (by assumption) (Below.refl _ _)))
  all_goals
    go_wp2_with fail
    go_ret
    exact ⟨rfl, below_chain (by exact hS.1) hb0⟩

theorem countP_take {p : Int → Bool} (l : List Int) (k : Nat) (hk : k < l.length) : (l.take (k + 1)).countP p = (l.take k).countP p + if p (l.getD k 0) then 1 else 0 := by
  rw [List.take_succ_eq_append_getElem hk, List.countP_append, List.countP_singleton, List.getD_eq_getElem?_getD, List.getElem?_eq_getElem hk]
  rfl
theorem given_cells {w : World} {g : Nat} {A : Option Addr} {n c : Nat} (h0 : 0 < n) (c2 : w.cell? ⟨g, 2, none⟩ = some (.slice A n c)) :
    Calls Try.prog 101 #[.pointer (some ⟨g, 0, none⟩)] w fun e w' => e = .returned (.bool true) ∧ w = w' := by
  have hi : (0 : Int) < (n : Int) := by omega
  go_enter Try.func101, Try.ntmps101
  go_wp2_with fail
  go_ret
  exact ⟨rfl, rfl⟩
theorem given_left {w : World} {g g2 : Nat} {A B : Option Addr} {n c d : Nat} (h0 : 0 < n) (h : w.cell? ⟨g, 2, none⟩ = some (.slice A n c) ∧ w.cell? ⟨g2, 2, none⟩ = some (.slice B n d)) :
    Calls Try.prog 101 #[.pointer (some ⟨g, 0, none⟩)] w fun e w' => e = .returned (.bool true) ∧ w = w' := given_cells h0 h.1
theorem given_right {w : World} {g g2 : Nat} {A B : Option Addr} {n c d : Nat} (h0 : 0 < n) (h : w.cell? ⟨g, 2, none⟩ = some (.slice A n c) ∧ w.cell? ⟨g2, 2, none⟩ = some (.slice B n d)) :
    Calls Try.prog 101 #[.pointer (some ⟨g2, 0, none⟩)] w fun e w' => e = .returned (.bool true) ∧ w = w' := given_cells h0 h.2
set_option maxRecDepth 100000 in
set_option maxHeartbeats 4000000 in
theorem moved_any {w : World} {g g2 : Nat} {ka kb ka2 kb2 : Int} {p q : List Int} (h : TabAt w g ka kb p) (hq : TabAt w g2 ka2 kb2 q) (h0 : 0 < p.length) (hl : p.length ≤ 65536) (hpq : q.length = p.length) :
    Calls Try.prog 62 #[.pointer (some ⟨g, 0, none⟩), .pointer (some ⟨g2, 0, none⟩)] w fun e w' => e = .returned (.int .i64 ((mvC p q p.length : Nat) : Int)) ∧ Below w.heap.size w w' := by
  obtain ⟨gp, h1, h2⟩ := h
  obtain ⟨gq, h3, h4⟩ := hq
  rw [hpq] at h3 h4
  have c1 := h1.cell 2
  have c2 := h3.cell 2
  simp at c1 c2
  replace hpq := Lib.hid hpq
  go_enter Try.func62, Try.ntmps62
  go_wp2_with fail
  go_region_held3 (fun w' => w'.cell? ⟨g, 2, none⟩ = some (.slice (some ⟨gp, 0, none⟩) p.length p.length) ∧ w'.cell? ⟨g2, 2, none⟩ = some (.slice (some ⟨gq, 0, none⟩) p.length p.length)) (go_keep) (first
    | (go_at_call 101; (with_reducible refine (given_left h0 (by assumption)).mono ?_); rintro e w2 ⟨rfl, rfl⟩)
    | (go_at_call 101; (with_reducible refine (given_right h0 (by assumption)).mono ?_); rintro e w2 ⟨rfl, rfl⟩))
  have hwn : Below w.heap.size w w.drew := (Below.refl _ _).drew
  have h2' : PlAt w.drew gp p.length p := h2
  have h4' : PlAt w.drew gq p.length q := h4
  have c1' : w.drew.cell? ⟨g, 2, none⟩ = some (.slice (some ⟨gp, 0, none⟩) p.length p.length) := c1
  have c2' : w.drew.cell? ⟨g2, 2, none⟩ = some (.slice (some ⟨gq, 0, none⟩) p.length p.length) := c2
  go_wp2_with fail
  clear c1 c2 h1 h3 h2 h4
  generalize w.drew = wd at *
  go_loopw [5, 34] (fun n i wr => ∃ k : Nat, k ≤ p.length ∧ i = .int .i64 (k : Nat) ∧ n = .int .i64 ((mvC p q k : Nat) : Int) ∧ wd = wr) (fun _ i _ => p.length - (intOf i).toNat)
  case atStart => exact ⟨0, by omega, rfl, rfl, rfl⟩
  case round =>
    obtain ⟨k, hk, rfl, rfl, rfl⟩ := hrel
    by_cases hlt : k < p.length
    · have hlti : (k : Int) < (p.length : Int) := by omega
      have d1 := h2'.cell hlt
      have d2 := h4'.cell hlt
      have hst := mvC_succ p q k
      have hle := mvC_le p q k
      obtain ⟨x, hx⟩ : ∃ x, p.getD k 0 = x := ⟨_, rfl⟩
      obtain ⟨y, hy⟩ : ∃ y, q.getD k 0 = y := ⟨_, rfl⟩
      rw [hx] at d1 hst
      rw [hy] at d2 hst
      have hcm : (x != y) = (y != x) := by rw [Bool.eq_iff_iff]; simp only [bne_iff_ne]; exact ⟨fun h e => h e.symm, fun h e => h e.symm⟩
      rw [hcm] at hst
      obtain ⟨o, ho⟩ : ∃ o, (y != x) = o := ⟨_, rfl⟩
      rw [ho] at hst
      generalize mvC p q k = z at *
      replace hst := Lib.hid hst
      replace hx := Lib.hid hx
      replace hy := Lib.hid hy
      clear hcm
      cases o
      · go_wp2_with fail
        go_roundw
        case rel => exact ⟨k + 1, by omega, by go_num, by rw [hst.out]; rfl, (by trivial)⟩
        case measure => simp [intOf]; omega
      · go_wp2_with fail
        go_roundw
        case rel => exact ⟨k + 1, by omega, by go_num, by rw [hst.out]; rfl, (by trivial)⟩
        case measure => simp [intOf]; omega
    · obtain rfl : k = p.length := by omega
      have hlti : ¬ (p.length : Int) < (p.length : Int) := by omega
      go_wp2_with fail
      go_ret
      exact ⟨rfl, hwn⟩
/-- Of tables that nobody made, or that have other sizes, nothing moves: -1. -/
theorem moved_nil (g2 : Nat) (w : World) : Calls Try.prog 62 #[.pointer none, .pointer (some ⟨g2, 0, none⟩)] w fun e w' => e = .returned (.int .i64 (-1)) ∧ Below w.heap.size w w' := by
  go_enter Try.func62, Try.ntmps62
  go_wp2_with fail
  go_quiet ((go_at_call 101; exact Calls.quiet_of_same (still_of (given_nil _))))
  go_wp2_with fail
  go_ret
  exact ⟨rfl, below_drewN (Below.refl _ _) _⟩
theorem moved_right {w : World} {g : Nat} {ka kb : Int} {p : List Int} (h : TabAt w g ka kb p) (h0 : 0 < p.length) : Calls Try.prog 62 #[.pointer (some ⟨g, 0, none⟩), .pointer none] w fun e w' => e = .returned (.int .i64 (-1)) ∧ Below w.heap.size w w' := by
  obtain ⟨gp, h1, h2⟩ := h
  have c1 := h1.cell 2
  simp at c1
  clear h1 h2
  have G := Lib.hid fun n => given_cells (w := w.drewN n) h0 c1
  go_enter Try.func62, Try.ntmps62
  go_wp2_with fail
  go_quiet ((first
    | (go_at_call 101; with_reducible exact Calls.quiet_of_same (still_of (given_nil _)))
    | (go_at_call 101; with_reducible exact Calls.quiet_of_same (still_of (G.out _)))))
  go_wp2_with fail
  go_ret
  exact ⟨rfl, below_drewN (Below.refl _ _) _⟩
end Go.Proofs.Ytkpkjpdhlmjchaa

namespace Go.Proofs.Ytkpkjpdhlmjchaa
open Go Go.RowKit Go.Deep

theorem tableOf_one {ka kb : Int} {m : Nat} (hm : m = 13 ∨ m = 251) {id : Int} (h : id ≠ 0) : tableOf ka kb m [id] = List.replicate m id := by
  have h1 : ∀ i ∈ [id], i ≠ 0 := by simpa using h
  rw [List.eq_replicate_iff]
  refine ⟨tableOf_len hm (by simp) h1, fun x hx => ?_⟩
  have := tableOf_mem hm (by simp) h1 hx
  simpa using this
theorem pickI_mem (ka kb : Int) (pl : List Int) (t : Tup) (h0 : 0 < pl.length) (hl : pl.length ≤ 65536) : pickI ka kb pl t ∈ pl := by
  obtain ⟨x, k, hx, hx1, hk, hkl⟩ := hash_scale ka kb ⟨(tupPut t).toArray⟩ pl.length h0 hl
  unfold pickI
  rw [hx, hk, Int.toNat_natCast, List.getD_eq_getElem?_getD, List.getElem?_eq_getElem hkl]
  exact List.getElem_mem hkl
theorem pickI_one (ka kb : Int) (m : Nat) (id : Int) (t : Tup) (h0 : 0 < m) (hl : m ≤ 65536) : pickI ka kb (List.replicate m id) t = id := by
  have := pickI_mem ka kb (List.replicate m id) t (by simpa using h0) (by simpa using hl)
  exact List.eq_of_mem_replicate this
def tup0 : Tup := ⟨0, false, 0, 0, false, 0, 0, 0, 0⟩
end Go.Proofs.Ytkpkjpdhlmjchaa

namespace Go.Proofs.Ytkpkjpdhlmjchaa
open Go Go.RowKit Go.Deep

theorem bkRight_lt {l : List Bk} (h : bkRight l) : ∀ d i : Nat, (hi : i + d + 1 < l.length) → (l[i]'(by omega)).id < (l[i + d + 1]).id
  | 0, i, hi => by
    have := (h.2 (i + 1) _ (List.getElem?_eq_getElem hi)).2.2.2.2 (by omega) (l[i]'(by omega)) (by rw [show i + 1 - 1 = i by omega]; exact List.getElem?_eq_getElem (by omega))
    exact this
  | d + 1, i, hi => by
    have h1 := bkRight_lt h d i (by omega)
    have h2 := (h.2 (i + (d + 1) + 1) _ (List.getElem?_eq_getElem hi)).2.2.2.2 (by omega) (l[i + d + 1]'(by omega)) (by rw [show i + (d + 1) + 1 - 1 = i + d + 1 by omega]; exact List.getElem?_eq_getElem (by omega))
    omega
theorem bkRight_nodup {l : List Bk} (h : bkRight l) : (l.map Bk.id).Nodup := by
  rw [List.nodup_iff_pairwise_ne, List.pairwise_iff_getElem]
  intro i j hi hj hij
  rw [List.length_map] at hi hj
  obtain ⟨d, rfl⟩ : ∃ d, j = i + d + 1 := ⟨j - i - 1, by omega⟩
  have := bkRight_lt h d i hj
  simp only [List.getElem_map]
  omega
theorem bkRight_ids {l : List Bk} (h : bkRight l) : ∀ b ∈ l, 1 ≤ b.id ∧ b.id ≤ 65535 := by
  intro b hb
  obtain ⟨j, hj, rfl⟩ := List.getElem_of_mem hb
  have := h.2 j _ (List.getElem?_eq_getElem hj)
  exact ⟨this.1, this.2.1⟩
theorem bkRight_ne {l : List Bk} (h : bkRight l) : ∀ i ∈ l.map Bk.id, i ≠ 0 := by
  intro i hi
  obtain ⟨b, hb, rfl⟩ := List.mem_map.1 hi
  have := bkRight_ids h b hb
  omega
theorem even_count {ka kb : Int} {m : Nat} (hm : m = 13 ∨ m = 251) {l : List Bk} (h : bkRight l) {k : Nat} {b : Bk} (hb : l[k]? = some b) : (tableOf ka kb m (l.map Bk.id)).countP (· == b.id) = turnsOf l.length k m := by
  obtain ⟨hk, rfl⟩ := List.getElem?_eq_some_iff.1 hb
  have := tableOf_count (ka := ka) (kb := kb) hm (by rw [List.length_map]; omega) (bkRight_ne h) (bkRight_nodup h) (k := k) (by rw [List.length_map]; exact hk)
  rw [List.length_map] at this
  rw [← this]
  congr 1
  rw [List.getD_eq_getElem?_getD, List.getElem?_map, hb]; rfl
end Go.Proofs.Ytkpkjpdhlmjchaa
