/- policy: the document's chooser: New, Set, Pick by kinds. -/
import Derived.Test.YtkpkjpdhlmjchaaRefSx
import Derived.Test.YtkpkjpdhlmjchaaPolA
namespace Go.Proofs.Ytkpkjpdhlmjchaa
open Go Go.RowKit Go.Deep

set_option maxRecDepth 100000 in
set_option maxHeartbeats 8000000 in
theorem refpolnew_ok (k s ka kb : Int) (w : World) (hp : polOk k s = true) :
    Calls Try.prog 44 #[.agg #[.int .i64 k, .int .i64 s], .agg #[.int .u64 ka, .int .u64 kb]] w fun e w' => ∃ gr, e = .returned (.pointer (some ⟨gr, 0, none⟩)) ∧ w.heap.size ≤ gr ∧ RChBlk w' gr k s ka kb false 0 (.slice none 0 0) (.slice none 0 0) false 0 (.slice none 0 0) ∧ Below w.heap.size w w' := by
  obtain ⟨w0, hw0⟩ : ∃ w0, w0 = (w.alloc (.cells #[.int .i64 k, .int .i64 s] 80)).alloc (.cells #[.int .u64 ka, .int .u64 kb] 25) := ⟨_, rfl⟩
  have hb0 : Below w.heap.size w w0 := hw0 ▸ below_alloc (below_alloc (Below.refl _ _) _) _
  have P0 : Blk w0 w.heap.size 80 #[.int .i64 k, .int .i64 s] := hw0 ▸ (Blk.new w _ _).alloc _
  have K0 : Blk w0 (w.heap.size + 1) 25 #[.int .u64 ka, .int .u64 kb] := by
    have := Blk.new (w.alloc (.cells #[.int .i64 k, .int .i64 s] 80)) 25 #[.int .u64 ka, .int .u64 kb]
    rw [← hw0] at this
    simpa using this
  have p0 := P0.cell 0
  have p1 := P0.cell 1
  simp only [List.getElem?_toArray, List.getElem?_cons_zero, List.getElem?_cons_succ] at p0 p1
  have R := refpolright_any k s w0
  rw [hp] at R
  replace R := Lib.hid R
  go_enter Try.func44, Try.ntmps44
  go_wp2_with fail
  rw [← hw0]
  clear hw0
  refine R.out.mono ?_
  rintro e w1 ⟨rfl, hb1⟩
  have hb2 := below_chain hb1 hb0
  have P1 := P0.call hb1
  have K1 := K0.call hb1
  clear p0 p1 P0 K0 hb0 hb1 R
  have p0 := P1.cell 0
  have p1 := P1.cell 1
  have k0 := K1.cell 0
  have k1 := K1.cell 1
  simp only [List.getElem?_toArray, List.getElem?_cons_zero, List.getElem?_cons_succ] at p0 p1 k0 k1
  go_wp2_with fail
  go_ret
  exact ⟨w1.heap.size, rfl, hb2.size, Blk.new w1 _ _, below_alloc hb2 _⟩
set_option maxRecDepth 100000 in
set_option maxHeartbeats 8000000 in
theorem refpolnew_bad (k s ka kb : Int) (w : World) (hp : polOk k s = false) :
    Calls Try.prog 44 #[.agg #[.int .i64 k, .int .i64 s], .agg #[.int .u64 ka, .int .u64 kb]] w fun e w' => e = .returned (.pointer none) ∧ Below w.heap.size w w' := by
  obtain ⟨w0, hw0⟩ : ∃ w0, w0 = (w.alloc (.cells #[.int .i64 k, .int .i64 s] 80)).alloc (.cells #[.int .u64 ka, .int .u64 kb] 25) := ⟨_, rfl⟩
  have hb0 : Below w.heap.size w w0 := hw0 ▸ below_alloc (below_alloc (Below.refl _ _) _) _
  have P0 : Blk w0 w.heap.size 80 #[.int .i64 k, .int .i64 s] := hw0 ▸ (Blk.new w _ _).alloc _
  have K0 : Blk w0 (w.heap.size + 1) 25 #[.int .u64 ka, .int .u64 kb] := by
    have := Blk.new (w.alloc (.cells #[.int .i64 k, .int .i64 s] 80)) 25 #[.int .u64 ka, .int .u64 kb]
    rw [← hw0] at this
    simpa using this
  have p0 := P0.cell 0
  have p1 := P0.cell 1
  simp only [List.getElem?_toArray, List.getElem?_cons_zero, List.getElem?_cons_succ] at p0 p1
  have R := refpolright_any k s w0
  rw [hp] at R
  replace R := Lib.hid R
  go_enter Try.func44, Try.ntmps44
  go_wp2_with fail
  rw [← hw0]
  clear hw0
  refine R.out.mono ?_
  rintro e w1 ⟨rfl, hb1⟩
  have hb2 := below_chain hb1 hb0
  clear p0 p1 P0 K0 hb0 hb1 R
  go_wp2_with fail
  go_ret
  exact ⟨rfl, hb2⟩
set_option maxRecDepth 100000 in
set_option maxHeartbeats 8000000 in
theorem refpolset_ok {g : Nat} {k s ka kb : Int} {so : Bool} {v0 : Int} {L N : Value} {ho : Bool} {hv : Int} {Pv : Value} (k2 s2 : Int) (w : World) (h : RChBlk w g k s ka kb so v0 L N ho hv Pv) (hp : polOk k2 s2 = true) :
    Calls Try.prog 48 #[.pointer (some ⟨g, 0, none⟩), .agg #[.int .i64 k2, .int .i64 s2]] w fun e w' => e = .returned (.int .i64 0) ∧ RChBlk w' g k2 s2 ka kb false 0 (.slice none 0 0) (.slice none 0 0) false 0 (.slice none 0 0) ∧ Chg (· = g) w w' := by
  obtain ⟨w0, hw0⟩ : ∃ w0, w0 = w.alloc (.cells #[.int .i64 k2, .int .i64 s2] 80) := ⟨_, rfl⟩
  have hb0 : Below w.heap.size w w0 := hw0 ▸ below_alloc (Below.refl _ _) _
  have P0 : Blk w0 w.heap.size 80 #[.int .i64 k2, .int .i64 s2] := hw0 ▸ Blk.new w _ _
  have p0 := P0.cell 0
  have p1 := P0.cell 1
  simp only [List.getElem?_toArray, List.getElem?_cons_zero, List.getElem?_cons_succ] at p0 p1
  have R := refpolright_any k2 s2 w0
  rw [hp] at R
  replace R := Lib.hid R
  go_enter Try.func48, Try.ntmps48
  go_wp2_with fail
  rw [← hw0]
  clear hw0
  refine R.out.mono ?_
  rintro e w1 ⟨rfl, hb1⟩
  have hb2 := below_chain hb1 hb0
  have P1 := P0.call hb1
  have C1 := Blk.call (h.call hb0) hb1
  clear p0 p1
  have p0 := P1.cell 0
  have p1 := P1.cell 1
  have c0 := C1.cell 0
  have f0 := C1.frozen 0
  have c1 := C1.cell 1
  have f1 := C1.frozen 1
  have c4 := C1.cell 4
  have f4 := C1.frozen 4
  have c5 := C1.cell 5
  have f5 := C1.frozen 5
  have c6 := C1.cell 6
  have f6 := C1.frozen 6
  have c7 := C1.cell 7
  have f7 := C1.frozen 7
  have c8 := C1.cell 8
  have f8 := C1.frozen 8
  have c9 := C1.cell 9
  have f9 := C1.frozen 9
  have c10 := C1.cell 10
  have f10 := C1.frozen 10
  simp only [List.getElem?_toArray, List.getElem?_cons_zero, List.getElem?_cons_succ] at p0 p1 c0 c1 c4 c5 c6 c7 c8 c9 c10
  have CF := (Blk.set_ (Blk.set_ (Blk.set_ (Blk.set_ (Blk.set_ (Blk.set_ (Blk.set_ (Blk.set_ (Blk.set_ (Blk.call (h.call hb0) hb1) 0 (.int .i64 k2)) 1 (.int .i64 s2)) 4 (.bool false)) 5 (.int .i64 0)) 6 (.slice none 0 0)) 7 (.slice none 0 0)) 8 (.bool false)) 9 (.int .i64 0)) 10 (.slice none 0 0))
  have hc := ((((((((((Chg.of_below (F := (· = g)) hb2).setCell (p := ⟨g, 0, none⟩) (fun _ => rfl) (.int .i64 k2)).setCell (p := ⟨g, 1, none⟩) (fun _ => rfl) (.int .i64 s2)).setCell (p := ⟨g, 4, none⟩) (fun _ => rfl) (.bool false)).setCell (p := ⟨g, 5, none⟩) (fun _ => rfl) (.int .i64 0)).setCell (p := ⟨g, 6, none⟩) (fun _ => rfl) (.slice none 0 0)).setCell (p := ⟨g, 7, none⟩) (fun _ => rfl) (.slice none 0 0)).setCell (p := ⟨g, 8, none⟩) (fun _ => rfl) (.bool false)).setCell (p := ⟨g, 9, none⟩) (fun _ => rfl) (.int .i64 0)).setCell (p := ⟨g, 10, none⟩) (fun _ => rfl) (.slice none 0 0))
  replace CF := Lib.hid CF
  replace hc := Lib.hid hc
  clear C1 P1 P0 h R hb0 hb1 hb2
  go_wp2_with fail
  go_ret
  exact ⟨rfl, by simpa using CF.out, hc.out⟩
set_option maxRecDepth 100000 in
set_option maxHeartbeats 8000000 in
theorem refpolset_bad (pc : Value) (k2 s2 : Int) (w : World) (hp : polOk k2 s2 = false) :
    Calls Try.prog 48 #[pc, .agg #[.int .i64 k2, .int .i64 s2]] w fun e w' => e = .returned (.int .i64 1) ∧ Below w.heap.size w w' := by
  obtain ⟨w0, hw0⟩ : ∃ w0, w0 = w.alloc (.cells #[.int .i64 k2, .int .i64 s2] 80) := ⟨_, rfl⟩
  have hb0 : Below w.heap.size w w0 := hw0 ▸ below_alloc (Below.refl _ _) _
  have P0 : Blk w0 w.heap.size 80 #[.int .i64 k2, .int .i64 s2] := hw0 ▸ Blk.new w _ _
  have p0 := P0.cell 0
  have p1 := P0.cell 1
  simp only [List.getElem?_toArray, List.getElem?_cons_zero, List.getElem?_cons_succ] at p0 p1
  have R := refpolright_any k2 s2 w0
  rw [hp] at R
  replace R := Lib.hid R
  go_enter Try.func48, Try.ntmps48
  go_wp2_with fail
  rw [← hw0]
  clear hw0
  refine R.out.mono ?_
  rintro e w1 ⟨rfl, hb1⟩
  have hb2 := below_chain hb1 hb0
  clear p0 p1 P0 hb0 hb1 R
  go_wp2_with fail
  go_ret
  exact ⟨rfl, hb2⟩
set_option maxRecDepth 100000 in
set_option maxHeartbeats 8000000 in
theorem refpolpick_rr {g : Nat} {s ka kb : Int} {so : Bool} {v0 : Int} {L N : Value} {ho : Bool} {hv : Int} {Pv : Value} {w : World} (Q : World → World → Prop) (v1 : Int) (A : Option Addr) (n c : Nat) (t : Tup) (lv : Value) (x y r : Int) (h : RChBlk w g 1 s ka kb so v0 L N ho hv Pv) (h0 : n ≠ 0)
    (P : ∀ W, Below w.heap.size w W → Calls Try.prog 93 #[.pointer (some ⟨g, 4, none⟩), .int .i64 v1, .slice A n c] W fun e w' => (∃ o, e = .returned (.tuple #[.int .i64 r, .bool o])) ∧ Q W w') :
    Calls Try.prog 49 #[.pointer (some ⟨g, 0, none⟩), .int .i64 v1, .slice A n c, lv, t.val, .int .u64 x, .int .u64 y] w fun e w' => e = .returned (.tuple #[.int .i64 r, .int .i64 0]) ∧ ∃ W, Below w.heap.size w W ∧ Q W w' := by
  obtain ⟨w0, hw0⟩ : ∃ w0, w0 = w.alloc (.cells t.cells.toArray 82) := ⟨_, rfl⟩
  have hb0 : Below w.heap.size w w0 := hw0 ▸ below_alloc (Below.refl _ _) _
  have P0 : Blk w0 w.heap.size 82 t.cells.toArray := hw0 ▸ Blk.new w _ _
  have C0 : RChBlk w0 g 1 s ka kb so v0 L N ho hv Pv := h.call hb0
  have c0 := C0.cell 0
  have e0 : ((n : Int) == 0) = false := by rw [beq_eq_false_iff_ne]; omega
  obtain ⟨t1, t2, t3, t4, t5, t6, t7, t8, t9⟩ := t
  unfold Tup.val at *
  dsimp only at *
  have p0 := P0.cell 0
  have p1 := P0.cell 1
  have p2 := P0.cell 2
  have p3 := P0.cell 3
  have p4 := P0.cell 4
  have p5 := P0.cell 5
  have p6 := P0.cell 6
  have p7 := P0.cell 7
  have p8 := P0.cell 8
  simp only [List.getElem?_toArray, List.getElem?_cons_zero, List.getElem?_cons_succ] at c0 p0 p1 p2 p3 p4 p5 p6 p7 p8
  rw [hw0] at c0 p0 p1 p2 p3 p4 p5 p6 p7 p8
  replace P := Lib.hid P
  replace h0 := Lib.hid h0
  clear h C0 P0
  go_enter Try.func49, Try.ntmps49
  go_wp2_with fail
  rw [← hw0]
  clear c0 p0 p1 p2 p3 p4 p5 p6 p7 p8 hw0
  refine (P.out _ hb0).mono ?_
  rintro e w3 ⟨⟨o, rfl⟩, hq⟩
  go_wp2_with fail
  go_ret2
  exact ⟨rfl, _, hb0, hq⟩
set_option maxRecDepth 100000 in
set_option maxHeartbeats 8000000 in
theorem refpolpick_ll {g : Nat} {s ka kb : Int} {so : Bool} {v0 : Int} {L N : Value} {ho : Bool} {hv : Int} {Pv : Value} {w : World} (Q : World → World → Prop) (v1 : Int) (A : Option Addr) (n c : Nat) (t : Tup) (lv : Value) (x y r : Int) (h : RChBlk w g 2 s ka kb so v0 L N ho hv Pv) (h0 : n ≠ 0)
    (P : ∀ W, Below w.heap.size w W → Calls Try.prog 23 #[.slice A n c, lv] W fun e w' => (∃ o, e = .returned (.tuple #[.int .i64 r, .bool o])) ∧ Q W w') :
    Calls Try.prog 49 #[.pointer (some ⟨g, 0, none⟩), .int .i64 v1, .slice A n c, lv, t.val, .int .u64 x, .int .u64 y] w fun e w' => e = .returned (.tuple #[.int .i64 r, .int .i64 0]) ∧ ∃ W, Below w.heap.size w W ∧ Q W w' := by
  obtain ⟨w0, hw0⟩ : ∃ w0, w0 = w.alloc (.cells t.cells.toArray 82) := ⟨_, rfl⟩
  have hb0 : Below w.heap.size w w0 := hw0 ▸ below_alloc (Below.refl _ _) _
  have P0 : Blk w0 w.heap.size 82 t.cells.toArray := hw0 ▸ Blk.new w _ _
  have C0 : RChBlk w0 g 2 s ka kb so v0 L N ho hv Pv := h.call hb0
  have c0 := C0.cell 0
  have e0 : ((n : Int) == 0) = false := by rw [beq_eq_false_iff_ne]; omega
  obtain ⟨t1, t2, t3, t4, t5, t6, t7, t8, t9⟩ := t
  unfold Tup.val at *
  dsimp only at *
  have p0 := P0.cell 0
  have p1 := P0.cell 1
  have p2 := P0.cell 2
  have p3 := P0.cell 3
  have p4 := P0.cell 4
  have p5 := P0.cell 5
  have p6 := P0.cell 6
  have p7 := P0.cell 7
  have p8 := P0.cell 8
  simp only [List.getElem?_toArray, List.getElem?_cons_zero, List.getElem?_cons_succ] at c0 p0 p1 p2 p3 p4 p5 p6 p7 p8
  rw [hw0] at c0 p0 p1 p2 p3 p4 p5 p6 p7 p8
  replace P := Lib.hid P
  replace h0 := Lib.hid h0
  clear h C0 P0
  go_enter Try.func49, Try.ntmps49
  go_wp2_with fail
  rw [← hw0]
  clear c0 p0 p1 p2 p3 p4 p5 p6 p7 p8 hw0
  refine (P.out _ hb0).mono ?_
  rintro e w3 ⟨⟨o, rfl⟩, hq⟩
  go_wp2_with fail
  go_ret2
  exact ⟨rfl, _, hb0, hq⟩
set_option maxRecDepth 100000 in
set_option maxHeartbeats 8000000 in
theorem refpolpick_tc {g : Nat} {s ka kb : Int} {so : Bool} {v0 : Int} {L N : Value} {ho : Bool} {hv : Int} {Pv : Value} {w : World} (Q : World → World → Prop) (v1 : Int) (A : Option Addr) (n c : Nat) (t : Tup) (lv : Value) (x y r : Int) (h : RChBlk w g 3 s ka kb so v0 L N ho hv Pv) (h0 : n ≠ 0)
    (P : ∀ W, Below w.heap.size w W → Calls Try.prog 94 #[.slice A n c, lv, .int .u64 x, .int .u64 y] W fun e w' => (∃ o, e = .returned (.tuple #[.int .i64 r, .bool o])) ∧ Q W w') :
    Calls Try.prog 49 #[.pointer (some ⟨g, 0, none⟩), .int .i64 v1, .slice A n c, lv, t.val, .int .u64 x, .int .u64 y] w fun e w' => e = .returned (.tuple #[.int .i64 r, .int .i64 0]) ∧ ∃ W, Below w.heap.size w W ∧ Q W w' := by
  obtain ⟨w0, hw0⟩ : ∃ w0, w0 = w.alloc (.cells t.cells.toArray 82) := ⟨_, rfl⟩
  have hb0 : Below w.heap.size w w0 := hw0 ▸ below_alloc (Below.refl _ _) _
  have P0 : Blk w0 w.heap.size 82 t.cells.toArray := hw0 ▸ Blk.new w _ _
  have C0 : RChBlk w0 g 3 s ka kb so v0 L N ho hv Pv := h.call hb0
  have c0 := C0.cell 0
  have e0 : ((n : Int) == 0) = false := by rw [beq_eq_false_iff_ne]; omega
  obtain ⟨t1, t2, t3, t4, t5, t6, t7, t8, t9⟩ := t
  unfold Tup.val at *
  dsimp only at *
  have p0 := P0.cell 0
  have p1 := P0.cell 1
  have p2 := P0.cell 2
  have p3 := P0.cell 3
  have p4 := P0.cell 4
  have p5 := P0.cell 5
  have p6 := P0.cell 6
  have p7 := P0.cell 7
  have p8 := P0.cell 8
  simp only [List.getElem?_toArray, List.getElem?_cons_zero, List.getElem?_cons_succ] at c0 p0 p1 p2 p3 p4 p5 p6 p7 p8
  rw [hw0] at c0 p0 p1 p2 p3 p4 p5 p6 p7 p8
  replace P := Lib.hid P
  replace h0 := Lib.hid h0
  clear h C0 P0
  go_enter Try.func49, Try.ntmps49
  go_wp2_with fail
  rw [← hw0]
  clear c0 p0 p1 p2 p3 p4 p5 p6 p7 p8 hw0
  refine (P.out _ hb0).mono ?_
  rintro e w3 ⟨⟨o, rfl⟩, hq⟩
  go_wp2_with fail
  go_ret2
  exact ⟨rfl, _, hb0, hq⟩
set_option maxRecDepth 100000 in
set_option maxHeartbeats 8000000 in
theorem refpolpick_ha {g : Nat} {s ka kb : Int} {so : Bool} {v0 : Int} {L N : Value} {ho : Bool} {hv : Int} {Pv : Value} {w : World} (Q : World → World → Prop) (v1 : Int) (A : Option Addr) (n c : Nat) (t : Tup) (lv : Value) (x y r : Int) (er : Int) (h : RChBlk w g 4 s ka kb so v0 L N ho hv Pv) (h0 : n ≠ 0)
    (P : ∀ W, Below w.heap.size w W → Calls Try.prog 46 #[.pointer (some ⟨g, 0, none⟩), .int .i64 v1, .slice A n c, t.val] W fun e w' => e = .returned (.tuple #[.int .i64 r, .int .i64 er]) ∧ Q W w') :
    Calls Try.prog 49 #[.pointer (some ⟨g, 0, none⟩), .int .i64 v1, .slice A n c, lv, t.val, .int .u64 x, .int .u64 y] w fun e w' => e = .returned (.tuple #[.int .i64 r, .int .i64 er]) ∧ ∃ W, Below w.heap.size w W ∧ Q W w' := by
  obtain ⟨w0, hw0⟩ : ∃ w0, w0 = w.alloc (.cells t.cells.toArray 82) := ⟨_, rfl⟩
  have hb0 : Below w.heap.size w w0 := hw0 ▸ below_alloc (Below.refl _ _) _
  have P0 : Blk w0 w.heap.size 82 t.cells.toArray := hw0 ▸ Blk.new w _ _
  have C0 : RChBlk w0 g 4 s ka kb so v0 L N ho hv Pv := h.call hb0
  have c0 := C0.cell 0
  have e0 : ((n : Int) == 0) = false := by rw [beq_eq_false_iff_ne]; omega
  obtain ⟨t1, t2, t3, t4, t5, t6, t7, t8, t9⟩ := t
  unfold Tup.val at *
  dsimp only at *
  have p0 := P0.cell 0
  have p1 := P0.cell 1
  have p2 := P0.cell 2
  have p3 := P0.cell 3
  have p4 := P0.cell 4
  have p5 := P0.cell 5
  have p6 := P0.cell 6
  have p7 := P0.cell 7
  have p8 := P0.cell 8
  simp only [List.getElem?_toArray, List.getElem?_cons_zero, List.getElem?_cons_succ] at c0 p0 p1 p2 p3 p4 p5 p6 p7 p8
  rw [hw0] at c0 p0 p1 p2 p3 p4 p5 p6 p7 p8
  replace P := Lib.hid P
  replace h0 := Lib.hid h0
  clear h C0 P0
  go_enter Try.func49, Try.ntmps49
  go_wp2_with fail
  rw [← hw0]
  clear c0 p0 p1 p2 p3 p4 p5 p6 p7 p8 hw0
  refine (P.out _ hb0).mono ?_
  rintro e w3 ⟨rfl, hq⟩
  go_wp2_with fail
  go_ret2
  exact ⟨rfl, _, hb0, hq⟩
end Go.Proofs.Ytkpkjpdhlmjchaa
