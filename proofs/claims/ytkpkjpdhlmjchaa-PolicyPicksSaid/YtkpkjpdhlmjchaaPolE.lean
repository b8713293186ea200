/- policy: Pick by kinds; Hash and Pick that tell an error. -/
import Derived.Test.YtkpkjpdhlmjchaaPolD
namespace Go.Proofs.Ytkpkjpdhlmjchaa
open Go Go.RowKit Go.Deep

set_option maxRecDepth 100000 in
set_option maxHeartbeats 8000000 in
theorem polhash_err {w : World} (pc : Value) (v1 : Int) (A : Option Addr) (n c : Nat) (t : Tup) (er : Int) (her : er ≠ 0)
    (R : ∀ W, Below w.heap.size w W → Calls Try.prog 88 #[pc, .agg #[.int .i64 v1, .slice A n c]] W fun e w' => e = .returned (.int .i64 er) ∧ Below W.heap.size W w') :
    Calls Try.prog 42 #[pc, .agg #[.int .i64 v1, .slice A n c], t.val] w fun e w' => e = .returned (.tuple #[.int .i64 0, .int .i64 er]) ∧ Below w.heap.size w w' := by
  obtain ⟨w0, hw0⟩ : ∃ w0, w0 = (w.alloc (.cells #[.int .i64 v1, .slice A n c] 36)).alloc (.cells t.cells.toArray 82) := ⟨_, rfl⟩
  have hb0 : Below w.heap.size w w0 := hw0 ▸ below_alloc (below_alloc (Below.refl _ _) _) _
  have S0 : Blk w0 w.heap.size 36 #[.int .i64 v1, .slice A n c] := hw0 ▸ (Blk.new w _ _).alloc _
  have P0 : Blk w0 (w.heap.size + 1) 82 t.cells.toArray := by
    have := Blk.new (w.alloc (.cells #[.int .i64 v1, .slice A n c] 36)) 82 t.cells.toArray
    rw [← hw0] at this
    simpa using this
  have R0 := R w0 hb0
  have hE : (er != 0) = true := by simpa using her
  have s0 := S0.cell 0
  have s1 := S0.cell 1
  simp only [List.getElem?_toArray, List.getElem?_cons_zero, List.getElem?_cons_succ] at s0 s1
  obtain ⟨t1, t2, t3, t4, t5, t6, t7, t8, t9⟩ := t
  unfold Tup.val at *
  dsimp only at *
  replace R0 := Lib.hid R0
  clear R her
  go_enter Try.func42, Try.ntmps42
  go_wp2_with fail
  rw [← hw0]
  clear hw0
  refine R0.out.mono ?_
  rintro e w1 ⟨rfl, hb1⟩
  have hb2 := below_chain hb1 hb0
  clear S0 P0 hb1 hb0 R0 s0 s1
  go_wp2_with fail
  go_ret2
  exact ⟨rfl, hb2⟩
set_option maxRecDepth 100000 in
set_option maxHeartbeats 8000000 in
theorem polpick_err {w : World} (pc : Value) (v1 : Int) (A : Option Addr) (n c : Nat) (t : Tup) (lv : Value) (x y : Int) (er : Int) (her : er ≠ 0)
    (R : ∀ W, Below w.heap.size w W → Calls Try.prog 88 #[pc, .agg #[.int .i64 v1, .slice A n c]] W fun e w' => e = .returned (.int .i64 er) ∧ Below W.heap.size W w') :
    Calls Try.prog 41 #[pc, .agg #[.int .i64 v1, .slice A n c], lv, t.val, .int .u64 x, .int .u64 y] w fun e w' => e = .returned (.tuple #[.int .i64 0, .int .i64 er]) ∧ Below w.heap.size w w' := by
  obtain ⟨w0, hw0⟩ : ∃ w0, w0 = (w.alloc (.cells #[.int .i64 v1, .slice A n c] 36)).alloc (.cells t.cells.toArray 82) := ⟨_, rfl⟩
  have hb0 : Below w.heap.size w w0 := hw0 ▸ below_alloc (below_alloc (Below.refl _ _) _) _
  have S0 : Blk w0 w.heap.size 36 #[.int .i64 v1, .slice A n c] := hw0 ▸ (Blk.new w _ _).alloc _
  have P0 : Blk w0 (w.heap.size + 1) 82 t.cells.toArray := by
    have := Blk.new (w.alloc (.cells #[.int .i64 v1, .slice A n c] 36)) 82 t.cells.toArray
    rw [← hw0] at this
    simpa using this
  have R0 := R w0 hb0
  have hE : (er != 0) = true := by simpa using her
  have s0 := S0.cell 0
  have s1 := S0.cell 1
  simp only [List.getElem?_toArray, List.getElem?_cons_zero, List.getElem?_cons_succ] at s0 s1
  obtain ⟨t1, t2, t3, t4, t5, t6, t7, t8, t9⟩ := t
  unfold Tup.val at *
  dsimp only at *
  replace R0 := Lib.hid R0
  clear R her
  go_enter Try.func41, Try.ntmps41
  go_wp2_with fail
  rw [← hw0]
  clear hw0
  refine R0.out.mono ?_
  rintro e w1 ⟨rfl, hb1⟩
  have hb2 := below_chain hb1 hb0
  clear S0 P0 hb1 hb0 R0 s0 s1
  go_wp2_with fail
  go_ret2
  exact ⟨rfl, hb2⟩
set_option maxRecDepth 100000 in
set_option maxHeartbeats 8000000 in
theorem polpick_rr {g gt : Nat} {size ka kb : Int} {tp : Value} {so : Bool} {ver : Int} {w : World} (Q : World → World → Prop) (v1 : Int) (A : Option Addr) (n c : Nat) (t : Tup) (lv : Value) (x y r : Int) (h : ChBlk w g 1 size ka kb (.pointer (some ⟨gt, 0, none⟩)) tp so ver) (h0 : n ≠ 0)
    (P : ∀ W, Below w.heap.size w W → Calls Try.prog 89 #[.pointer (some ⟨gt, 0, none⟩), .agg #[.int .i64 v1, .slice A n c]] W fun e w' => (∃ o, e = .returned (.tuple #[.int .i64 r, .bool o])) ∧ Q W w') :
    Calls Try.prog 41 #[.pointer (some ⟨g, 0, none⟩), .agg #[.int .i64 v1, .slice A n c], lv, t.val, .int .u64 x, .int .u64 y] w fun e w' => e = .returned (.tuple #[.int .i64 r, .int .i64 0]) ∧ ∃ W, Below w.heap.size w W ∧ Q W w' := by
  obtain ⟨w0, hw0⟩ : ∃ w0, w0 = (w.alloc (.cells #[.int .i64 v1, .slice A n c] 36)).alloc (.cells t.cells.toArray 82) := ⟨_, rfl⟩
  have hb0 : Below w.heap.size w w0 := hw0 ▸ below_alloc (below_alloc (Below.refl _ _) _) _
  have S0 : Blk w0 w.heap.size 36 #[.int .i64 v1, .slice A n c] := hw0 ▸ (Blk.new w _ _).alloc _
  have P0 : Blk w0 (w.heap.size + 1) 82 t.cells.toArray := by
    have := Blk.new (w.alloc (.cells #[.int .i64 v1, .slice A n c] 36)) 82 t.cells.toArray
    rw [← hw0] at this
    simpa using this
  have C0 : ChBlk w0 g 1 size ka kb (.pointer (some ⟨gt, 0, none⟩)) tp so ver := h.call hb0
  have R := ready_any v1 A n c C0
  rw [if_neg h0] at R
  have s0 := S0.cell 0
  have s1 := S0.cell 1
  simp only [List.getElem?_toArray, List.getElem?_cons_zero, List.getElem?_cons_succ] at s0 s1
  obtain ⟨t1, t2, t3, t4, t5, t6, t7, t8, t9⟩ := t
  unfold Tup.val at *
  dsimp only at *
  replace R := Lib.hid R
  replace P := Lib.hid P
  clear h
  go_enter Try.func41, Try.ntmps41
  go_wp2_with fail
  rw [← hw0]
  clear hw0
  refine R.out.mono ?_
  rintro e w1 ⟨rfl, hb1⟩
  have C1 := Blk.call C0 hb1
  have S1 := S0.call hb1
  have P1 := P0.call hb1
  have hb2 := below_chain hb1 hb0
  clear C0 S0 P0 hb1 hb0 R s0 s1
  have c0 := C1.cell 0
  have c4 := C1.cell 4
  have s0 := S1.cell 0
  have s1 := S1.cell 1
  have p0 := P1.cell 0
  have p1 := P1.cell 1
  have p2 := P1.cell 2
  have p3 := P1.cell 3
  have p4 := P1.cell 4
  have p5 := P1.cell 5
  have p6 := P1.cell 6
  have p7 := P1.cell 7
  have p8 := P1.cell 8
  simp only [List.getElem?_toArray, List.getElem?_cons_zero, List.getElem?_cons_succ] at s0 s1 c0 c4 p0 p1 p2 p3 p4 p5 p6 p7 p8
  go_wp2_with fail
  go_region_with (go_at_call 89; (with_reducible refine (P.out _ hb2.drew).mono ?_); rintro e w3 ⟨⟨o, rfl⟩, hq⟩)
  all_goals
    go_wp2_with fail
    go_ret2
    exact ⟨rfl, _, hb2.drew, hq⟩
set_option maxRecDepth 100000 in
set_option maxHeartbeats 8000000 in
theorem polpick_ll {g gt : Nat} {size ka kb : Int} {tp : Value} {so : Bool} {ver : Int} {w : World} (Q : World → World → Prop) (v1 : Int) (A : Option Addr) (n c : Nat) (t : Tup) (lv : Value) (x y r : Int) (h : ChBlk w g 2 size ka kb (.pointer (some ⟨gt, 0, none⟩)) tp so ver) (h0 : n ≠ 0)
    (P : ∀ W, Below w.heap.size w W → Calls Try.prog 22 #[.agg #[.int .i64 v1, .slice A n c], lv] W fun e w' => (∃ o, e = .returned (.tuple #[.int .i64 r, .bool o])) ∧ Q W w') :
    Calls Try.prog 41 #[.pointer (some ⟨g, 0, none⟩), .agg #[.int .i64 v1, .slice A n c], lv, t.val, .int .u64 x, .int .u64 y] w fun e w' => e = .returned (.tuple #[.int .i64 r, .int .i64 0]) ∧ ∃ W, Below w.heap.size w W ∧ Q W w' := by
  obtain ⟨w0, hw0⟩ : ∃ w0, w0 = (w.alloc (.cells #[.int .i64 v1, .slice A n c] 36)).alloc (.cells t.cells.toArray 82) := ⟨_, rfl⟩
  have hb0 : Below w.heap.size w w0 := hw0 ▸ below_alloc (below_alloc (Below.refl _ _) _) _
  have S0 : Blk w0 w.heap.size 36 #[.int .i64 v1, .slice A n c] := hw0 ▸ (Blk.new w _ _).alloc _
  have P0 : Blk w0 (w.heap.size + 1) 82 t.cells.toArray := by
    have := Blk.new (w.alloc (.cells #[.int .i64 v1, .slice A n c] 36)) 82 t.cells.toArray
    rw [← hw0] at this
    simpa using this
  have C0 : ChBlk w0 g 2 size ka kb (.pointer (some ⟨gt, 0, none⟩)) tp so ver := h.call hb0
  have R := ready_any v1 A n c C0
  rw [if_neg h0] at R
  have s0 := S0.cell 0
  have s1 := S0.cell 1
  simp only [List.getElem?_toArray, List.getElem?_cons_zero, List.getElem?_cons_succ] at s0 s1
  obtain ⟨t1, t2, t3, t4, t5, t6, t7, t8, t9⟩ := t
  unfold Tup.val at *
  dsimp only at *
  replace R := Lib.hid R
  replace P := Lib.hid P
  clear h
  go_enter Try.func41, Try.ntmps41
  go_wp2_with fail
  rw [← hw0]
  clear hw0
  refine R.out.mono ?_
  rintro e w1 ⟨rfl, hb1⟩
  have C1 := Blk.call C0 hb1
  have S1 := S0.call hb1
  have P1 := P0.call hb1
  have hb2 := below_chain hb1 hb0
  clear C0 S0 P0 hb1 hb0 R s0 s1
  have c0 := C1.cell 0
  have c4 := C1.cell 4
  have s0 := S1.cell 0
  have s1 := S1.cell 1
  have p0 := P1.cell 0
  have p1 := P1.cell 1
  have p2 := P1.cell 2
  have p3 := P1.cell 3
  have p4 := P1.cell 4
  have p5 := P1.cell 5
  have p6 := P1.cell 6
  have p7 := P1.cell 7
  have p8 := P1.cell 8
  simp only [List.getElem?_toArray, List.getElem?_cons_zero, List.getElem?_cons_succ] at s0 s1 c0 c4 p0 p1 p2 p3 p4 p5 p6 p7 p8
  go_wp2_with fail
  refine (P.out _ hb2).mono ?_
  rintro e w3 ⟨⟨o, rfl⟩, hq⟩
  go_wp2_with fail
  go_ret2
  exact ⟨rfl, _, hb2, hq⟩
set_option maxRecDepth 100000 in
set_option maxHeartbeats 8000000 in
theorem polpick_tc {g gt : Nat} {size ka kb : Int} {tp : Value} {so : Bool} {ver : Int} {w : World} (Q : World → World → Prop) (v1 : Int) (A : Option Addr) (n c : Nat) (t : Tup) (lv : Value) (x y r : Int) (h : ChBlk w g 3 size ka kb (.pointer (some ⟨gt, 0, none⟩)) tp so ver) (h0 : n ≠ 0)
    (P : ∀ W, Below w.heap.size w W → Calls Try.prog 90 #[.agg #[.int .i64 v1, .slice A n c], lv, .int .u64 x, .int .u64 y] W fun e w' => (∃ o, e = .returned (.tuple #[.int .i64 r, .bool o])) ∧ Q W w') :
    Calls Try.prog 41 #[.pointer (some ⟨g, 0, none⟩), .agg #[.int .i64 v1, .slice A n c], lv, t.val, .int .u64 x, .int .u64 y] w fun e w' => e = .returned (.tuple #[.int .i64 r, .int .i64 0]) ∧ ∃ W, Below w.heap.size w W ∧ Q W w' := by
  obtain ⟨w0, hw0⟩ : ∃ w0, w0 = (w.alloc (.cells #[.int .i64 v1, .slice A n c] 36)).alloc (.cells t.cells.toArray 82) := ⟨_, rfl⟩
  have hb0 : Below w.heap.size w w0 := hw0 ▸ below_alloc (below_alloc (Below.refl _ _) _) _
  have S0 : Blk w0 w.heap.size 36 #[.int .i64 v1, .slice A n c] := hw0 ▸ (Blk.new w _ _).alloc _
  have P0 : Blk w0 (w.heap.size + 1) 82 t.cells.toArray := by
    have := Blk.new (w.alloc (.cells #[.int .i64 v1, .slice A n c] 36)) 82 t.cells.toArray
    rw [← hw0] at this
    simpa using this
  have C0 : ChBlk w0 g 3 size ka kb (.pointer (some ⟨gt, 0, none⟩)) tp so ver := h.call hb0
  have R := ready_any v1 A n c C0
  rw [if_neg h0] at R
  have s0 := S0.cell 0
  have s1 := S0.cell 1
  simp only [List.getElem?_toArray, List.getElem?_cons_zero, List.getElem?_cons_succ] at s0 s1
  obtain ⟨t1, t2, t3, t4, t5, t6, t7, t8, t9⟩ := t
  unfold Tup.val at *
  dsimp only at *
  replace R := Lib.hid R
  replace P := Lib.hid P
  clear h
  go_enter Try.func41, Try.ntmps41
  go_wp2_with fail
  rw [← hw0]
  clear hw0
  refine R.out.mono ?_
  rintro e w1 ⟨rfl, hb1⟩
  have C1 := Blk.call C0 hb1
  have S1 := S0.call hb1
  have P1 := P0.call hb1
  have hb2 := below_chain hb1 hb0
  clear C0 S0 P0 hb1 hb0 R s0 s1
  have c0 := C1.cell 0
  have c4 := C1.cell 4
  have s0 := S1.cell 0
  have s1 := S1.cell 1
  have p0 := P1.cell 0
  have p1 := P1.cell 1
  have p2 := P1.cell 2
  have p3 := P1.cell 3
  have p4 := P1.cell 4
  have p5 := P1.cell 5
  have p6 := P1.cell 6
  have p7 := P1.cell 7
  have p8 := P1.cell 8
  simp only [List.getElem?_toArray, List.getElem?_cons_zero, List.getElem?_cons_succ] at s0 s1 c0 c4 p0 p1 p2 p3 p4 p5 p6 p7 p8
  go_wp2_with fail
  refine (P.out _ hb2).mono ?_
  rintro e w3 ⟨⟨o, rfl⟩, hq⟩
  go_wp2_with fail
  go_ret2
  exact ⟨rfl, _, hb2, hq⟩
set_option maxRecDepth 100000 in
set_option maxHeartbeats 8000000 in
theorem polpick_ha {g gt : Nat} {size ka kb : Int} {tp : Value} {so : Bool} {ver : Int} {w : World} (Q : World → World → Prop) (v1 : Int) (A : Option Addr) (n c : Nat) (t : Tup) (lv : Value) (x y r : Int) (er : Int) (h : ChBlk w g 4 size ka kb (.pointer (some ⟨gt, 0, none⟩)) tp so ver) (h0 : n ≠ 0)
    (P : ∀ W, Below w.heap.size w W → Calls Try.prog 42 #[.pointer (some ⟨g, 0, none⟩), .agg #[.int .i64 v1, .slice A n c], t.val] W fun e w' => e = .returned (.tuple #[.int .i64 r, .int .i64 er]) ∧ Q W w') :
    Calls Try.prog 41 #[.pointer (some ⟨g, 0, none⟩), .agg #[.int .i64 v1, .slice A n c], lv, t.val, .int .u64 x, .int .u64 y] w fun e w' => e = .returned (.tuple #[.int .i64 r, .int .i64 er]) ∧ ∃ W, Below w.heap.size w W ∧ Q W w' := by
  obtain ⟨w0, hw0⟩ : ∃ w0, w0 = (w.alloc (.cells #[.int .i64 v1, .slice A n c] 36)).alloc (.cells t.cells.toArray 82) := ⟨_, rfl⟩
  have hb0 : Below w.heap.size w w0 := hw0 ▸ below_alloc (below_alloc (Below.refl _ _) _) _
  have S0 : Blk w0 w.heap.size 36 #[.int .i64 v1, .slice A n c] := hw0 ▸ (Blk.new w _ _).alloc _
  have P0 : Blk w0 (w.heap.size + 1) 82 t.cells.toArray := by
    have := Blk.new (w.alloc (.cells #[.int .i64 v1, .slice A n c] 36)) 82 t.cells.toArray
    rw [← hw0] at this
    simpa using this
  have C0 : ChBlk w0 g 4 size ka kb (.pointer (some ⟨gt, 0, none⟩)) tp so ver := h.call hb0
  have R := ready_any v1 A n c C0
  rw [if_neg h0] at R
  have s0 := S0.cell 0
  have s1 := S0.cell 1
  simp only [List.getElem?_toArray, List.getElem?_cons_zero, List.getElem?_cons_succ] at s0 s1
  obtain ⟨t1, t2, t3, t4, t5, t6, t7, t8, t9⟩ := t
  unfold Tup.val at *
  dsimp only at *
  replace R := Lib.hid R
  replace P := Lib.hid P
  clear h
  go_enter Try.func41, Try.ntmps41
  go_wp2_with fail
  rw [← hw0]
  clear hw0
  refine R.out.mono ?_
  rintro e w1 ⟨rfl, hb1⟩
  have C1 := Blk.call C0 hb1
  have S1 := S0.call hb1
  have P1 := P0.call hb1
  have hb2 := below_chain hb1 hb0
  clear C0 S0 P0 hb1 hb0 R s0 s1
  have c0 := C1.cell 0
  have c4 := C1.cell 4
  have s0 := S1.cell 0
  have s1 := S1.cell 1
  have p0 := P1.cell 0
  have p1 := P1.cell 1
  have p2 := P1.cell 2
  have p3 := P1.cell 3
  have p4 := P1.cell 4
  have p5 := P1.cell 5
  have p6 := P1.cell 6
  have p7 := P1.cell 7
  have p8 := P1.cell 8
  simp only [List.getElem?_toArray, List.getElem?_cons_zero, List.getElem?_cons_succ] at s0 s1 c0 c4 p0 p1 p2 p3 p4 p5 p6 p7 p8
  go_wp2_with fail
  refine (P.out _ hb2).mono ?_
  rintro e w3 ⟨rfl, hq⟩
  go_wp2_with fail
  go_ret2
  exact ⟨rfl, _, hb2, hq⟩
end Go.Proofs.Ytkpkjpdhlmjchaa
