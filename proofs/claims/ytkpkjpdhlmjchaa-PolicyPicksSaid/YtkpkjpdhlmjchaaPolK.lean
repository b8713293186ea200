/- policy: the document's chooser: Hash. -/
import Derived.Test.YtkpkjpdhlmjchaaPolJ
import Derived.Test.YtkpkjpdhlmjchaaMagN
namespace Go.Proofs.Ytkpkjpdhlmjchaa
open Go Go.RowKit Go.Deep

theorem PlAt.keep {w w' : World} {g m : Nat} {pl : List Int} (h : PlAt w g m pl) (hb : Below w.heap.size w w') : PlAt w' g m pl := h.of_block (hb.block g h.lt)
theorem plat_far {w : World} {g gN m : Nat} {pl : List Int} {cs : Array Value} (hN : PlAt w gN m pl) (h : Blk w g 108 cs) (i : Nat) (u : Value) : PlAt (w.setCell ⟨g, i, none⟩ u) gN m pl := hN.setOther (a := ⟨g, i, none⟩) (rch_ne h hN) u
set_option maxRecDepth 100000 in
set_option maxHeartbeats 8000000 in
theorem refpolhash_new {g : Nat} {k s ka kb : Int} {so : Bool} {v0 : Int} {L N : Value} {hv : Int} {Pv : Value} {w : World} (v1 : Int) (A : Option Addr) (n c : Nat) (t : Tup) (T : List Int) (h : RChBlk w g k s ka kb so v0 L N false hv Pv) (h0 : n ≠ 0) (hT0 : 0 < T.length) (hTl : T.length ≤ 65536) (x1 : t.hi < 18446744073709551616) (x2 : t.lo < 18446744073709551616) (x3 : t.hi' < 18446744073709551616) (x4 : t.lo' < 18446744073709551616)
    (NEW : ∀ W, Below w.heap.size w W → Calls Try.prog 63 #[.slice A n c, .agg #[.int .u64 ka, .int .u64 kb], .int .i64 s] W fun e w' => (∃ gp, e = .returned (.tuple #[.slice (some ⟨gp, 0, none⟩) T.length T.length, .int .i64 0]) ∧ PlAt w' gp T.length T ∧ W.heap.size ≤ gp) ∧ Below W.heap.size W w') :
    Calls Try.prog 46 #[.pointer (some ⟨g, 0, none⟩), .int .i64 v1, .slice A n c, t.val] w fun e w' => e = .returned (.tuple #[.int .i64 (pickI ka kb T t), .int .i64 0]) ∧ (∃ gp, w.heap.size ≤ gp ∧ RChBlk w' g k s ka kb so v0 L N true v1 (.slice (some ⟨gp, 0, none⟩) T.length T.length) ∧ PlAt w' gp T.length T) ∧ Chg (· = g) w w' := by
  obtain ⟨w2, hw0⟩ : ∃ w2, w2 = w.alloc (.cells t.cells.toArray 82) := ⟨_, rfl⟩
  have hb3 : Below w.heap.size w w2 := hw0 ▸ below_alloc (Below.refl _ _) _
  have P2 : Blk w2 w.heap.size 82 t.cells.toArray := hw0 ▸ Blk.new w _ _
  have C2 : RChBlk w2 g k s ka kb so v0 L N false hv Pv := h.call hb3
  have hgl : g < w.heap.size := h.lt
  have e0 : ((n : Int) == 0) = false := by rw [beq_eq_false_iff_ne]; omega
  have PK := fun (gp : Nat) W (hT : PlAt W gp T.length T) => refpick_any ka kb t hT hT0 hTl x1 x2 x3 x4
  obtain ⟨pI, hpI⟩ : ∃ pI, pickI ka kb T t = pI := ⟨_, rfl⟩
  rw [hpI] at PK ⊢
  obtain ⟨t1, t2, t3, t4, t5, t6, t7, t8, t9⟩ := t
  unfold Tup.val at *
  dsimp only at *
  have c0 := C2.cell 0
  have c1 := C2.cell 1
  have c2 := C2.cell 2
  have c3 := C2.cell 3
  have c8 := C2.cell 8
  have c9 := C2.cell 9
  have c10 := C2.cell 10
  have p0 := P2.cell 0
  have p1 := P2.cell 1
  have p2 := P2.cell 2
  have p3 := P2.cell 3
  have p4 := P2.cell 4
  have p5 := P2.cell 5
  have p6 := P2.cell 6
  have p7 := P2.cell 7
  have p8 := P2.cell 8
  simp only [List.getElem?_toArray, List.getElem?_cons_zero, List.getElem?_cons_succ] at c0 c1 c2 c3 c8 c9 c10 p0 p1 p2 p3 p4 p5 p6 p7 p8
  have c8' := c8
  have c9' := c9
  rw [hw0] at c8' c9'
  replace PK := Lib.hid PK
  replace hpI := Lib.hid hpI
  replace h0 := Lib.hid h0
  replace NEW := Lib.hid NEW
  clear h
  go_enter Try.func46, Try.ntmps46
  go_wp2_with fail
  rw [← hw0]
  clear c8' c9' hw0
  go_region_held3 (fun W => Below w2.heap.size w2 W ∧ W.cell? ⟨g, 1, none⟩ = some (.int .i64 s) ∧ W.cell? ⟨g, 2, none⟩ = some (.int .u64 ka) ∧ W.cell? ⟨g, 3, none⟩ = some (.int .u64 kb)) ((first | assumption | ((refine ⟨?_, ?_⟩; (first | assumption | exact (Below.refl _ _).drew | exact Below.refl _ _); go_keep)))) (first
    | (go_at_call 63; (with_reducible refine (NEW.out _ (below_chain (And.left (by assumption)) hb3)).mono ?_); rintro e w3 ⟨⟨gp, rfl, hT3, hgT⟩, hb4⟩; have hgT2 := Nat.le_trans (below_chain (And.left (by assumption)) hb3).size hgT; have hS := hold3 (by assumption) hb4))
  all_goals
    have hb5 : Below w2.heap.size w2 w3 := hS.1
    have C3 := Blk.call C2 hb5
    have P3 := P2.call hb5
    have hb6 := below_chain hb5 hb3
    clear C2 P2 hb3 c0 c1 c2 c3 c8 c9 c10 hS hb4 NEW hb5 p0 p1 p2 p3 p4 p5 p6 p7 p8
    have c8 := C3.cell 8
    have c9 := C3.cell 9
    have c10 := C3.cell 10
    have f8 := C3.frozen 8
    have f9 := C3.frozen 9
    have f10 := C3.frozen 10
    simp only [List.getElem?_toArray, List.getElem?_cons_zero, List.getElem?_cons_succ] at c8 c9 c10
    go_wp2_with fail
    have C4 : RChBlk (((w3.setCell ⟨g, 8, none⟩ (.bool true)).setCell ⟨g, 9, none⟩ (.int .i64 v1)).setCell ⟨g, 10, none⟩ (.slice (some ⟨gp, 0, none⟩) T.length T.length)) g k s ka kb so v0 L N true v1 (.slice (some ⟨gp, 0, none⟩) T.length T.length) := by
      simpa using ((C3.set_ 8 (.bool true)).set_ 9 (.int .i64 v1)).set_ 10 (.slice (some ⟨gp, 0, none⟩) T.length T.length)
    have T2 := plat_far (plat_far (plat_far hT3 C3 8 (.bool true)) (C3.set_ 8 _) 9 (.int .i64 v1)) ((C3.set_ 8 _).set_ 9 _) 10 (.slice (some ⟨gp, 0, none⟩) T.length T.length)
    have hne : w.heap.size ≠ g := by omega
    have P4 := ((P3.far (p := ⟨g, 8, none⟩) hne (.bool true)).far (p := ⟨g, 9, none⟩) hne (.int .i64 v1)).far (p := ⟨g, 10, none⟩) hne (.slice (some ⟨gp, 0, none⟩) T.length T.length)
    have hc4 := (((Chg.of_below (F := (· = g)) hb6).setCell (p := ⟨g, 8, none⟩) (fun _ => rfl) (.bool true)).setCell (p := ⟨g, 9, none⟩) (fun _ => rfl) (.int .i64 v1)).setCell (p := ⟨g, 10, none⟩) (fun _ => rfl) (.slice (some ⟨gp, 0, none⟩) T.length T.length)
    clear f8 f9 f10 c8 c9 c10 P3 C3 hb6 hT3 hgT
    generalize ((w3.setCell ⟨g, 8, none⟩ (.bool true)).setCell ⟨g, 9, none⟩ (.int .i64 v1)).setCell ⟨g, 10, none⟩ (.slice (some ⟨gp, 0, none⟩) T.length T.length) = w4 at *
    have c2 := C4.cell 2
    have c3 := C4.cell 3
    have c10 := C4.cell 10
    have p0 := P4.cell 0
    have p1 := P4.cell 1
    have p2 := P4.cell 2
    have p3 := P4.cell 3
    have p4 := P4.cell 4
    have p5 := P4.cell 5
    have p6 := P4.cell 6
    have p7 := P4.cell 7
    have p8 := P4.cell 8
    simp only [List.getElem?_toArray, List.getElem?_cons_zero, List.getElem?_cons_succ] at c2 c3 c10 p0 p1 p2 p3 p4 p5 p6 p7 p8
    go_region_held3 (fun W => Below w4.heap.size w4 W ∧ W.cell? ⟨g, 2, none⟩ = some (.int .u64 ka) ∧ W.cell? ⟨g, 3, none⟩ = some (.int .u64 kb) ∧ W.cell? ⟨g, 10, none⟩ = some (.slice (some ⟨gp, 0, none⟩) T.length T.length) ∧ W.cell? ⟨w.heap.size, 0, none⟩ = some (.int .i64 t1) ∧ W.cell? ⟨w.heap.size, 1, none⟩ = some (.bool t2) ∧ W.cell? ⟨w.heap.size, 2, none⟩ = some (.int .u64 t3) ∧ W.cell? ⟨w.heap.size, 3, none⟩ = some (.int .u64 t4) ∧ W.cell? ⟨w.heap.size, 4, none⟩ = some (.bool t5) ∧ W.cell? ⟨w.heap.size, 5, none⟩ = some (.int .u64 t6) ∧ W.cell? ⟨w.heap.size, 6, none⟩ = some (.int .u64 t7) ∧ W.cell? ⟨w.heap.size, 7, none⟩ = some (.int .i64 t8) ∧ W.cell? ⟨w.heap.size, 8, none⟩ = some (.int .i64 t9)) ((first | assumption | ((refine ⟨?_, ?_⟩; (first | assumption | exact (Below.refl _ _).drew | exact Below.refl _ _); go_keep)))) (first
      | (go_at_call 92; (with_reducible refine (PK.out gp _ (T2.keep (And.left (by assumption)))).mono ?_); rintro e w5 ⟨rfl, hb7⟩; have hS := hold12 (by assumption) hb7))
    all_goals
      have hb8 : Below w4.heap.size w4 w5 := hS.1
      go_wp2_with fail
      go_ret2
      exact ⟨rfl, ⟨gp, hgT2, Blk.call C4 hb8, T2.keep hb8⟩, hc4.trans (Chg.of_below hb8) (fun _ _ h => h)⟩
set_option maxRecDepth 100000 in
set_option maxHeartbeats 8000000 in
theorem refpolhash_old {g : Nat} {k s ka kb : Int} {so : Bool} {v0 : Int} {L N : Value} {hv : Int} {Pv : Value} {w : World} (v1 : Int) (A : Option Addr) (n c : Nat) (t : Tup) (T : List Int) (h : RChBlk w g k s ka kb so v0 L N true hv Pv) (h0 : n ≠ 0) (hT0 : 0 < T.length) (hTl : T.length ≤ 65536) (x1 : t.hi < 18446744073709551616) (x2 : t.lo < 18446744073709551616) (x3 : t.hi' < 18446744073709551616) (x4 : t.lo' < 18446744073709551616) (hne : hv ≠ v1)
    (NEW : ∀ W, Below w.heap.size w W → Calls Try.prog 63 #[.slice A n c, .agg #[.int .u64 ka, .int .u64 kb], .int .i64 s] W fun e w' => (∃ gp, e = .returned (.tuple #[.slice (some ⟨gp, 0, none⟩) T.length T.length, .int .i64 0]) ∧ PlAt w' gp T.length T ∧ W.heap.size ≤ gp) ∧ Below W.heap.size W w') :
    Calls Try.prog 46 #[.pointer (some ⟨g, 0, none⟩), .int .i64 v1, .slice A n c, t.val] w fun e w' => e = .returned (.tuple #[.int .i64 (pickI ka kb T t), .int .i64 0]) ∧ (∃ gp, w.heap.size ≤ gp ∧ RChBlk w' g k s ka kb so v0 L N true v1 (.slice (some ⟨gp, 0, none⟩) T.length T.length) ∧ PlAt w' gp T.length T) ∧ Chg (· = g) w w' := by
  obtain ⟨w2, hw0⟩ : ∃ w2, w2 = w.alloc (.cells t.cells.toArray 82) := ⟨_, rfl⟩
  have hb3 : Below w.heap.size w w2 := hw0 ▸ below_alloc (Below.refl _ _) _
  have P2 : Blk w2 w.heap.size 82 t.cells.toArray := hw0 ▸ Blk.new w _ _
  have C2 : RChBlk w2 g k s ka kb so v0 L N true hv Pv := h.call hb3
  have hgl : g < w.heap.size := h.lt
  have e0 : ((n : Int) == 0) = false := by rw [beq_eq_false_iff_ne]; omega
  have PK := fun (gp : Nat) W (hT : PlAt W gp T.length T) => refpick_any ka kb t hT hT0 hTl x1 x2 x3 x4
  obtain ⟨pI, hpI⟩ : ∃ pI, pickI ka kb T t = pI := ⟨_, rfl⟩
  rw [hpI] at PK ⊢
  obtain ⟨t1, t2, t3, t4, t5, t6, t7, t8, t9⟩ := t
  unfold Tup.val at *
  dsimp only at *
  have c0 := C2.cell 0
  have c1 := C2.cell 1
  have c2 := C2.cell 2
  have c3 := C2.cell 3
  have c8 := C2.cell 8
  have c9 := C2.cell 9
  have c10 := C2.cell 10
  have p0 := P2.cell 0
  have p1 := P2.cell 1
  have p2 := P2.cell 2
  have p3 := P2.cell 3
  have p4 := P2.cell 4
  have p5 := P2.cell 5
  have p6 := P2.cell 6
  have p7 := P2.cell 7
  have p8 := P2.cell 8
  simp only [List.getElem?_toArray, List.getElem?_cons_zero, List.getElem?_cons_succ] at c0 c1 c2 c3 c8 c9 c10 p0 p1 p2 p3 p4 p5 p6 p7 p8
  have hvb : (hv != v1) = true := by simpa using hne
  replace hne := Lib.hid hne
  have c8' := c8
  have c9' := c9
  rw [hw0] at c8' c9'
  replace PK := Lib.hid PK
  replace hpI := Lib.hid hpI
  replace h0 := Lib.hid h0
  replace NEW := Lib.hid NEW
  clear h
  go_enter Try.func46, Try.ntmps46
  go_wp2_with fail
  rw [← hw0]
  clear c8' c9' hw0
  go_region_held3 (fun W => Below w2.heap.size w2 W ∧ W.cell? ⟨g, 1, none⟩ = some (.int .i64 s) ∧ W.cell? ⟨g, 2, none⟩ = some (.int .u64 ka) ∧ W.cell? ⟨g, 3, none⟩ = some (.int .u64 kb)) ((first | assumption | ((refine ⟨?_, ?_⟩; (first | assumption | exact (Below.refl _ _).drew | exact Below.refl _ _); go_keep)))) (first
    | (go_at_call 63; (with_reducible refine (NEW.out _ (below_chain (And.left (by assumption)) hb3)).mono ?_); rintro e w3 ⟨⟨gp, rfl, hT3, hgT⟩, hb4⟩; have hgT2 := Nat.le_trans (below_chain (And.left (by assumption)) hb3).size hgT; have hS := hold3 (by assumption) hb4))
  all_goals
    have hb5 : Below w2.heap.size w2 w3 := hS.1
    have C3 := Blk.call C2 hb5
    have P3 := P2.call hb5
    have hb6 := below_chain hb5 hb3
    clear C2 P2 hb3 c0 c1 c2 c3 c8 c9 c10 hS hb4 NEW hb5 p0 p1 p2 p3 p4 p5 p6 p7 p8
    have c8 := C3.cell 8
    have c9 := C3.cell 9
    have c10 := C3.cell 10
    have f8 := C3.frozen 8
    have f9 := C3.frozen 9
    have f10 := C3.frozen 10
    simp only [List.getElem?_toArray, List.getElem?_cons_zero, List.getElem?_cons_succ] at c8 c9 c10
    go_wp2_with fail
    have C4 : RChBlk (((w3.setCell ⟨g, 8, none⟩ (.bool true)).setCell ⟨g, 9, none⟩ (.int .i64 v1)).setCell ⟨g, 10, none⟩ (.slice (some ⟨gp, 0, none⟩) T.length T.length)) g k s ka kb so v0 L N true v1 (.slice (some ⟨gp, 0, none⟩) T.length T.length) := by
      simpa using ((C3.set_ 8 (.bool true)).set_ 9 (.int .i64 v1)).set_ 10 (.slice (some ⟨gp, 0, none⟩) T.length T.length)
    have T2 := plat_far (plat_far (plat_far hT3 C3 8 (.bool true)) (C3.set_ 8 _) 9 (.int .i64 v1)) ((C3.set_ 8 _).set_ 9 _) 10 (.slice (some ⟨gp, 0, none⟩) T.length T.length)
    have hne : w.heap.size ≠ g := by omega
    have P4 := ((P3.far (p := ⟨g, 8, none⟩) hne (.bool true)).far (p := ⟨g, 9, none⟩) hne (.int .i64 v1)).far (p := ⟨g, 10, none⟩) hne (.slice (some ⟨gp, 0, none⟩) T.length T.length)
    have hc4 := (((Chg.of_below (F := (· = g)) hb6).setCell (p := ⟨g, 8, none⟩) (fun _ => rfl) (.bool true)).setCell (p := ⟨g, 9, none⟩) (fun _ => rfl) (.int .i64 v1)).setCell (p := ⟨g, 10, none⟩) (fun _ => rfl) (.slice (some ⟨gp, 0, none⟩) T.length T.length)
    clear f8 f9 f10 c8 c9 c10 P3 C3 hb6 hT3 hgT
    generalize ((w3.setCell ⟨g, 8, none⟩ (.bool true)).setCell ⟨g, 9, none⟩ (.int .i64 v1)).setCell ⟨g, 10, none⟩ (.slice (some ⟨gp, 0, none⟩) T.length T.length) = w4 at *
    have c2 := C4.cell 2
    have c3 := C4.cell 3
    have c10 := C4.cell 10
    have p0 := P4.cell 0
    have p1 := P4.cell 1
    have p2 := P4.cell 2
    have p3 := P4.cell 3
    have p4 := P4.cell 4
    have p5 := P4.cell 5
    have p6 := P4.cell 6
    have p7 := P4.cell 7
    have p8 := P4.cell 8
    simp only [List.getElem?_toArray, List.getElem?_cons_zero, List.getElem?_cons_succ] at c2 c3 c10 p0 p1 p2 p3 p4 p5 p6 p7 p8
    go_region_held3 (fun W => Below w4.heap.size w4 W ∧ W.cell? ⟨g, 2, none⟩ = some (.int .u64 ka) ∧ W.cell? ⟨g, 3, none⟩ = some (.int .u64 kb) ∧ W.cell? ⟨g, 10, none⟩ = some (.slice (some ⟨gp, 0, none⟩) T.length T.length) ∧ W.cell? ⟨w.heap.size, 0, none⟩ = some (.int .i64 t1) ∧ W.cell? ⟨w.heap.size, 1, none⟩ = some (.bool t2) ∧ W.cell? ⟨w.heap.size, 2, none⟩ = some (.int .u64 t3) ∧ W.cell? ⟨w.heap.size, 3, none⟩ = some (.int .u64 t4) ∧ W.cell? ⟨w.heap.size, 4, none⟩ = some (.bool t5) ∧ W.cell? ⟨w.heap.size, 5, none⟩ = some (.int .u64 t6) ∧ W.cell? ⟨w.heap.size, 6, none⟩ = some (.int .u64 t7) ∧ W.cell? ⟨w.heap.size, 7, none⟩ = some (.int .i64 t8) ∧ W.cell? ⟨w.heap.size, 8, none⟩ = some (.int .i64 t9)) ((first | assumption | ((refine ⟨?_, ?_⟩; (first | assumption | exact (Below.refl _ _).drew | exact Below.refl _ _); go_keep)))) (first
      | (go_at_call 92; (with_reducible refine (PK.out gp _ (T2.keep (And.left (by assumption)))).mono ?_); rintro e w5 ⟨rfl, hb7⟩; have hS := hold12 (by assumption) hb7))
    all_goals
      have hb8 : Below w4.heap.size w4 w5 := hS.1
      go_wp2_with fail
      go_ret2
      exact ⟨rfl, ⟨gp, hgT2, Blk.call C4 hb8, T2.keep hb8⟩, hc4.trans (Chg.of_below hb8) (fun _ _ h => h)⟩
set_option maxRecDepth 100000 in
set_option maxHeartbeats 8000000 in
theorem refpolhash_same {g : Nat} {k s ka kb : Int} {so : Bool} {v0 : Int} {L N : Value} {gp : Nat} {w : World} (v1 : Int) (A : Option Addr) (n c : Nat) (t : Tup) (T : List Int) (h : RChBlk w g k s ka kb so v0 L N true v1 (.slice (some ⟨gp, 0, none⟩) T.length T.length)) (h0 : n ≠ 0) (hT0 : 0 < T.length) (hTl : T.length ≤ 65536) (x1 : t.hi < 18446744073709551616) (x2 : t.lo < 18446744073709551616) (x3 : t.hi' < 18446744073709551616) (x4 : t.lo' < 18446744073709551616)
    (hT : PlAt w gp T.length T) :
    Calls Try.prog 46 #[.pointer (some ⟨g, 0, none⟩), .int .i64 v1, .slice A n c, t.val] w fun e w' => e = .returned (.tuple #[.int .i64 (pickI ka kb T t), .int .i64 0]) ∧ Below w.heap.size w w' := by
  obtain ⟨w2, hw0⟩ : ∃ w2, w2 = w.alloc (.cells t.cells.toArray 82) := ⟨_, rfl⟩
  have hb3 : Below w.heap.size w w2 := hw0 ▸ below_alloc (Below.refl _ _) _
  have P2 : Blk w2 w.heap.size 82 t.cells.toArray := hw0 ▸ Blk.new w _ _
  have C2 : RChBlk w2 g k s ka kb so v0 L N true v1 (.slice (some ⟨gp, 0, none⟩) T.length T.length) := h.call hb3
  have hgl : g < w.heap.size := h.lt
  have e0 : ((n : Int) == 0) = false := by rw [beq_eq_false_iff_ne]; omega
  have PK := fun (gp : Nat) W (hT : PlAt W gp T.length T) => refpick_any ka kb t hT hT0 hTl x1 x2 x3 x4
  obtain ⟨pI, hpI⟩ : ∃ pI, pickI ka kb T t = pI := ⟨_, rfl⟩
  rw [hpI] at PK ⊢
  obtain ⟨t1, t2, t3, t4, t5, t6, t7, t8, t9⟩ := t
  unfold Tup.val at *
  dsimp only at *
  have c0 := C2.cell 0
  have c1 := C2.cell 1
  have c2 := C2.cell 2
  have c3 := C2.cell 3
  have c8 := C2.cell 8
  have c9 := C2.cell 9
  have c10 := C2.cell 10
  have p0 := P2.cell 0
  have p1 := P2.cell 1
  have p2 := P2.cell 2
  have p3 := P2.cell 3
  have p4 := P2.cell 4
  have p5 := P2.cell 5
  have p6 := P2.cell 6
  have p7 := P2.cell 7
  have p8 := P2.cell 8
  simp only [List.getElem?_toArray, List.getElem?_cons_zero, List.getElem?_cons_succ] at c0 c1 c2 c3 c8 c9 c10 p0 p1 p2 p3 p4 p5 p6 p7 p8
  have hvb : (v1 != v1) = false := by simp
  have c8' := c8
  have c9' := c9
  rw [hw0] at c8' c9'
  replace PK := Lib.hid PK
  replace hpI := Lib.hid hpI
  replace h0 := Lib.hid h0
  have T2 := hT.keep hb3
  clear h
  go_enter Try.func46, Try.ntmps46
  go_wp2_with fail
  rw [← hw0]
  clear c8' c9' hw0
  go_region_held3 (fun W => Below w2.heap.size w2 W ∧ W.cell? ⟨g, 2, none⟩ = some (.int .u64 ka) ∧ W.cell? ⟨g, 3, none⟩ = some (.int .u64 kb) ∧ W.cell? ⟨g, 10, none⟩ = some (.slice (some ⟨gp, 0, none⟩) T.length T.length) ∧ W.cell? ⟨w.heap.size, 0, none⟩ = some (.int .i64 t1) ∧ W.cell? ⟨w.heap.size, 1, none⟩ = some (.bool t2) ∧ W.cell? ⟨w.heap.size, 2, none⟩ = some (.int .u64 t3) ∧ W.cell? ⟨w.heap.size, 3, none⟩ = some (.int .u64 t4) ∧ W.cell? ⟨w.heap.size, 4, none⟩ = some (.bool t5) ∧ W.cell? ⟨w.heap.size, 5, none⟩ = some (.int .u64 t6) ∧ W.cell? ⟨w.heap.size, 6, none⟩ = some (.int .u64 t7) ∧ W.cell? ⟨w.heap.size, 7, none⟩ = some (.int .i64 t8) ∧ W.cell? ⟨w.heap.size, 8, none⟩ = some (.int .i64 t9)) ((first | assumption | ((refine ⟨?_, ?_⟩; (first | assumption | exact (Below.refl _ _).drew | exact Below.refl _ _); go_keep)))) (first
    | (go_at_call 92; (with_reducible refine (PK.out gp _ (T2.keep (And.left (by assumption)))).mono ?_); rintro e w5 ⟨rfl, hb7⟩; have hS := hold12 (by assumption) hb7))
  all_goals
    have hb8 : Below w2.heap.size w2 w5 := hS.1
    go_wp2_with fail
    go_ret2
    exact ⟨rfl, below_chain hb8 hb3⟩
end Go.Proofs.Ytkpkjpdhlmjchaa
