/- policy: Hash. -/
import Derived.Test.YtkpkjpdhlmjchaaPolC
import Derived.Test.YtkpkjpdhlmjchaaTabF
namespace Go.Proofs.Ytkpkjpdhlmjchaa
open Go Go.RowKit Go.Deep

set_option maxRecDepth 100000 in
set_option maxHeartbeats 8000000 in
theorem polhash_new {g gt : Nat} {kind size ka kb : Int} {tp : Value} {ver : Int} {w : World} (v1 : Int) (A : Option Addr) (n c : Nat) (t : Tup) (T : List Int) (h : ChBlk w g kind size ka kb (.pointer (some ⟨gt, 0, none⟩)) tp false ver) (h0 : n ≠ 0) (hT0 : 0 < T.length) (hTl : T.length ≤ 65536)
    (NEW : ∀ W, Below w.heap.size w W → Calls Try.prog 60 #[.agg #[.int .i64 v1, .slice A n c], .agg #[.int .u64 ka, .int .u64 kb], .int .i64 size] W fun e w' => (∃ gT, e = .returned (.tuple #[.pointer (some ⟨gT, 0, none⟩), .int .i64 0]) ∧ TabF w' w.heap.size gT ka kb T ∧ W.heap.size ≤ gT) ∧ Below W.heap.size W w') :
    Calls Try.prog 42 #[.pointer (some ⟨g, 0, none⟩), .agg #[.int .i64 v1, .slice A n c], t.val] w fun e w' => e = .returned (.tuple #[.int .i64 (pickI ka kb T t), .int .i64 0]) ∧ (∃ gT, w.heap.size ≤ gT ∧ ChBlk w' g kind size ka kb (.pointer (some ⟨gt, 0, none⟩)) (.pointer (some ⟨gT, 0, none⟩)) true v1 ∧ TabF w' w.heap.size gT ka kb T) ∧ Chg (· = g) w w' := by
  obtain ⟨w0, hw0⟩ : ∃ w0, w0 = (w.alloc (.cells #[.int .i64 v1, .slice A n c] 36)).alloc (.cells t.cells.toArray 82) := ⟨_, rfl⟩
  have hb0 : Below w.heap.size w w0 := hw0 ▸ below_alloc (below_alloc (Below.refl _ _) _) _
  have S0 : Blk w0 w.heap.size 36 #[.int .i64 v1, .slice A n c] := hw0 ▸ (Blk.new w _ _).alloc _
  have P0 : Blk w0 (w.heap.size + 1) 82 t.cells.toArray := by
    have := Blk.new (w.alloc (.cells #[.int .i64 v1, .slice A n c] 36)) 82 t.cells.toArray
    rw [← hw0] at this
    simpa using this
  have C0 : ChBlk w0 g kind size ka kb (.pointer (some ⟨gt, 0, none⟩)) tp false ver := h.call hb0
  have hgl : g < w.heap.size := h.lt
  have R := ready_any v1 A n c C0
  rw [if_neg h0] at R
  have s0 := S0.cell 0
  have s1 := S0.cell 1
  simp only [List.getElem?_toArray, List.getElem?_cons_zero, List.getElem?_cons_succ] at s0 s1
  have PK := fun (gT : Nat) W (hT : TabF W w.heap.size gT ka kb T) => pick_any t hT.tab hT0 hTl
  obtain ⟨pI, hpI⟩ : ∃ pI, pickI ka kb T t = pI := ⟨_, rfl⟩
  rw [hpI] at PK ⊢
  obtain ⟨t1, t2, t3, t4, t5, t6, t7, t8, t9⟩ := t
  unfold Tup.val at *
  dsimp only at *
  replace R := Lib.hid R
  replace PK := Lib.hid PK
  replace NEW := Lib.hid NEW
  replace hpI := Lib.hid hpI
  clear h
  go_enter Try.func42, Try.ntmps42
  go_wp2_with fail
  rw [← hw0]
  clear hw0
  refine R.out.mono ?_
  rintro e w1 ⟨rfl, hb1⟩
  have C1 := Blk.call C0 hb1
  have S1 := S0.call hb1
  have P1 := P0.call hb1
  have hb2 := below_chain hb1 hb0
  clear C0 S0 P0 hb1 hb0 R s0 s1
  have c6 := C1.cell 6
  have c7 := C1.cell 7
  have s0 := S1.cell 0
  have s1 := S1.cell 1
  simp only [List.getElem?_toArray, List.getElem?_cons_zero, List.getElem?_cons_succ] at s0 s1 c6 c7
  go_wp2_with fail
  go_quiet (fail)
  rename_i nq
  have C2 : ChBlk (w1.drewN nq) g kind size ka kb (.pointer (some ⟨gt, 0, none⟩)) tp false ver := C1
  have S2 : Blk (w1.drewN nq) w.heap.size 36 #[.int .i64 v1, .slice A n c] := S1
  have P2 : Blk (w1.drewN nq) (w.heap.size + 1) 82 #[.int .i64 t1, .bool t2, .int .u64 t3, .int .u64 t4, .bool t5, .int .u64 t6, .int .u64 t7, .int .i64 t8, .int .i64 t9] := P1
  have hb3 : Below w.heap.size w (w1.drewN nq) := below_drewN hb2 nq
  clear C1 S1 P1 hb2 c6 c7 s0 s1
  generalize w1.drewN nq = w2 at *
  have c0 := C2.cell 0
  have c1 := C2.cell 1
  have c2 := C2.cell 2
  have c3 := C2.cell 3
  have s0 := S2.cell 0
  have s1 := S2.cell 1
  simp only [List.getElem?_toArray, List.getElem?_cons_zero, List.getElem?_cons_succ] at s0 s1 c0 c1 c2 c3
  go_wp2_with fail
  go_region_held3 (fun W => Below w2.heap.size w2 W ∧ W.cell? ⟨g, 1, none⟩ = some (.int .i64 size) ∧ W.cell? ⟨g, 2, none⟩ = some (.int .u64 ka) ∧ W.cell? ⟨g, 3, none⟩ = some (.int .u64 kb) ∧ W.cell? ⟨w.heap.size, 0, none⟩ = some (.int .i64 v1) ∧ W.cell? ⟨w.heap.size, 1, none⟩ = some (.slice A n c)) ((first | assumption | ((refine ⟨?_, ?_⟩; (first | assumption | exact (Below.refl _ _).drew | exact Below.refl _ _); go_keep)))) (first
    | (go_at_call 60; (with_reducible refine (NEW.out _ (below_chain (And.left (by assumption)) hb3)).mono ?_); rintro e w3 ⟨⟨gT, rfl, hT3, hgT⟩, hb4⟩; have hgT2 := Nat.le_trans (below_chain (And.left (by assumption)) hb3).size hgT; have hS := hold5 (by assumption) hb4))
  all_goals
    have hb5 : Below w2.heap.size w2 w3 := hS.1
    have C3 := Blk.call C2 hb5
    have S3 := S2.call hb5
    have P3 := P2.call hb5
    have hb6 := below_chain hb5 hb3
    clear C2 S2 P2 hb3 c0 c1 c2 c3 s0 s1 hS hb4 NEW hb5
    obtain ⟨⟨c0, c1, c2, c3, c4, c5, c6, c7⟩, f0, f1, f2, f3, f4, f5, f6, f7⟩ := C3.eight
    have s0 := S3.cell 0
    simp only [List.getElem?_toArray, List.getElem?_cons_zero] at s0
    clear c0 c1 c2 c3 c4 f0 f1 f2 f3 f4
    go_wp2_with fail
    have C4 : ChBlk (((w3.setCell ⟨g, 5, none⟩ (.pointer (some ⟨gT, 0, none⟩))).setCell ⟨g, 6, none⟩ (.bool true)).setCell ⟨g, 7, none⟩ (.int .i64 v1)) g kind size ka kb (.pointer (some ⟨gt, 0, none⟩)) (.pointer (some ⟨gT, 0, none⟩)) true v1 := by
      simpa using ((C3.set_ 5 (.pointer (some ⟨gT, 0, none⟩))).set_ 6 (.bool true)).set_ 7 (.int .i64 v1)
    have hT4 := TabF.far_ch (TabF.far_ch (TabF.far_ch hT3 C3 (by decide) (by decide) 5 (.pointer (some ⟨gT, 0, none⟩))) (C3.set_ 5 _) (by decide) (by decide) 6 (.bool true)) ((C3.set_ 5 _).set_ 6 _) (by decide) (by decide) 7 (.int .i64 v1)
    have hne : w.heap.size + 1 ≠ g := by omega
    have P4 := ((P3.far (p := ⟨g, 5, none⟩) hne (.pointer (some ⟨gT, 0, none⟩))).far (p := ⟨g, 6, none⟩) hne (.bool true)).far (p := ⟨g, 7, none⟩) hne (.int .i64 v1)
    have hc4 : Chg (· = g) w (((w3.setCell ⟨g, 5, none⟩ (.pointer (some ⟨gT, 0, none⟩))).setCell ⟨g, 6, none⟩ (.bool true)).setCell ⟨g, 7, none⟩ (.int .i64 v1)) := (((Chg.of_below (F := (· = g)) hb6).setCell (fun _ => rfl) _).setCell (fun _ => rfl) _).setCell (fun _ => rfl) _
    clear f5 f6 f7 c5 c6 c7 s0 P3 S3 C3 hb6 hT3 hgT
    generalize ((w3.setCell ⟨g, 5, none⟩ (.pointer (some ⟨gT, 0, none⟩))).setCell ⟨g, 6, none⟩ (.bool true)).setCell ⟨g, 7, none⟩ (.int .i64 v1) = w4 at *
    have c5 := C4.cell 5
    have p0 := P4.cell 0
    have p1 := P4.cell 1
    have p2 := P4.cell 2
    have p3 := P4.cell 3
    have p4 := P4.cell 4
    have p5 := P4.cell 5
    have p6 := P4.cell 6
    have p7 := P4.cell 7
    have p8 := P4.cell 8
    simp only [List.getElem?_toArray, List.getElem?_cons_zero, List.getElem?_cons_succ] at c5 p0 p1 p2 p3 p4 p5 p6 p7 p8
    go_region_held3 (fun W => Below w4.heap.size w4 W ∧ W.cell? ⟨g, 5, none⟩ = some (.pointer (some ⟨gT, 0, none⟩)) ∧ W.cell? ⟨w.heap.size + 1, 0, none⟩ = some (.int .i64 t1) ∧ W.cell? ⟨w.heap.size + 1, 1, none⟩ = some (.bool t2) ∧ W.cell? ⟨w.heap.size + 1, 2, none⟩ = some (.int .u64 t3) ∧ W.cell? ⟨w.heap.size + 1, 3, none⟩ = some (.int .u64 t4) ∧ W.cell? ⟨w.heap.size + 1, 4, none⟩ = some (.bool t5) ∧ W.cell? ⟨w.heap.size + 1, 5, none⟩ = some (.int .u64 t6) ∧ W.cell? ⟨w.heap.size + 1, 6, none⟩ = some (.int .u64 t7) ∧ W.cell? ⟨w.heap.size + 1, 7, none⟩ = some (.int .i64 t8) ∧ W.cell? ⟨w.heap.size + 1, 8, none⟩ = some (.int .i64 t9)) ((first | assumption | ((refine ⟨?_, ?_⟩; (first | assumption | exact (Below.refl _ _).drew | exact Below.refl _ _); go_keep)))) (first
      | (go_at_call 91; (with_reducible refine (PK.out _ _ (hT4.keep (And.left (by assumption)))).mono ?_); rintro e w5 ⟨rfl, hb7⟩; have hS := hold10 (by assumption) hb7))
    all_goals
      have hb8 : Below w4.heap.size w4 w5 := hS.1
      go_wp2_with fail
      go_ret2
      exact ⟨rfl, ⟨gT, hgT2, Blk.call C4 hb8, hT4.keep hb8⟩, hc4.trans (Chg.of_below hb8) (fun _ _ h => h)⟩
set_option maxRecDepth 100000 in
set_option maxHeartbeats 8000000 in
theorem polhash_old {g gt : Nat} {kind size ka kb : Int} {tp : Value} {ver : Int} {w : World} (v1 : Int) (A : Option Addr) (n c : Nat) (t : Tup) (T : List Int) (h : ChBlk w g kind size ka kb (.pointer (some ⟨gt, 0, none⟩)) tp true ver) (h0 : n ≠ 0) (hv : ver ≠ v1) (hT0 : 0 < T.length) (hTl : T.length ≤ 65536)
    (NEW : ∀ W, Below w.heap.size w W → Calls Try.prog 60 #[.agg #[.int .i64 v1, .slice A n c], .agg #[.int .u64 ka, .int .u64 kb], .int .i64 size] W fun e w' => (∃ gT, e = .returned (.tuple #[.pointer (some ⟨gT, 0, none⟩), .int .i64 0]) ∧ TabF w' w.heap.size gT ka kb T ∧ W.heap.size ≤ gT) ∧ Below W.heap.size W w') :
    Calls Try.prog 42 #[.pointer (some ⟨g, 0, none⟩), .agg #[.int .i64 v1, .slice A n c], t.val] w fun e w' => e = .returned (.tuple #[.int .i64 (pickI ka kb T t), .int .i64 0]) ∧ (∃ gT, w.heap.size ≤ gT ∧ ChBlk w' g kind size ka kb (.pointer (some ⟨gt, 0, none⟩)) (.pointer (some ⟨gT, 0, none⟩)) true v1 ∧ TabF w' w.heap.size gT ka kb T) ∧ Chg (· = g) w w' := by
  obtain ⟨w0, hw0⟩ : ∃ w0, w0 = (w.alloc (.cells #[.int .i64 v1, .slice A n c] 36)).alloc (.cells t.cells.toArray 82) := ⟨_, rfl⟩
  have hb0 : Below w.heap.size w w0 := hw0 ▸ below_alloc (below_alloc (Below.refl _ _) _) _
  have S0 : Blk w0 w.heap.size 36 #[.int .i64 v1, .slice A n c] := hw0 ▸ (Blk.new w _ _).alloc _
  have P0 : Blk w0 (w.heap.size + 1) 82 t.cells.toArray := by
    have := Blk.new (w.alloc (.cells #[.int .i64 v1, .slice A n c] 36)) 82 t.cells.toArray
    rw [← hw0] at this
    simpa using this
  have C0 : ChBlk w0 g kind size ka kb (.pointer (some ⟨gt, 0, none⟩)) tp true ver := h.call hb0
  have hgl : g < w.heap.size := h.lt
  have hvb : (ver != v1) = true := by simpa using hv
  replace hv := Lib.hid hv
  have R := ready_any v1 A n c C0
  rw [if_neg h0] at R
  have s0 := S0.cell 0
  have s1 := S0.cell 1
  simp only [List.getElem?_toArray, List.getElem?_cons_zero, List.getElem?_cons_succ] at s0 s1
  have PK := fun (gT : Nat) W (hT : TabF W w.heap.size gT ka kb T) => pick_any t hT.tab hT0 hTl
  obtain ⟨pI, hpI⟩ : ∃ pI, pickI ka kb T t = pI := ⟨_, rfl⟩
  rw [hpI] at PK ⊢
  obtain ⟨t1, t2, t3, t4, t5, t6, t7, t8, t9⟩ := t
  unfold Tup.val at *
  dsimp only at *
  replace R := Lib.hid R
  replace PK := Lib.hid PK
  replace NEW := Lib.hid NEW
  replace hpI := Lib.hid hpI
  clear h
  go_enter Try.func42, Try.ntmps42
  go_wp2_with fail
  rw [← hw0]
  clear hw0
  refine R.out.mono ?_
  rintro e w1 ⟨rfl, hb1⟩
  have C1 := Blk.call C0 hb1
  have S1 := S0.call hb1
  have P1 := P0.call hb1
  have hb2 := below_chain hb1 hb0
  clear C0 S0 P0 hb1 hb0 R s0 s1
  have c6 := C1.cell 6
  have c7 := C1.cell 7
  have s0 := S1.cell 0
  have s1 := S1.cell 1
  simp only [List.getElem?_toArray, List.getElem?_cons_zero, List.getElem?_cons_succ] at s0 s1 c6 c7
  go_wp2_with fail
  go_quiet (fail)
  rename_i nq
  have C2 : ChBlk (w1.drewN nq) g kind size ka kb (.pointer (some ⟨gt, 0, none⟩)) tp true ver := C1
  have S2 : Blk (w1.drewN nq) w.heap.size 36 #[.int .i64 v1, .slice A n c] := S1
  have P2 : Blk (w1.drewN nq) (w.heap.size + 1) 82 #[.int .i64 t1, .bool t2, .int .u64 t3, .int .u64 t4, .bool t5, .int .u64 t6, .int .u64 t7, .int .i64 t8, .int .i64 t9] := P1
  have hb3 : Below w.heap.size w (w1.drewN nq) := below_drewN hb2 nq
  clear C1 S1 P1 hb2 c6 c7 s0 s1
  generalize w1.drewN nq = w2 at *
  have c0 := C2.cell 0
  have c1 := C2.cell 1
  have c2 := C2.cell 2
  have c3 := C2.cell 3
  have s0 := S2.cell 0
  have s1 := S2.cell 1
  simp only [List.getElem?_toArray, List.getElem?_cons_zero, List.getElem?_cons_succ] at s0 s1 c0 c1 c2 c3
  go_wp2_with fail
  go_region_held3 (fun W => Below w2.heap.size w2 W ∧ W.cell? ⟨g, 1, none⟩ = some (.int .i64 size) ∧ W.cell? ⟨g, 2, none⟩ = some (.int .u64 ka) ∧ W.cell? ⟨g, 3, none⟩ = some (.int .u64 kb) ∧ W.cell? ⟨w.heap.size, 0, none⟩ = some (.int .i64 v1) ∧ W.cell? ⟨w.heap.size, 1, none⟩ = some (.slice A n c)) ((first | assumption | ((refine ⟨?_, ?_⟩; (first | assumption | exact (Below.refl _ _).drew | exact Below.refl _ _); go_keep)))) (first
    | (go_at_call 60; (with_reducible refine (NEW.out _ (below_chain (And.left (by assumption)) hb3)).mono ?_); rintro e w3 ⟨⟨gT, rfl, hT3, hgT⟩, hb4⟩; have hgT2 := Nat.le_trans (below_chain (And.left (by assumption)) hb3).size hgT; have hS := hold5 (by assumption) hb4))
  all_goals
    have hb5 : Below w2.heap.size w2 w3 := hS.1
    have C3 := Blk.call C2 hb5
    have S3 := S2.call hb5
    have P3 := P2.call hb5
    have hb6 := below_chain hb5 hb3
    clear C2 S2 P2 hb3 c0 c1 c2 c3 s0 s1 hS hb4 NEW hb5
    obtain ⟨⟨c0, c1, c2, c3, c4, c5, c6, c7⟩, f0, f1, f2, f3, f4, f5, f6, f7⟩ := C3.eight
    have s0 := S3.cell 0
    simp only [List.getElem?_toArray, List.getElem?_cons_zero] at s0
    clear c0 c1 c2 c3 c4 f0 f1 f2 f3 f4
    go_wp2_with fail
    have C4 : ChBlk (((w3.setCell ⟨g, 5, none⟩ (.pointer (some ⟨gT, 0, none⟩))).setCell ⟨g, 6, none⟩ (.bool true)).setCell ⟨g, 7, none⟩ (.int .i64 v1)) g kind size ka kb (.pointer (some ⟨gt, 0, none⟩)) (.pointer (some ⟨gT, 0, none⟩)) true v1 := by
      simpa using ((C3.set_ 5 (.pointer (some ⟨gT, 0, none⟩))).set_ 6 (.bool true)).set_ 7 (.int .i64 v1)
    have hT4 := TabF.far_ch (TabF.far_ch (TabF.far_ch hT3 C3 (by decide) (by decide) 5 (.pointer (some ⟨gT, 0, none⟩))) (C3.set_ 5 _) (by decide) (by decide) 6 (.bool true)) ((C3.set_ 5 _).set_ 6 _) (by decide) (by decide) 7 (.int .i64 v1)
    have hne : w.heap.size + 1 ≠ g := by omega
    have P4 := ((P3.far (p := ⟨g, 5, none⟩) hne (.pointer (some ⟨gT, 0, none⟩))).far (p := ⟨g, 6, none⟩) hne (.bool true)).far (p := ⟨g, 7, none⟩) hne (.int .i64 v1)
    have hc4 : Chg (· = g) w (((w3.setCell ⟨g, 5, none⟩ (.pointer (some ⟨gT, 0, none⟩))).setCell ⟨g, 6, none⟩ (.bool true)).setCell ⟨g, 7, none⟩ (.int .i64 v1)) := (((Chg.of_below (F := (· = g)) hb6).setCell (fun _ => rfl) _).setCell (fun _ => rfl) _).setCell (fun _ => rfl) _
    clear f5 f6 f7 c5 c6 c7 s0 P3 S3 C3 hb6 hT3 hgT
    generalize ((w3.setCell ⟨g, 5, none⟩ (.pointer (some ⟨gT, 0, none⟩))).setCell ⟨g, 6, none⟩ (.bool true)).setCell ⟨g, 7, none⟩ (.int .i64 v1) = w4 at *
    have c5 := C4.cell 5
    have p0 := P4.cell 0
    have p1 := P4.cell 1
    have p2 := P4.cell 2
    have p3 := P4.cell 3
    have p4 := P4.cell 4
    have p5 := P4.cell 5
    have p6 := P4.cell 6
    have p7 := P4.cell 7
    have p8 := P4.cell 8
    simp only [List.getElem?_toArray, List.getElem?_cons_zero, List.getElem?_cons_succ] at c5 p0 p1 p2 p3 p4 p5 p6 p7 p8
    go_region_held3 (fun W => Below w4.heap.size w4 W ∧ W.cell? ⟨g, 5, none⟩ = some (.pointer (some ⟨gT, 0, none⟩)) ∧ W.cell? ⟨w.heap.size + 1, 0, none⟩ = some (.int .i64 t1) ∧ W.cell? ⟨w.heap.size + 1, 1, none⟩ = some (.bool t2) ∧ W.cell? ⟨w.heap.size + 1, 2, none⟩ = some (.int .u64 t3) ∧ W.cell? ⟨w.heap.size + 1, 3, none⟩ = some (.int .u64 t4) ∧ W.cell? ⟨w.heap.size + 1, 4, none⟩ = some (.bool t5) ∧ W.cell? ⟨w.heap.size + 1, 5, none⟩ = some (.int .u64 t6) ∧ W.cell? ⟨w.heap.size + 1, 6, none⟩ = some (.int .u64 t7) ∧ W.cell? ⟨w.heap.size + 1, 7, none⟩ = some (.int .i64 t8) ∧ W.cell? ⟨w.heap.size + 1, 8, none⟩ = some (.int .i64 t9)) ((first | assumption | ((refine ⟨?_, ?_⟩; (first | assumption | exact (Below.refl _ _).drew | exact Below.refl _ _); go_keep)))) (first
      | (go_at_call 91; (with_reducible refine (PK.out _ _ (hT4.keep (And.left (by assumption)))).mono ?_); rintro e w5 ⟨rfl, hb7⟩; have hS := hold10 (by assumption) hb7))
    all_goals
      have hb8 : Below w4.heap.size w4 w5 := hS.1
      go_wp2_with fail
      go_ret2
      exact ⟨rfl, ⟨gT, hgT2, Blk.call C4 hb8, hT4.keep hb8⟩, hc4.trans (Chg.of_below hb8) (fun _ _ h => h)⟩
set_option maxRecDepth 100000 in
set_option maxHeartbeats 8000000 in
theorem polhash_same {g gt : Nat} {kind size ka kb : Int} {gT : Nat} {w : World} (v1 : Int) (A : Option Addr) (n c : Nat) (t : Tup) (T : List Int) (h : ChBlk w g kind size ka kb (.pointer (some ⟨gt, 0, none⟩)) (.pointer (some ⟨gT, 0, none⟩)) true v1) (h0 : n ≠ 0) (hT0 : 0 < T.length) (hTl : T.length ≤ 65536)
    (hT : TabAt w gT ka kb T) :
    Calls Try.prog 42 #[.pointer (some ⟨g, 0, none⟩), .agg #[.int .i64 v1, .slice A n c], t.val] w fun e w' => e = .returned (.tuple #[.int .i64 (pickI ka kb T t), .int .i64 0]) ∧ Below w.heap.size w w' := by
  obtain ⟨w0, hw0⟩ : ∃ w0, w0 = (w.alloc (.cells #[.int .i64 v1, .slice A n c] 36)).alloc (.cells t.cells.toArray 82) := ⟨_, rfl⟩
  have hb0 : Below w.heap.size w w0 := hw0 ▸ below_alloc (below_alloc (Below.refl _ _) _) _
  have S0 : Blk w0 w.heap.size 36 #[.int .i64 v1, .slice A n c] := hw0 ▸ (Blk.new w _ _).alloc _
  have P0 : Blk w0 (w.heap.size + 1) 82 t.cells.toArray := by
    have := Blk.new (w.alloc (.cells #[.int .i64 v1, .slice A n c] 36)) 82 t.cells.toArray
    rw [← hw0] at this
    simpa using this
  have C0 : ChBlk w0 g kind size ka kb (.pointer (some ⟨gt, 0, none⟩)) (.pointer (some ⟨gT, 0, none⟩)) true v1 := h.call hb0
  have hgl : g < w.heap.size := h.lt
  have hvb : (v1 != v1) = false := by simp
  have hT0w := hT.keep hb0
  have R := ready_any v1 A n c C0
  rw [if_neg h0] at R
  have s0 := S0.cell 0
  have s1 := S0.cell 1
  simp only [List.getElem?_toArray, List.getElem?_cons_zero, List.getElem?_cons_succ] at s0 s1
  have PK := fun (gT : Nat) W (hT : TabAt W gT ka kb T) => pick_any t hT hT0 hTl
  obtain ⟨pI, hpI⟩ : ∃ pI, pickI ka kb T t = pI := ⟨_, rfl⟩
  rw [hpI] at PK ⊢
  obtain ⟨t1, t2, t3, t4, t5, t6, t7, t8, t9⟩ := t
  unfold Tup.val at *
  dsimp only at *
  replace R := Lib.hid R
  replace PK := Lib.hid PK
  replace hpI := Lib.hid hpI
  clear h
  go_enter Try.func42, Try.ntmps42
  go_wp2_with fail
  rw [← hw0]
  clear hw0
  refine R.out.mono ?_
  rintro e w1 ⟨rfl, hb1⟩
  have C1 := Blk.call C0 hb1
  have S1 := S0.call hb1
  have P1 := P0.call hb1
  have T1 := hT0w.keep hb1
  have hb2 := below_chain hb1 hb0
  clear C0 S0 P0 hb1 hb0 R s0 s1 hT hT0w
  have c6 := C1.cell 6
  have c7 := C1.cell 7
  have s0 := S1.cell 0
  have s1 := S1.cell 1
  simp only [List.getElem?_toArray, List.getElem?_cons_zero, List.getElem?_cons_succ] at s0 s1 c6 c7
  go_wp2_with fail
  go_quiet (fail)
  rename_i nq
  have C2 : ChBlk (w1.drewN nq) g kind size ka kb (.pointer (some ⟨gt, 0, none⟩)) (.pointer (some ⟨gT, 0, none⟩)) true v1 := C1
  have P2 : Blk (w1.drewN nq) (w.heap.size + 1) 82 #[.int .i64 t1, .bool t2, .int .u64 t3, .int .u64 t4, .bool t5, .int .u64 t6, .int .u64 t7, .int .i64 t8, .int .i64 t9] := P1
  have T2 : TabAt (w1.drewN nq) gT ka kb T := T1
  have hb3 : Below w.heap.size w (w1.drewN nq) := below_drewN hb2 nq
  clear C1 S1 P1 hb2 c6 c7 s0 s1 T1
  generalize w1.drewN nq = w4 at *
  have c5 := C2.cell 5
  have p0 := P2.cell 0
  have p1 := P2.cell 1
  have p2 := P2.cell 2
  have p3 := P2.cell 3
  have p4 := P2.cell 4
  have p5 := P2.cell 5
  have p6 := P2.cell 6
  have p7 := P2.cell 7
  have p8 := P2.cell 8
  simp only [List.getElem?_toArray, List.getElem?_cons_zero, List.getElem?_cons_succ] at c5 p0 p1 p2 p3 p4 p5 p6 p7 p8
  go_wp2_with fail
  go_region_held3 (fun W => Below w4.heap.size w4 W ∧ W.cell? ⟨g, 5, none⟩ = some (.pointer (some ⟨gT, 0, none⟩)) ∧ W.cell? ⟨w.heap.size + 1, 0, none⟩ = some (.int .i64 t1) ∧ W.cell? ⟨w.heap.size + 1, 1, none⟩ = some (.bool t2) ∧ W.cell? ⟨w.heap.size + 1, 2, none⟩ = some (.int .u64 t3) ∧ W.cell? ⟨w.heap.size + 1, 3, none⟩ = some (.int .u64 t4) ∧ W.cell? ⟨w.heap.size + 1, 4, none⟩ = some (.bool t5) ∧ W.cell? ⟨w.heap.size + 1, 5, none⟩ = some (.int .u64 t6) ∧ W.cell? ⟨w.heap.size + 1, 6, none⟩ = some (.int .u64 t7) ∧ W.cell? ⟨w.heap.size + 1, 7, none⟩ = some (.int .i64 t8) ∧ W.cell? ⟨w.heap.size + 1, 8, none⟩ = some (.int .i64 t9)) ((first | assumption | ((refine ⟨?_, ?_⟩; (first | assumption | exact (Below.refl _ _).drew | exact Below.refl _ _); go_keep)))) (first
    | (go_at_call 91; (with_reducible refine (PK.out _ _ (T2.keep (And.left (by assumption)))).mono ?_); rintro e w5 ⟨rfl, hb7⟩; have hS := hold10 (by assumption) hb7))
  all_goals
    have hb8 : Below w4.heap.size w4 w5 := hS.1
    go_wp2_with fail
    go_ret2
    exact ⟨rfl, below_chain hb8 hb3⟩
end Go.Proofs.Ytkpkjpdhlmjchaa
