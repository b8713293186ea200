/- policy: Set. -/
import Derived.Test.YtkpkjpdhlmjchaaPolA
import Derived.Deep.RegionWith
namespace Go.Proofs.Ytkpkjpdhlmjchaa
open Go Go.RowKit Go.Deep

theorem swrr_new2 (w : World) : Calls Try.prog 87 #[] w fun e w' => e = .returned (.pointer (some ⟨w.heap.size, 0, none⟩)) ∧ Blk w' w.heap.size 184 #[.bool true, .bool false, .int .i64 0, .int .i64 0, .slice none 0 0] ∧ Below w.heap.size w w' := by
  refine (swrr_new w).mono ?_
  rintro e w' ⟨rfl, rfl⟩
  exact ⟨rfl, Blk.new w _ _, below_alloc (Below.refl _ _) _⟩
theorem turnAt_new {w : World} {g : Nat} (h : Blk w g 184 #[.bool true, .bool false, .int .i64 0, .int .i64 0, .slice none 0 0]) (base : Nat) : TurnAt w base g false 0 0 [] := ⟨none, 0, h, OwnA.nil _ _⟩
theorem Blk.eight {w : World} {g : Nat} {t : TypeId} {c0 c1 c2 c3 c4 c5 c6 c7 : Value} (h : Blk w g t #[c0, c1, c2, c3, c4, c5, c6, c7]) :
    (w.cell? ⟨g, 0, none⟩ = some c0 ∧ w.cell? ⟨g, 1, none⟩ = some c1 ∧ w.cell? ⟨g, 2, none⟩ = some c2 ∧ w.cell? ⟨g, 3, none⟩ = some c3 ∧ w.cell? ⟨g, 4, none⟩ = some c4 ∧ w.cell? ⟨g, 5, none⟩ = some c5 ∧ w.cell? ⟨g, 6, none⟩ = some c6 ∧ w.cell? ⟨g, 7, none⟩ = some c7) ∧
      w.frozen? ⟨g, 0, none⟩ = false ∧ w.frozen? ⟨g, 1, none⟩ = false ∧ w.frozen? ⟨g, 2, none⟩ = false ∧ w.frozen? ⟨g, 3, none⟩ = false ∧ w.frozen? ⟨g, 4, none⟩ = false ∧ w.frozen? ⟨g, 5, none⟩ = false ∧ w.frozen? ⟨g, 6, none⟩ = false ∧ w.frozen? ⟨g, 7, none⟩ = false :=
  ⟨⟨h.cell 0, h.cell 1, h.cell 2, h.cell 3, h.cell 4, h.cell 5, h.cell 6, h.cell 7⟩, h.frozen 0, h.frozen 1, h.frozen 2, h.frozen 3, h.frozen 4, h.frozen 5, h.frozen 6, h.frozen 7⟩
theorem polset_nil (v : Value) (w : World) (k2 s2 : Int) (hv : v = .agg #[.int .i64 k2, .int .i64 s2]) : Calls Try.prog 47 #[.pointer none, v] w fun e w' => e = .returned (.int .i64 1) ∧ Below w.heap.size w w' := by
  subst hv
  have hb0 := below_alloc (Below.refl w.heap.size w) (.cells #[.int .i64 k2, .int .i64 s2] 88)
  go_enter Try.func47, Try.ntmps47
  go_wp2_with fail
  go_ret
  exact ⟨rfl, hb0⟩
theorem polset_plain {g : Nat} {kind size ka kb : Int} {tp : Value} {so : Bool} {ver : Int} {w : World} (k2 s2 : Int) (h : ChBlk w g kind size ka kb (.pointer none) tp so ver) : Calls Try.prog 47 #[.pointer (some ⟨g, 0, none⟩), .agg #[.int .i64 k2, .int .i64 s2]] w fun e w' => e = .returned (.int .i64 1) ∧ Below w.heap.size w w' := by
  have hb0 := below_alloc (Below.refl w.heap.size w) (.cells #[.int .i64 k2, .int .i64 s2] 88)
  have c4 := (h.alloc (.cells #[.int .i64 k2, .int .i64 s2] 88)).cell 4
  simp only [List.getElem?_toArray, List.getElem?_cons_zero, List.getElem?_cons_succ] at c4
  clear h
  go_enter Try.func47, Try.ntmps47
  go_wp2_with fail
  go_ret
  exact ⟨rfl, hb0⟩
theorem polset_bad {g gt : Nat} {kind size ka kb : Int} {tp : Value} {so : Bool} {ver : Int} {w : World} (k2 s2 : Int) (h : ChBlk w g kind size ka kb (.pointer (some ⟨gt, 0, none⟩)) tp so ver) (hp : polOk k2 s2 = false) : Calls Try.prog 47 #[.pointer (some ⟨g, 0, none⟩), .agg #[.int .i64 k2, .int .i64 s2]] w fun e w' => e = .returned (.int .i64 1) ∧ Below w.heap.size w w' := by
  have hb0 := below_alloc (Below.refl w.heap.size w) (.cells #[.int .i64 k2, .int .i64 s2] 88)
  have B0 := Blk.new w 88 #[.int .i64 k2, .int .i64 s2]
  have c4 := (h.alloc (.cells #[.int .i64 k2, .int .i64 s2] 88)).cell 4
  have s0 := B0.cell 0
  have s1 := B0.cell 1
  simp only [List.getElem?_toArray, List.getElem?_cons_zero, List.getElem?_cons_succ] at c4 s0 s1
  have R := fun W => polright_any k2 s2 W
  rw [hp] at R
  replace R := Lib.hid R
  clear h hp
  go_enter Try.func47, Try.ntmps47
  go_wp2_with fail
  refine (R.out _).mono ?_
  rintro e w1 ⟨rfl, hb1⟩
  have hb2 := below_chain hb1 hb0
  clear hb0 hb1
  go_wp2_with fail
  go_ret
  exact ⟨rfl, hb2⟩
set_option maxRecDepth 100000 in
set_option maxHeartbeats 8000000 in
theorem polset_ok {g gt : Nat} {kind size ka kb : Int} {tp : Value} {so : Bool} {ver : Int} {w : World} (k2 s2 : Int) (h : ChBlk w g kind size ka kb (.pointer (some ⟨gt, 0, none⟩)) tp so ver) (hp : polOk k2 s2 = true) :
    Calls Try.prog 47 #[.pointer (some ⟨g, 0, none⟩), .agg #[.int .i64 k2, .int .i64 s2]] w fun e w' => e = .returned (.int .i64 0) ∧ (∃ gn, w.heap.size ≤ gn ∧ ChBlk w' g k2 s2 ka kb (.pointer (some ⟨gn, 0, none⟩)) (.pointer none) false 0 ∧ TurnAt w' w.heap.size gn false 0 0 []) ∧ Chg (· = g) w w' := by
  have hb0 := below_alloc (Below.refl w.heap.size w) (.cells #[.int .i64 k2, .int .i64 s2] 88)
  have B0 := Blk.new w 88 #[.int .i64 k2, .int .i64 s2]
  have C0 : ChBlk (w.alloc (.cells #[.int .i64 k2, .int .i64 s2] 88)) g kind size ka kb (.pointer (some ⟨gt, 0, none⟩)) tp so ver := h.alloc _
  have hgl : g < w.heap.size := h.lt
  have c4 := C0.cell 4
  have s0 := B0.cell 0
  have s1 := B0.cell 1
  simp only [List.getElem?_toArray, List.getElem?_cons_zero, List.getElem?_cons_succ] at c4 s0 s1
  have R := fun W => polright_any k2 s2 W
  rw [hp] at R
  replace R := Lib.hid R
  clear h hp
  go_enter Try.func47, Try.ntmps47
  go_wp2_with fail
  generalize w.alloc (.cells #[.int .i64 k2, .int .i64 s2] 88) = w0 at *
  refine (R.out _).mono ?_
  rintro e w1 ⟨rfl, hb1⟩
  have hb2 := below_chain hb1 hb0
  have B1 := B0.call hb1
  have C1 := Blk.call C0 hb1
  clear B0 C0 hb1 hb0 c4 s0 s1
  have s0 := B1.cell 0
  have s1 := B1.cell 1
  simp only [List.getElem?_toArray, List.getElem?_cons_zero, List.getElem?_cons_succ] at s0 s1
  have hz1 := hb2.size
  have hF : ∀ w4, Below w1.drew.heap.size w1.drew w4 → (w4.cell? ⟨g, 0, none⟩ = some (.int .i64 kind) ∧ w4.cell? ⟨g, 1, none⟩ = some (.int .i64 size) ∧ w4.cell? ⟨g, 4, none⟩ = some (.pointer (some ⟨gt, 0, none⟩)) ∧ w4.cell? ⟨g, 5, none⟩ = some tp ∧ w4.cell? ⟨g, 6, none⟩ = some (.bool so) ∧ w4.cell? ⟨g, 7, none⟩ = some (.int .i64 ver) ∧ w4.cell? ⟨w.heap.size, 0, none⟩ = some (.int .i64 k2) ∧ w4.cell? ⟨w.heap.size, 1, none⟩ = some (.int .i64 s2)) ∧
      w4.frozen? ⟨g, 0, none⟩ = false ∧ w4.frozen? ⟨g, 1, none⟩ = false ∧ w4.frozen? ⟨g, 4, none⟩ = false ∧ w4.frozen? ⟨g, 5, none⟩ = false ∧ w4.frozen? ⟨g, 6, none⟩ = false ∧ w4.frozen? ⟨g, 7, none⟩ = false := fun w4 hb4 => by
    have E1 := Blk.call (w := w1.drew) C1 hb4
    have E0 := Blk.call (w := w1.drew) B1 hb4
    exact ⟨⟨E1.cell 0, E1.cell 1, E1.cell 4, E1.cell 5, E1.cell 6, E1.cell 7, E0.cell 0, E0.cell 1⟩, E1.frozen 0, E1.frozen 1, E1.frozen 4, E1.frozen 5, E1.frozen 6, E1.frozen 7⟩
  replace hF := Lib.hid hF
  go_wp2_with fail
  apply wp_merge (R := fun W => ChBlk W g k2 s2 ka kb (.pointer (some ⟨w1.heap.size, 0, none⟩)) (.pointer none) false 0 ∧ TurnAt W w.heap.size w1.heap.size false 0 0 [] ∧ Chg (· = g) w W)
  · go_region_with (go_at_call 87; (with_reducible refine (swrr_new2 _).mono ?_); rintro e w4 ⟨rfl, hT4, hb4⟩; obtain ⟨⟨t0, t1, t4, t5, t6, t7, s0, s1⟩, q0, q1, q4, q5, q6, q7⟩ := hF.out w4 hb4)
    all_goals
      have E1 := Blk.call (w := w1.drew) C1 hb4
      have hcc : Chg (· = g) w w4 := (Chg.of_below (F := (· = g)) hb2).drew.trans (Chg.of_below (F := (· = g)) hb4) (fun _ _ h => h)
      have hne : w1.heap.size ≠ g := by omega
      refine ⟨rfl, ?_, ?_, ?_⟩
      · simpa using (((((E1.set_ 0 (.int .i64 k2)).set_ 1 (.int .i64 s2)).set_ 4 (.pointer (some ⟨w1.heap.size, 0, none⟩))).set_ 5 (.pointer none)).set_ 6 (.bool false)).set_ 7 (.int .i64 0)
      · refine turnAt_new ?_ _
        exact (((((Blk.far hT4 (p := ⟨g, 0, none⟩) hne _).far (p := ⟨g, 1, none⟩) hne _).far (p := ⟨g, 4, none⟩) hne _).far (p := ⟨g, 5, none⟩) hne _).far (p := ⟨g, 6, none⟩) hne _).far (p := ⟨g, 7, none⟩) hne _
      · exact (((((hcc.setCell (fun _ => rfl) _).setCell (fun _ => rfl) _).setCell (fun _ => rfl) _).setCell (fun _ => rfl) _).setCell (fun _ => rfl) _).setCell (fun _ => rfl) _
  · clear hF B1 C1 s0 s1
    intro w5 hW5
    obtain ⟨hC, hT, hc⟩ := hW5
    go_wp2_with fail
    go_ret
    exact ⟨rfl, ⟨w1.heap.size, hz1, hC, hT⟩, hc⟩
end Go.Proofs.Ytkpkjpdhlmjchaa
