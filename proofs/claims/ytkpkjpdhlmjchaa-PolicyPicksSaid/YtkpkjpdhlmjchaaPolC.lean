/- policy: New. -/
import Derived.Test.YtkpkjpdhlmjchaaPolB
namespace Go.Proofs.Ytkpkjpdhlmjchaa
open Go Go.RowKit Go.Deep

set_option maxRecDepth 100000 in
set_option maxHeartbeats 8000000 in
theorem polnew_ok (k2 s2 ka kb : Int) (w : World) (hp : polOk k2 s2 = true) :
    Calls Try.prog 40 #[.agg #[.int .i64 k2, .int .i64 s2], .agg #[.int .u64 ka, .int .u64 kb]] w fun e w' => (∃ gc gn, e = .returned (.tuple #[.pointer (some ⟨gc, 0, none⟩), .int .i64 0]) ∧ w.heap.size ≤ gc ∧ w.heap.size ≤ gn ∧ ChBlk w' gc k2 s2 ka kb (.pointer (some ⟨gn, 0, none⟩)) (.pointer none) false 0 ∧ TurnAt w' w.heap.size gn false 0 0 []) ∧ Below w.heap.size w w' := by
  obtain ⟨w0, hw0⟩ : ∃ w0, w0 = (w.alloc (.cells #[.int .i64 k2, .int .i64 s2] 88)).alloc (.cells #[.int .u64 ka, .int .u64 kb] 25) := ⟨_, rfl⟩
  have hb0 : Below w.heap.size w w0 := hw0 ▸ below_alloc (below_alloc (Below.refl _ _) _) _
  have P0 : Blk w0 w.heap.size 88 #[.int .i64 k2, .int .i64 s2] := hw0 ▸ (Blk.new w _ _).alloc _
  have K0 : Blk w0 (w.heap.size + 1) 25 #[.int .u64 ka, .int .u64 kb] := by
    have := Blk.new (w.alloc (.cells #[.int .i64 k2, .int .i64 s2] 88)) 25 #[.int .u64 ka, .int .u64 kb]
    rw [← hw0] at this
    simpa using this
  have k0 := K0.cell 0
  have k1 := K0.cell 1
  have p0 := P0.cell 0
  have p1 := P0.cell 1
  simp only [List.getElem?_toArray, List.getElem?_cons_zero, List.getElem?_cons_succ] at k0 k1 p0 p1
  have hst : ∀ W W1, Below W.heap.size W W1 → (Below w0.heap.size w0 W ∧ W.cell? ⟨w.heap.size, 0, none⟩ = some (.int .i64 k2) ∧ W.cell? ⟨w.heap.size, 1, none⟩ = some (.int .i64 s2) ∧ W.cell? ⟨w.heap.size + 1, 0, none⟩ = some (.int .u64 ka) ∧ W.cell? ⟨w.heap.size + 1, 1, none⟩ = some (.int .u64 kb)) →
      (Below w0.heap.size w0 W1 ∧ W1.cell? ⟨w.heap.size, 0, none⟩ = some (.int .i64 k2) ∧ W1.cell? ⟨w.heap.size, 1, none⟩ = some (.int .i64 s2) ∧ W1.cell? ⟨w.heap.size + 1, 0, none⟩ = some (.int .u64 ka) ∧ W1.cell? ⟨w.heap.size + 1, 1, none⟩ = some (.int .u64 kb)) := by
    intro W W1 hb h
    obtain ⟨h0, h1, h2, h3, h4⟩ := h
    exact ⟨below_chain hb h0, (hb.cell (block_lt_of_cell h1)).trans h1, (hb.cell (block_lt_of_cell h2)).trans h2, (hb.cell (block_lt_of_cell h3)).trans h3, (hb.cell (block_lt_of_cell h4)).trans h4⟩
  replace hst := Lib.hid hst
  have hsz0 := hb0.size
  go_enter Try.func40, Try.ntmps40
  go_wp2_with fail
  rw [← hw0]
  clear hw0 P0 K0
  go_region_held3 (fun W => Below w0.heap.size w0 W ∧ W.cell? ⟨w.heap.size, 0, none⟩ = some (.int .i64 k2) ∧ W.cell? ⟨w.heap.size, 1, none⟩ = some (.int .i64 s2) ∧ W.cell? ⟨w.heap.size + 1, 0, none⟩ = some (.int .u64 ka) ∧ W.cell? ⟨w.heap.size + 1, 1, none⟩ = some (.int .u64 kb)) ((first | assumption | exact hst.out _ _ (below_alloc (Below.refl _ _) _) (by assumption) | ((refine ⟨?_, ?_⟩; (first | assumption | exact (Below.refl _ _).drew | exact Below.refl _ _); go_keep)))) (first
    | (go_at_call 87; (with_reducible refine (swrr_new2 _).mono ?_); rintro e w4 ⟨rfl, hT4, hb4⟩; have hS := hst.out _ _ hb4 (by assumption)))
  all_goals
    have C5 : ChBlk (w4.alloc (.cells (chArr 0 0 ka kb (.pointer (some ⟨w0.heap.size, 0, none⟩)) (.pointer none) false 0) 149)) w4.heap.size 0 0 ka kb (.pointer (some ⟨w0.heap.size, 0, none⟩)) (.pointer none) false 0 := Blk.new w4 _ _
    have hb5 := below_alloc (below_chain hS.1 hb0) (.cells (chArr 0 0 ka kb (.pointer (some ⟨w0.heap.size, 0, none⟩)) (.pointer none) false 0) 149)
    have hge : w.heap.size ≤ w4.heap.size := (below_chain hS.1 hb0).size
    obtain ⟨-, p0', p1', -, -⟩ := hst.out _ _ (below_alloc (Below.refl _ _) (.cells (chArr 0 0 ka kb (.pointer (some ⟨w0.heap.size, 0, none⟩)) (.pointer none) false 0) 149)) hS
    replace C5 := Lib.hid C5
    replace hb5 := Lib.hid hb5
    clear hT4 hb4 hS k0 k1 p0 p1 hb0
    generalize w4.alloc (.cells (chArr 0 0 ka kb (.pointer (some ⟨w0.heap.size, 0, none⟩)) (.pointer none) false 0) 149) = w6 at *
    go_wp2_with fail
    refine (polset_ok k2 s2 C5.out hp).mono ?_
    rintro e w7 ⟨rfl, ⟨gn, hgn, hC, hT⟩, hc⟩
    have hb7 := below_chg hb5.out hc (fun b' hb' e => by omega) hb5.out.size
    have hz6 := hb5.out.size
    have hT2 := hT.mono (show w.heap.size ≤ w6.heap.size by omega)
    replace hC := Lib.hid hC
    replace hT2 := Lib.hid hT2
    clear C5 hb5 hT hc p0' p1' hst
    go_wp2_with fail
    go_ret2
    exact ⟨⟨_, gn, rfl, hge, by omega, hC.out, hT2.out⟩, hb7⟩
set_option maxRecDepth 100000 in
set_option maxHeartbeats 8000000 in
theorem polnew_bad (k2 s2 ka kb : Int) (w : World) (hp : polOk k2 s2 = false) :
    Calls Try.prog 40 #[.agg #[.int .i64 k2, .int .i64 s2], .agg #[.int .u64 ka, .int .u64 kb]] w fun e w' => e = .returned (.tuple #[.pointer none, .int .i64 1]) ∧ Below w.heap.size w w' := by
  obtain ⟨w0, hw0⟩ : ∃ w0, w0 = (w.alloc (.cells #[.int .i64 k2, .int .i64 s2] 88)).alloc (.cells #[.int .u64 ka, .int .u64 kb] 25) := ⟨_, rfl⟩
  have hb0 : Below w.heap.size w w0 := hw0 ▸ below_alloc (below_alloc (Below.refl _ _) _) _
  have P0 : Blk w0 w.heap.size 88 #[.int .i64 k2, .int .i64 s2] := hw0 ▸ (Blk.new w _ _).alloc _
  have K0 : Blk w0 (w.heap.size + 1) 25 #[.int .u64 ka, .int .u64 kb] := by
    have := Blk.new (w.alloc (.cells #[.int .i64 k2, .int .i64 s2] 88)) 25 #[.int .u64 ka, .int .u64 kb]
    rw [← hw0] at this
    simpa using this
  have k0 := K0.cell 0
  have k1 := K0.cell 1
  have p0 := P0.cell 0
  have p1 := P0.cell 1
  simp only [List.getElem?_toArray, List.getElem?_cons_zero, List.getElem?_cons_succ] at k0 k1 p0 p1
  have hst : ∀ W W1, Below W.heap.size W W1 → (Below w0.heap.size w0 W ∧ W.cell? ⟨w.heap.size, 0, none⟩ = some (.int .i64 k2) ∧ W.cell? ⟨w.heap.size, 1, none⟩ = some (.int .i64 s2) ∧ W.cell? ⟨w.heap.size + 1, 0, none⟩ = some (.int .u64 ka) ∧ W.cell? ⟨w.heap.size + 1, 1, none⟩ = some (.int .u64 kb)) →
      (Below w0.heap.size w0 W1 ∧ W1.cell? ⟨w.heap.size, 0, none⟩ = some (.int .i64 k2) ∧ W1.cell? ⟨w.heap.size, 1, none⟩ = some (.int .i64 s2) ∧ W1.cell? ⟨w.heap.size + 1, 0, none⟩ = some (.int .u64 ka) ∧ W1.cell? ⟨w.heap.size + 1, 1, none⟩ = some (.int .u64 kb)) := by
    intro W W1 hb h
    obtain ⟨h0, h1, h2, h3, h4⟩ := h
    exact ⟨below_chain hb h0, (hb.cell (block_lt_of_cell h1)).trans h1, (hb.cell (block_lt_of_cell h2)).trans h2, (hb.cell (block_lt_of_cell h3)).trans h3, (hb.cell (block_lt_of_cell h4)).trans h4⟩
  replace hst := Lib.hid hst
  have hsz0 := hb0.size
  go_enter Try.func40, Try.ntmps40
  go_wp2_with fail
  rw [← hw0]
  clear hw0 P0 K0
  go_region_held3 (fun W => Below w0.heap.size w0 W ∧ W.cell? ⟨w.heap.size, 0, none⟩ = some (.int .i64 k2) ∧ W.cell? ⟨w.heap.size, 1, none⟩ = some (.int .i64 s2) ∧ W.cell? ⟨w.heap.size + 1, 0, none⟩ = some (.int .u64 ka) ∧ W.cell? ⟨w.heap.size + 1, 1, none⟩ = some (.int .u64 kb)) ((first | assumption | exact hst.out _ _ (below_alloc (Below.refl _ _) _) (by assumption) | ((refine ⟨?_, ?_⟩; (first | assumption | exact (Below.refl _ _).drew | exact Below.refl _ _); go_keep)))) (first
    | (go_at_call 87; (with_reducible refine (swrr_new2 _).mono ?_); rintro e w4 ⟨rfl, hT4, hb4⟩; have hS := hst.out _ _ hb4 (by assumption)))
  all_goals
    have C5 : ChBlk (w4.alloc (.cells (chArr 0 0 ka kb (.pointer (some ⟨w0.heap.size, 0, none⟩)) (.pointer none) false 0) 149)) w4.heap.size 0 0 ka kb (.pointer (some ⟨w0.heap.size, 0, none⟩)) (.pointer none) false 0 := Blk.new w4 _ _
    have hb5 := below_alloc (below_chain hS.1 hb0) (.cells (chArr 0 0 ka kb (.pointer (some ⟨w0.heap.size, 0, none⟩)) (.pointer none) false 0) 149)
    have hge : w.heap.size ≤ w4.heap.size := (below_chain hS.1 hb0).size
    obtain ⟨-, p0', p1', -, -⟩ := hst.out _ _ (below_alloc (Below.refl _ _) (.cells (chArr 0 0 ka kb (.pointer (some ⟨w0.heap.size, 0, none⟩)) (.pointer none) false 0) 149)) hS
    replace C5 := Lib.hid C5
    replace hb5 := Lib.hid hb5
    clear hT4 hb4 hS k0 k1 p0 p1 hb0
    generalize w4.alloc (.cells (chArr 0 0 ka kb (.pointer (some ⟨w0.heap.size, 0, none⟩)) (.pointer none) false 0) 149) = w6 at *
    go_wp2_with fail
    refine (polset_bad k2 s2 C5.out hp).mono ?_
    rintro e w7 ⟨rfl, hb7⟩
    have hb8 := below_chain hb7 hb5.out
    clear C5 hb5 hb7 p0' p1' hst
    go_wp2_with fail
    go_ret2
    exact ⟨rfl, hb8⟩
end Go.Proofs.Ytkpkjpdhlmjchaa
