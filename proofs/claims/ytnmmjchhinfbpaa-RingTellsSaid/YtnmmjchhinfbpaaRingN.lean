/- ring: the document's Pick. -/
import Derived.Test.YtnmmjchhinfbpaaRingM
namespace Go.Proofs.Ytnmmjchhinfbpaa
open Go Go.RowKit Go.Deep

set_option maxRecDepth 100000 in
set_option maxHeartbeats 4000000 in
theorem refpick51 (P : List Pt) (A : Option Addr) (c : Nat) (ka kb : Int) (t : Tup) (w : World) (hr : Reads w w.heap.size 2 A P.length (P.flatMap qcell)) (h0 : 0 < P.length) (hl : P.length ≤ 65536)
    (x1 : t.hi < 18446744073709551616) (x2 : t.lo < 18446744073709551616) (x3 : t.hi' < 18446744073709551616) (x4 : t.lo' < 18446744073709551616) :
    Calls Try.prog 15 #[.slice A P.length c, .agg #[.int .u64 ka, .int .u64 kb], t.val] w fun e w' => e = .returned (.int .i64 (ownP P (sipHash ka kb ⟨(tupPut t).toArray⟩)).1) ∧ Below w.heap.size w w' := by
  obtain ⟨w0, hw0⟩ : ∃ w0, w0 = (w.alloc (.cells #[.int .u64 ka, .int .u64 kb] 25)).alloc (.cells t.cells.toArray 29) := ⟨_, rfl⟩
  have hb0 : Below w.heap.size w w0 := hw0 ▸ below_alloc (below_alloc (Below.refl _ _) _) _
  have K0 : Blk w0 w.heap.size 25 #[.int .u64 ka, .int .u64 kb] := hw0 ▸ (Blk.new w _ _).alloc _
  have B1 : Blk w0 (w.heap.size + 1) 29 t.cells.toArray := by
    have := Blk.new (w.alloc (.cells #[.int .u64 ka, .int .u64 kb] 25)) 29 t.cells.toArray
    rw [← hw0] at this
    simpa using this
  have S1 := fun W => refhash_any ka kb ⟨(tupPut t).toArray⟩ W (by have := tupPut_len t; simp [ByteArray.size]; omega)
  have T := fun W => reftuple_put t W x1 x2 x3 x4
  generalize sipHash ka kb ⟨(tupPut t).toArray⟩ = n at *
  have AT := fun W (hb : Below w0.heap.size w0 W) => refat51 P A c n W ((hr.below (below_chain hb hb0)).more (below_chain hb hb0).size) h0 hl
  obtain ⟨r, hrr⟩ : ∃ r, (ownP P n).1 = r := ⟨_, rfl⟩
  rw [hrr] at AT ⊢
  have p0 := K0.cell 0
  have p1 := K0.cell 1
  obtain ⟨tp, v, hi, lo, v', hi', lo', sp, dp⟩ := t
  unfold Tup.val at *
  have c0 := B1.cell 0
  have c1 := B1.cell 1
  have c2 := B1.cell 2
  have c3 := B1.cell 3
  have c4 := B1.cell 4
  have c5 := B1.cell 5
  have c6 := B1.cell 6
  have c7 := B1.cell 7
  have c8 := B1.cell 8
  dsimp only at *
  simp only [List.getElem?_toArray, List.getElem?_cons_zero, List.getElem?_cons_succ] at c0 c1 c2 c3 c4 c5 c6 c7 c8 p0 p1
  generalize (⟨(tupPut _).toArray⟩ : ByteArray) = z at *
  replace S1 := Lib.hid S1
  replace T := Lib.hid T
  replace AT := Lib.hid AT
  replace hrr := Lib.hid hrr
  clear K0 B1 hr x1 x2 x3 x4
  go_enter Try.func15, Try.ntmps15
  go_wp2_with fail
  rw [← hw0]
  clear hw0
  go_region_held3 (fun w' => Below w0.heap.size w0 w' ∧ w'.cell? ⟨w.heap.size, 0, none⟩ = some (.int .u64 ka) ∧ w'.cell? ⟨w.heap.size, 1, none⟩ = some (.int .u64 kb) ∧ w'.cell? ⟨w.heap.size + 1, 0, none⟩ = some (.int .i64 tp) ∧ w'.cell? ⟨w.heap.size + 1, 1, none⟩ = some (.bool v) ∧ w'.cell? ⟨w.heap.size + 1, 2, none⟩ = some (.int .u64 hi) ∧ w'.cell? ⟨w.heap.size + 1, 3, none⟩ = some (.int .u64 lo) ∧ w'.cell? ⟨w.heap.size + 1, 4, none⟩ = some (.bool v') ∧ w'.cell? ⟨w.heap.size + 1, 5, none⟩ = some (.int .u64 hi') ∧ w'.cell? ⟨w.heap.size + 1, 6, none⟩ = some (.int .u64 lo') ∧ w'.cell? ⟨w.heap.size + 1, 7, none⟩ = some (.int .i64 sp) ∧ w'.cell? ⟨w.heap.size + 1, 8, none⟩ = some (.int .i64 dp)) ((first | assumption | ((refine ⟨?_, ?_⟩; (first | assumption | exact (Below.refl _ _).drew | exact Below.refl _ _); go_keep)))) (first
    | (go_at_call 43; (with_reducible refine (T.out _).mono ?_); rintro e w2 ⟨rfl, hb2⟩; have hS := hold11 (by assumption) hb2)
    | (go_at_call 34; (with_reducible refine (S1.out _).mono ?_); rintro e w2 ⟨rfl, hb2⟩; have hS := hold11 (by assumption) hb2)
    | (go_at_call 14; (with_reducible refine (AT.out _ (And.left (by assumption))).mono ?_); rintro e w2 ⟨rfl, hb2⟩; have hS := hold11 (by assumption) hb2))
  all_goals
    go_wp2_with fail
    go_ret
    exact ⟨rfl, below_chain (by exact hS.1) hb0⟩
end Go.Proofs.Ytnmmjchhinfbpaa
