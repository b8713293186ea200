/- shift: the check of an example. -/
import Derived.Test.YtkpkjpdhlmjchaaShiftY
namespace Go.Proofs.Ytkpkjpdhlmjchaa
open Go Go.RowKit Go.Deep

set_option maxRecDepth 100000 in
set_option maxHeartbeats 4000000 in
theorem awake46 (w : World) : Calls Try.prog 12 #[] w fun e w' => e = .returned (.bool true) ∧ Below w.heap.size w w' := by
  have h1 : ShOk 13 [⟨1, 0, 0, false, 0, 0⟩] [⟨2, 0, 0, false, 0, 0⟩] := ⟨fun _ => .inl rfl, by simp, by simp, fun x hx => by simp at hx; subst hx; simp, fun x hx => by simp at hx; subst hx; simp⟩
  have h2 : ShOk 13 [] [] := ⟨fun _ => .inl rfl, by simp, by simp, fun x hx => by simp at hx, fun x hx => by simp at hx⟩
  have e1 : shE 13 [⟨1, 0, 0, false, 0, 0⟩] [⟨2, 0, 0, false, 0, 0⟩] = 0 := by decide
  have v1 : shV 0 0 13 [⟨1, 0, 0, false, 0, 0⟩] [⟨2, 0, 0, false, 0, 0⟩] = ⟨13, 13, 13, 0⟩ := by
    unfold shV
    rw [e1, if_pos rfl]
    show (⟨13, _, _, _⟩ : Mv) = _
    rw [show (13 : Int).toNat = 13 from rfl]
    simp only [List.map_cons, List.map_nil]
    rw [tableOf_one (.inl rfl) (by decide), tableOf_one (.inl rfl) (by decide)]
    rfl
  have OF := fun W hr ho => shiftof_any 0 0 [⟨1, 0, 0, false, 0, 0⟩] (some ⟨w.heap.size, 0, none⟩) 1 [⟨2, 0, 0, false, 0, 0⟩] (some ⟨w.heap.size + 1, 0, none⟩) 1 0 0 13 W hr ho h1
  rw [e1, v1] at OF
  have DR := fun W => drain_any 0 [] none 0 1 0 0 13 W Reads.none_ h2
  have e2 : drE 13 [] 1 = 13 := by decide
  have v2 : drV 0 0 13 [] 1 = ⟨0, 0, 0, 0⟩ := rfl
  rw [e2, v2] at DR
  have S1 := fun W => share_any 13 13 13 0 W (by omega) (by omega)
  have S2 := fun W => share_any 0 0 0 0 W (by omega) (by omega)
  have s1 : shareI 13 13 = 1000 := by decide
  have s2 : shareI 0 0 = 0 := by decide
  rw [s1] at S1
  rw [s2] at S2
  obtain ⟨w0, hw0⟩ : ∃ w0, w0 = (w.alloc (.cells #[.int .i64 1, .int .i64 0, .int .i64 0, .bool false, .int .u64 0, .int .u64 0] 47)).alloc (.cells #[.int .i64 2, .int .i64 0, .int .i64 0, .bool false, .int .u64 0, .int .u64 0] 47) := ⟨_, rfl⟩
  have hb0 : Below w.heap.size w w0 := hw0 ▸ below_alloc (below_alloc (Below.refl _ _) _) _
  have r1 : Reads w0 w0.heap.size 6 (some ⟨w.heap.size, 0, none⟩) 1 ([⟨1, 0, 0, false, 0, 0⟩].flatMap Bk.cells) := by
    rw [hw0]
    exact ((lits_read w (w.heap.size + 1) 6 1 47 [.int .i64 1, .int .i64 0, .int .i64 0, .bool false, .int .u64 0, .int .u64 0] rfl (by omega)).alloc (by simp) _).more (by simp)
  have r2 : Reads w0 w0.heap.size 6 (some ⟨w.heap.size + 1, 0, none⟩) 1 ([⟨2, 0, 0, false, 0, 0⟩].flatMap Bk.cells) := by
    rw [hw0]
    have := lits_read (w.alloc (.cells #[.int .i64 1, .int .i64 0, .int .i64 0, .bool false, .int .u64 0, .int .u64 0] 47)) (w.heap.size + 1 + 1) 6 1 47 [.int .i64 2, .int .i64 0, .int .i64 0, .bool false, .int .u64 0, .int .u64 0] rfl (by simp)
    simp only [World.size_alloc] at this ⊢
    exact this
  replace OF := Lib.hid (OF w0 r1 r2)
  replace DR := Lib.hid DR
  replace S1 := Lib.hid S1
  replace S2 := Lib.hid S2
  clear h1 h2 e1 v1 e2 v2 s1 s2 r1 r2
  go_enter Try.func12, Try.ntmps12
  go_wp2_with fail
  rw [← hw0]
  clear hw0
  refine OF.out.mono ?_
  rintro e w1 ⟨rfl, hb1⟩
  have X1 := Blk.new w1 31 (mvArr 13 13 13 0)
  have hbA := below_alloc (below_chain hb1 hb0) (.cells (mvArr 13 13 13 0) 31)
  clear hb1 hb0 OF
  go_wp2_with fail
  generalize w1.alloc (.cells (mvArr 13 13 13 0) 31) = w2 at *
  generalize w1.heap.size = g1 at *
  refine (DR.out _).mono ?_
  rintro e w3 ⟨rfl, hb3⟩
  have X2 := (X1.call hb3).alloc (.cells (mvArr 0 0 0 0) 31)
  have hbB := below_alloc (below_chain hb3 hbA) (.cells (mvArr 0 0 0 0) 31)
  clear X1 hb3 hbA DR
  obtain ⟨⟨b0, b1, b2, b3⟩, -⟩ := X2.four
  go_wp2_with fail
  refine (S1.out _).mono ?_
  rintro e w4 ⟨rfl, hb4⟩
  have hbC := below_chain hb4 hbB
  clear b0 b1 b2 b3 X2 hbB hb4
  go_wp2_with fail
  refine (S2.out _).mono ?_
  rintro e w5 ⟨rfl, hb5⟩
  have hbD := below_chain hb5 hbC
  clear hbC hb5
  go_wp2_with fail
  go_ret
  exact ⟨rfl, hbD⟩

end Go.Proofs.Ytkpkjpdhlmjchaa
