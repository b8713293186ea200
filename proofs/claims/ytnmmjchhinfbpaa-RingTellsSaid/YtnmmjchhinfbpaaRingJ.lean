/- ring: the document's bytes of a point; its order of points. -/
import Derived.Test.YtnmmjchhinfbpaaRingU
namespace Go.Proofs.Ytnmmjchhinfbpaa
open Go Go.RowKit Go.Deep

theorem u8_mod (x y : Nat) (h : x % 256 = y % 256) : UInt8.ofNat x = UInt8.ofNat y := by
  apply UInt8.toNat_inj.1
  simp only [UInt8.toNat_ofNat']
  exact h
theorem octB_join (a b : Nat) (hb : b < 65536) : octB (a * 65536 + b) 4 = octB a 2 ++ octB b 2 := by
  unfold octB octAt
  simp only [List.range_succ, List.range_zero, List.map_cons, List.map_nil, List.nil_append, List.cons_append]
  simp only [List.cons.injEq, and_true]
  refine ⟨u8_mod _ _ ?_, u8_mod _ _ ?_, u8_mod _ _ ?_, u8_mod _ _ ?_⟩ <;> simp <;> omega
/-- The document's cells of a point. -/
abbrev qcell (x : Pt) : List Value := [.int .u64 x.2, .int .i64 x.1]
theorem qcell_one (x : Pt) : ∀ u ∈ qcell x, u.oneCell' = true := by
  intro u hu
  simp at hu
  rcases hu with rfl | rfl <;> rfl
set_option maxHeartbeats 2000000 in
theorem refless51 (x y : Pt) (w : World) : Calls Try.prog 42 #[.agg #[.int .u64 x.2, .int .i64 x.1], .agg #[.int .u64 y.2, .int .i64 y.1]] w fun e w' => e = .returned (.bool (ptLt x y)) ∧ Below w.heap.size w w' := by
  obtain ⟨xi, xa⟩ := x
  obtain ⟨yi, ya⟩ := y
  unfold ptLt
  dsimp only
  have hb := below_alloc (below_alloc (Below.refl w.heap.size w) (.cells #[.int .u64 xa, .int .i64 xi] 88)) (.cells #[.int .u64 ya, .int .i64 yi] 88)
  by_cases h1 : xa < ya
  · have d1 : decide (xa < ya) = true := by simpa using h1
    rw [decide_eq_true (show xa < ya ∨ xa = ya ∧ xi < yi from .inl h1)]
    replace h1 := Lib.hid h1
    go_enter Try.func42, Try.ntmps42
    go_wp2_with fail
    go_ret
    exact ⟨rfl, hb⟩
  · have d1 : decide (xa < ya) = false := by simpa using h1
    by_cases h2 : xa = ya
    · have d2 : (xa == ya) = true := by simpa using h2
      have e : decide (xa < ya ∨ xa = ya ∧ xi < yi) = decide (xi < yi) := by simp [h2]
      rw [e]
      replace h1 := Lib.hid h1
      replace h2 := Lib.hid h2
      clear e
      go_enter Try.func42, Try.ntmps42
      go_wp2_with fail
      go_ret
      exact ⟨rfl, hb⟩
    · have d2 : (xa == ya) = false := by simpa using h2
      rw [decide_eq_false (show ¬ (xa < ya ∨ xa = ya ∧ xi < yi) by omega)]
      replace h1 := Lib.hid h1
      replace h2 := Lib.hid h2
      go_enter Try.func42, Try.ntmps42
      go_wp2_with fail
      go_ret
      exact ⟨rfl, hb⟩
end Go.Proofs.Ytnmmjchhinfbpaa
