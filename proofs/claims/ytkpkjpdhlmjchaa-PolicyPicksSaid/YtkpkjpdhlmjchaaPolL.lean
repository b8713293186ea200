/- policy: the law's right; the document's chooser of no backends. -/
import Derived.Test.YtkpkjpdhlmjchaaPolK
import Derived.Test.YtkpkjpdhlmjchaaTwoG
namespace Go.Proofs.Ytkpkjpdhlmjchaa
open Go Go.RowKit Go.Deep

set_option maxRecDepth 100000 in
set_option maxHeartbeats 8000000 in
theorem law30_right (l : List Bk) (A : Option Addr) (c : Nat) (w : World) (hr : Reads w w.heap.size 6 A l.length (l.flatMap Bk.cells)) (hl : l.length ≤ 9223372036854775807) :
    Calls Try.prog 43 #[.slice A l.length c] w (LawR 13 l w) := by
  have R := Lib.hid (ref24_right l A c w hr hl)
  go_enter Try.func43, Try.ntmps43
  go_wp2_with fail
  go_loop [3] (fun i => ∃ k : Nat, k ≤ l.length ∧ k ≤ 13 ∧ i = .int .i64 (k : Nat) ∧ ∀ j, j < k → ∀ b, l[j]? = some b → 1 ≤ b.w) (fun i => l.length - (intOf i).toNat)
  case atStart => exact ⟨0, by omega, by omega, rfl, fun j hj => absurd hj (by omega)⟩
  case round =>
    obtain ⟨k, hk, hk13, rfl, hall⟩ := hrel
    replace hall := Lib.hid hall
    by_cases hlt : k < l.length
    · have hlti : decide ((k : Int) < (l.length : Int)) = true := by simp; omega
      by_cases h13 : k < 13
      · have h13i : decide ((k : Int) < 13) = true := by simp; omega
        obtain ⟨ad, x, rfl, hbl, hx, c0, c1, -⟩ := bk_at hr hlt
        have hki : (k : Int) < (l.length : Int) := by omega
        by_cases hw : x.w < 1
        · have d : decide (x.w < 1) = true := by simpa using hw
          replace hx := Lib.hid hx
          clear hr R
          go_wp2_with fail
          go_ret
          exact ⟨false, 0, rfl, rfl, by simp⟩
        · have d : decide (x.w < 1) = false := by simpa using hw
          replace hx := Lib.hid hx
          replace hw := Lib.hid hw
          clear hr R
          go_wp2_with fail
          go_round
          case rel => exact ⟨k + 1, by omega, by omega, by go_num, fun j hj b hb => by
            rcases Nat.lt_succ_iff_lt_or_eq.1 hj with h | rfl
            · exact hall.out j h b hb
            · have := hx.out; rw [hb] at this; cases this; have := hw.out; omega⟩
          case measure => simp [intOf]; omega
      · have h13i : decide ((k : Int) < 13) = false := by simp; omega
        have hle : decide ((l.length : Int) ≤ 13) = false := by simp; omega
        clear hr R
        go_wp2_with fail
        go_ret
        exact ⟨false, 0, rfl, rfl, by simp⟩
    · obtain rfl : k = l.length := by omega
      have hlti : decide ((l.length : Int) < (l.length : Int)) = false := by simp
      have hle : decide ((l.length : Int) ≤ 13) = true := by simp; omega
      clear hr
      go_wp2_with (go_at_call 10; (with_reducible refine R.out.mono ?_); rintro e w1 ⟨r, n, rfl, rfl, hR⟩; replace hR := Lib.hid hR)
      go_ret
      refine ⟨r, n, rfl, rfl, fun h => ⟨by omega, hR.out h, fun b hb => ?_⟩⟩
      obtain ⟨j, hj, rfl⟩ := List.getElem_of_mem hb
      exact hall.out j hj _ (List.getElem?_eq_getElem hj)
set_option maxRecDepth 100000 in
set_option maxHeartbeats 8000000 in
theorem refpolhash_none (pc : Value) (v1 : Int) (A : Option Addr) (c : Nat) (t : Tup) (w : World) :
    Calls Try.prog 46 #[pc, .int .i64 v1, .slice A 0 c, t.val] w fun e w' => e = .returned (.tuple #[.int .i64 0, .int .i64 8]) ∧ Below w.heap.size w w' := by
  have hb0 : Below w.heap.size w (w.alloc (.cells t.cells.toArray 82)) := below_alloc (Below.refl _ _) _
  obtain ⟨t1, t2, t3, t4, t5, t6, t7, t8, t9⟩ := t
  unfold Tup.val at *
  dsimp only at *
  go_enter Try.func46, Try.ntmps46
  go_wp2_with fail
  go_ret2
  exact ⟨rfl, hb0⟩
set_option maxRecDepth 100000 in
set_option maxHeartbeats 8000000 in
theorem refpolpick_none (pc : Value) (v1 : Int) (A : Option Addr) (c : Nat) (t : Tup) (lv : Value) (x y : Int) (w : World) :
    Calls Try.prog 49 #[pc, .int .i64 v1, .slice A 0 c, lv, t.val, .int .u64 x, .int .u64 y] w fun e w' => e = .returned (.tuple #[.int .i64 0, .int .i64 8]) ∧ Below w.heap.size w w' := by
  have hb0 : Below w.heap.size w (w.alloc (.cells t.cells.toArray 82)) := below_alloc (Below.refl _ _) _
  obtain ⟨t1, t2, t3, t4, t5, t6, t7, t8, t9⟩ := t
  unfold Tup.val at *
  dsimp only at *
  go_enter Try.func49, Try.ntmps49
  go_wp2_with fail
  go_ret2
  exact ⟨rfl, hb0⟩
end Go.Proofs.Ytkpkjpdhlmjchaa
