/- wheel: Go. -/
import Derived.Test.YtfpepgeaaadpdaaWheelJ
import Derived.Deep.CutRange
import Derived.Deep.CutBlock
namespace Go.Proofs.Ytfpepgeaaadpdaa
open Go Go.RowKit Go.Deep Go.Maps Go.ChangeMaps

theorem wheel_go_nil (nw : Int) (w : World) : Calls Try.prog 14 #[.pointer none, .int .i64 nw] w fun e w' => e = .returned (.tuple #[.slice none 0 0, .int .i64 1]) ∧ Below w.heap.size w w' := by
  go_enter Try.func14, Try.ntmps14
  go_wp2_with fail
  refine (wheel_given_nil _).mono ?_
  rintro e w1 ⟨rfl, rfl⟩
  go_wp2_with fail
  go_ret2
  exact ⟨rfl, below_alloc (Below.refl _ _) _⟩
theorem wheel_go_plain {Z : Array Value} {g : Nat} {w : World} (nw : Int) (h : Blk w g 50 Z) (hz : Z[0]? = some (.int .i64 0)) : Calls Try.prog 14 #[.pointer (some ⟨g, 0, none⟩), .int .i64 nw] w fun e w' => e = .returned (.tuple #[.slice none 0 0, .int .i64 1]) ∧ Below w.heap.size w w' := by
  have GV := Lib.hid fun o => wheel_given_plain (h.alloc o) hz
  clear h hz
  go_enter Try.func14, Try.ntmps14
  go_wp2_with fail
  refine (GV.out _).mono ?_
  rintro e w1 ⟨rfl, rfl⟩
  go_wp2_with fail
  go_ret2
  exact ⟨rfl, below_alloc (Below.refl _ _) _⟩
section
variable {w : World} {base g bm : Nat} {G now : Int} {M : LM} {R : Nat → List Int} {A : Nat → Option Addr} {C : Nat → Nat} {T : Nat → Int} {Z : Array Value}
theorem wheel_go_no (h : WhAt w base g bm G now M R A C T Z) (hG : 0 < G) (nw : Int) (hb : nw < now ∨ 1099511627776 < nw) : Calls Try.prog 14 #[.pointer (some ⟨g, 0, none⟩), .int .i64 nw] w fun e w' => e = .returned (.tuple #[.slice none 0 0, .int .i64 15]) ∧ Below w.heap.size w w' := by
  have hw := h.call (below_alloc (Below.refl w.heap.size w) (.cells #[.pointer (some ⟨g, 0, none⟩)] 24))
  have GV := Lib.hid (wheel_given hw hG)
  have c1 := hw.cell hw.z1
  clear hw h
  by_cases h1 : nw < now
  · have d1 : decide (nw < now) = true := by simpa using h1
    clear hb
    go_enter Try.func14, Try.ntmps14
    go_wp2_with fail
    refine GV.out.mono ?_
    rintro e w1 ⟨rfl, rfl⟩
    go_wp2_with fail
    go_ret2
    exact ⟨rfl, below_alloc (Below.refl _ _) _⟩
  · have d1 : decide (nw < now) = false := by simpa using h1
    have h2 : 1099511627776 < nw := by omega
    have d2 : decide (1099511627776 < nw) = true := by simpa using h2
    clear hb
    go_enter Try.func14, Try.ntmps14
    go_wp2_with fail
    refine GV.out.mono ?_
    rintro e w1 ⟨rfl, rfl⟩
    go_wp2_with fail
    go_ret2
    exact ⟨rfl, below_alloc (Below.refl _ _) _⟩
end
end Go.Proofs.Ytfpepgeaaadpdaa
