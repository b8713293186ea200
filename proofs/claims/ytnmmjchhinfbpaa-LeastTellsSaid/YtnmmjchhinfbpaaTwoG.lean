/- the sets of backends that a law speaks of. -/
import Derived.Test.YtnmmjchhinfbpaaTwo
namespace Go.Proofs.Ytnmmjchhinfbpaa
open Go Go.RowKit Go.Deep

def bkAt (l : List Bk) (k : Nat) : Prop := ∀ b, l[k]? = some b → 1 ≤ b.id ∧ b.id ≤ 65535 ∧ 0 ≤ b.w ∧ b.w ≤ 1000 ∧ (0 < k → ∀ a, l[k - 1]? = some a → a.id < b.id)
def bkRight (l : List Bk) : Prop := l.length ≤ 64 ∧ ∀ k, bkAt l k
def RightR (l : List Bk) (w : World) (e : Ending) (w' : World) : Prop := ∃ r n, e = .returned (.bool r) ∧ w' = w.drewN n ∧ (r = true → bkRight l)

set_option maxRecDepth 100000 in
set_option maxHeartbeats 8000000 in
theorem ref24_right (l : List Bk) (A : Option Addr) (c : Nat) (w : World) (hr : Reads w w.heap.size 6 A l.length (l.flatMap Bk.cells)) (hl : l.length ≤ 9223372036854775807) :
    Calls Try.prog 6 #[.slice A l.length c] w (RightR l w) := by
  go_enter Try.func6, Try.ntmps6
  go_wp2_with fail
  go_loopw [3] (fun i wr => ∃ (k n : Nat), k ≤ l.length ∧ i = .int .i64 (k : Nat) ∧ wr = w.drewN n ∧ ∀ j, j < k → bkAt l j) (fun i _ => l.length - (intOf i).toNat)
  case atStart => exact ⟨0, 0, by omega, rfl, rfl, fun j hj => absurd hj (by omega)⟩
  case round =>
    obtain ⟨k, n, hk, rfl, rfl, hall⟩ := hrel
    replace hall := Lib.hid hall
    by_cases hlt : k < l.length
    · have hlti : (k : Int) < (l.length : Int) := by omega
      have hrv : Reads (w.drewN n) (w.drewN n).heap.size 6 A l.length (l.flatMap Bk.cells) := hr
      obtain ⟨W, hW⟩ : ∃ W, w.drewN n = W := ⟨_, rfl⟩
      rw [hW] at hrv ⊢
      replace hW := Lib.hid hW
      obtain ⟨ad, x, rfl, hbl, hx, c0, c1, -⟩ := bk_at hrv hlt
      have hok : 1 ≤ x.id → x.id ≤ 65535 → 0 ≤ x.w → x.w ≤ 1000 → (0 < k → ∀ a, l[k - 1]? = some a → a.id < x.id) → bkAt l k := fun a1 a2 a3 a4 a5 b hb => by
        rw [hx] at hb; cases hb; exact ⟨a1, a2, a3, a4, a5⟩
      replace hok := Lib.hid hok
      obtain ⟨xi, xw, xs, xv, xh, xo⟩ := x
      dsimp only at *
      by_cases hk0 : k = 0
      · have e0 : decide ((0 : Int) < (k : Int)) = false := by simp; omega
        have e0n : decide (0 < k) = false := by simp; omega
        have e0m : ¬ 0 < k := by omega
        replace hx := Lib.hid hx
        replace hk0 := Lib.hid hk0
        by_cases h0 : xi < 1
        · have d0 : decide (xi < 1) = true := by simpa using h0
          clear hr hrv
          go_wp2_with fail
          go_quiet (fail)
          go_wp2_with fail
          go_ret
          exact ⟨false, _, rfl, by rw [← hW.out]; exact World.drewN_drewN _ _ _, by simp⟩
        · have d0 : decide (xi < 1) = false := by simpa using h0
          by_cases h1 : 65535 < xi
          · have d1 : decide (65535 < xi) = true := by simpa using h1
            clear hr hrv
            go_wp2_with fail
            go_quiet (fail)
            go_wp2_with fail
            go_ret
            exact ⟨false, _, rfl, by rw [← hW.out]; exact World.drewN_drewN _ _ _, by simp⟩
          · have d1 : decide (65535 < xi) = false := by simpa using h1
            by_cases h2 : xw < 0
            · have d2 : decide (xw < 0) = true := by simpa using h2
              clear hr hrv
              go_wp2_with fail
              go_quiet (fail)
              go_wp2_with fail
              go_ret
              exact ⟨false, _, rfl, by rw [← hW.out]; exact World.drewN_drewN _ _ _, by simp⟩
            · have d2 : decide (xw < 0) = false := by simpa using h2
              by_cases h3 : 1000 < xw
              · have d3 : decide (1000 < xw) = true := by simpa using h3
                clear hr hrv
                go_wp2_with fail
                go_quiet (fail)
                go_wp2_with fail
                go_ret
                exact ⟨false, _, rfl, by rw [← hW.out]; exact World.drewN_drewN _ _ _, by simp⟩
              · have d3 : decide (1000 < xw) = false := by simpa using h3
                clear hr hrv
                go_wp2_with fail
                go_quiet (fail)
                go_wp2_with fail
                go_roundw
                case rel => exact ⟨k + 1, _, by omega, by go_num, by rw [← hW.out]; exact World.drewN_drewN _ _ _, fun j hj => by
                    rcases Nat.lt_succ_iff_lt_or_eq.1 hj with h | rfl
                    · exact hall.out j h
                    · exact hok.out (by omega) (by omega) (by omega) (by omega) (fun h => absurd hk0.out (by omega))⟩
                case measure => simp [intOf]; omega
      · have e0 : decide ((0 : Int) < (k : Int)) = true := by simp; omega
        have e0n : decide (0 < k) = true := by simp; omega
        have e0m : 0 < k := by omega
        obtain ⟨ad', y, had, hbl2, hy, f0, -⟩ := bk_at hrv (k := k - 1) (by omega)
        cases had
        obtain ⟨yi, yw, ys, yv, yh, yo⟩ := y
        dsimp only at *
        have hkm : (k : Int) - 1 = ((k - 1 : Nat) : Int) := by omega
        have hkm2 : ((k - 1 : Nat) : Int) < (l.length : Int) := by omega
        have hk1 : 1 ≤ k := by omega
        replace hx := Lib.hid hx
        replace hy := Lib.hid hy
        by_cases h0 : xi < 1
        · have d0 : decide (xi < 1) = true := by simpa using h0
          clear hr hrv
          go_wp2_with fail
          go_quiet (fail)
          go_wp2_with fail
          go_ret
          exact ⟨false, _, rfl, by rw [← hW.out]; exact World.drewN_drewN _ _ _, by simp⟩
        · have d0 : decide (xi < 1) = false := by simpa using h0
          by_cases h1 : 65535 < xi
          · have d1 : decide (65535 < xi) = true := by simpa using h1
            clear hr hrv
            go_wp2_with fail
            go_quiet (fail)
            go_wp2_with fail
            go_ret
            exact ⟨false, _, rfl, by rw [← hW.out]; exact World.drewN_drewN _ _ _, by simp⟩
          · have d1 : decide (65535 < xi) = false := by simpa using h1
            by_cases h2 : xw < 0
            · have d2 : decide (xw < 0) = true := by simpa using h2
              clear hr hrv
              go_wp2_with fail
              go_quiet (fail)
              go_wp2_with fail
              go_ret
              exact ⟨false, _, rfl, by rw [← hW.out]; exact World.drewN_drewN _ _ _, by simp⟩
            · have d2 : decide (xw < 0) = false := by simpa using h2
              by_cases h3 : 1000 < xw
              · have d3 : decide (1000 < xw) = true := by simpa using h3
                clear hr hrv
                go_wp2_with fail
                go_quiet (fail)
                go_wp2_with fail
                go_ret
                exact ⟨false, _, rfl, by rw [← hW.out]; exact World.drewN_drewN _ _ _, by simp⟩
              · have d3 : decide (1000 < xw) = false := by simpa using h3
                by_cases h4 : xi ≤ yi
                · have d4 : decide (xi ≤ yi) = true := by simpa using h4
                  clear hr hrv
                  go_wp2_with fail
                  go_quiet (fail)
                  go_wp2_with fail
                  go_ret
                  exact ⟨false, _, rfl, by rw [← hW.out]; exact World.drewN_drewN _ _ _, by simp⟩
                · have d4 : decide (xi ≤ yi) = false := by simpa using h4
                  clear hr hrv
                  go_wp2_with fail
                  go_quiet (fail)
                  go_wp2_with fail
                  go_roundw
                  case rel => exact ⟨k + 1, _, by omega, by go_num, by rw [← hW.out]; exact World.drewN_drewN _ _ _, fun j hj => by
                      rcases Nat.lt_succ_iff_lt_or_eq.1 hj with h | rfl
                      · exact hall.out j h
                      · exact hok.out (by omega) (by omega) (by omega) (by omega) (fun _ a ha => by have := hy.out; rw [ha] at this; cases this; show yi < xi; omega)⟩
                  case measure => simp [intOf]; omega
    · obtain rfl : k = l.length := by omega
      have hlti : ¬ (l.length : Int) < (l.length : Int) := by omega
      have hall2 : ∀ k, bkAt l k := fun k b hb => hall.out k (List.getElem?_eq_some_iff.1 hb).1 b hb
      replace hall2 := Lib.hid hall2
      go_wp2_with fail
      go_ret
      refine ⟨decide (l.length ≤ 64), n, ?_, rfl, fun h => ⟨by simpa using h, hall2.out⟩⟩
      show Ending.returned (.bool _) = _
      simp; omega

def bkLaw (m : Nat) (l : List Bk) : Prop := l.length ≤ m ∧ bkRight l ∧ ∀ b ∈ l, 1 ≤ b.w
def LawR (m : Nat) (l : List Bk) (w : World) (e : Ending) (w' : World) : Prop := ∃ r n, e = .returned (.bool r) ∧ w' = w.drewN n ∧ (r = true → bkLaw m l)
end Go.Proofs.Ytnmmjchhinfbpaa

