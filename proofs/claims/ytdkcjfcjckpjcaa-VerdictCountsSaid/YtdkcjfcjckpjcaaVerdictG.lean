/- verdict: Add. -/
import Derived.Test.YtdkcjfcjckpjcaaVerdictC
namespace Go.Proofs.Ytdkcjfcjckpjcaa
open Go Go.RowKit Go.Deep

def addTo (f f2 : Nat → Int) (k : Nat) : Nat → Int := fun i => if i < k then f i + f2 i else f i
theorem addTo_set {w : World} {g : Nat} {f f2 : Nat → Int} {k : Nat} (h : BoardP w g (addTo f f2 k)) (hk : k < 23) : BoardP ((w.setCell ⟨g, k, none⟩ (.int .i64 (f k + f2 k))).drew) g (addTo f f2 (k + 1)) := by
  refine World.rowIs.congr (World.rowIs.drew (World.rowIs.set h k _)) fun j _ => ?_
  by_cases e : j = k
  · subst e; simp [addTo]
  · simp only [if_neg e, addTo]
    by_cases e2 : j < k
    · rw [if_pos e2, if_pos (by omega)]
    · rw [if_neg e2, if_neg (by omega)]

set_option maxRecDepth 100000 in
set_option maxHeartbeats 4000000 in
theorem add_any (g g2 : Nat) (f f2 : Nat → Int) (w : World) (h : BoardP w g f) (h2 : BoardP w g2 f2) (hne : g2 ≠ g) (hf : ∀ i, 0 ≤ f i ∧ f i ≤ 1000000) (hf2 : ∀ i, 0 ≤ f2 i ∧ f2 i ≤ 1000000) :
    Calls Try.prog 46 #[.pointer (some ⟨g, 0, none⟩), .pointer (some ⟨g2, 0, none⟩)] w fun e w' => e = .returned (.tuple #[]) ∧ BoardP w' g (fun i => f i + f2 i) ∧ Chg (· = g) w w' := by
  have h0 : BoardP w g (addTo f f2 0) := World.rowIs.congr h fun i _ => by simp [addTo]
  have c0 := World.rowIs.cell h2 (i := 0) (by omega)
  have c1 := World.rowIs.cell h2 (i := 1) (by omega)
  have c2 := World.rowIs.cell h2 (i := 2) (by omega)
  have c3 := World.rowIs.cell h2 (i := 3) (by omega)
  go_enter Try.func46, Try.ntmps46
  go_wp2_with fail
  clear c0 c1 c2 c3
  go_loopw [18] (fun i wr => ∃ k : Nat, k ≤ 4 ∧ i = .int .i64 k ∧ BoardP wr g (addTo f f2 k) ∧ Chg (· = g) w wr) (fun i _ => 4 - (intOf i).toNat)
  case atStart => exact ⟨0, by omega, rfl, h0, Chg.refl _ _⟩
  case round =>
    obtain ⟨k, hk, rfl, hB, hch⟩ := hrel
    clear h h0
    have hr : k = 0 ∨ k = 1 ∨ k = 2 ∨ k = 3 ∨ k = 4 := by omega
    unfold BoardP at hB
    rcases hr with rfl | rfl | rfl | rfl | rfl
    · have r := hB.cell (i := 0) (by omega)
      have ix := fun (W : World) => (by kernel_rfl : (Instr.index 74 (.agg #[.int .i64 (f2 0), .int .i64 (f2 1), .int .i64 (f2 2), .int .i64 (f2 3)]) (.int .i64 0)).run Try.prog W = .ok (.int .i64 (f2 0)) W)
      have q := hB.frozen 0
      rw [show addTo f f2 0 0 = f 0 by simp [addTo]] at r
      obtain ⟨a1, a2⟩ := hf 0
      obtain ⟨b1, b2⟩ := hf2 0
      have hnew := addTo_set hB (by omega)
      have hch' : Chg (· = g) w ((wr.setCell ⟨g, 0, none⟩ (.int .i64 (f 0 + f2 0))).drew) := (hch.setCell (p := ⟨g, 0, none⟩) (fun _ => rfl) _).drew
      clear hB hch
      go_wp2_with fail
      go_region
      go_wp2_with fail
      go_roundw
      case rel => exact ⟨1, by omega, rfl, hnew, hch'⟩
      case measure => simp [intOf]
    · have r := hB.cell (i := 1) (by omega)
      have ix := fun (W : World) => (by kernel_rfl : (Instr.index 74 (.agg #[.int .i64 (f2 0), .int .i64 (f2 1), .int .i64 (f2 2), .int .i64 (f2 3)]) (.int .i64 1)).run Try.prog W = .ok (.int .i64 (f2 1)) W)
      have q := hB.frozen 1
      rw [show addTo f f2 1 1 = f 1 by simp [addTo]] at r
      obtain ⟨a1, a2⟩ := hf 1
      obtain ⟨b1, b2⟩ := hf2 1
      have hnew := addTo_set hB (by omega)
      have hch' : Chg (· = g) w ((wr.setCell ⟨g, 1, none⟩ (.int .i64 (f 1 + f2 1))).drew) := (hch.setCell (p := ⟨g, 1, none⟩) (fun _ => rfl) _).drew
      clear hB hch
      go_wp2_with fail
      go_region
      go_wp2_with fail
      go_roundw
      case rel => exact ⟨2, by omega, rfl, hnew, hch'⟩
      case measure => simp [intOf]
    · have r := hB.cell (i := 2) (by omega)
      have ix := fun (W : World) => (by kernel_rfl : (Instr.index 74 (.agg #[.int .i64 (f2 0), .int .i64 (f2 1), .int .i64 (f2 2), .int .i64 (f2 3)]) (.int .i64 2)).run Try.prog W = .ok (.int .i64 (f2 2)) W)
      have q := hB.frozen 2
      rw [show addTo f f2 2 2 = f 2 by simp [addTo]] at r
      obtain ⟨a1, a2⟩ := hf 2
      obtain ⟨b1, b2⟩ := hf2 2
      have hnew := addTo_set hB (by omega)
      have hch' : Chg (· = g) w ((wr.setCell ⟨g, 2, none⟩ (.int .i64 (f 2 + f2 2))).drew) := (hch.setCell (p := ⟨g, 2, none⟩) (fun _ => rfl) _).drew
      clear hB hch
      go_wp2_with fail
      go_region
      go_wp2_with fail
      go_roundw
      case rel => exact ⟨3, by omega, rfl, hnew, hch'⟩
      case measure => simp [intOf]
    · have r := hB.cell (i := 3) (by omega)
      have ix := fun (W : World) => (by kernel_rfl : (Instr.index 74 (.agg #[.int .i64 (f2 0), .int .i64 (f2 1), .int .i64 (f2 2), .int .i64 (f2 3)]) (.int .i64 3)).run Try.prog W = .ok (.int .i64 (f2 3)) W)
      have q := hB.frozen 3
      rw [show addTo f f2 3 3 = f 3 by simp [addTo]] at r
      obtain ⟨a1, a2⟩ := hf 3
      obtain ⟨b1, b2⟩ := hf2 3
      have hnew := addTo_set hB (by omega)
      have hch' : Chg (· = g) w ((wr.setCell ⟨g, 3, none⟩ (.int .i64 (f 3 + f2 3))).drew) := (hch.setCell (p := ⟨g, 3, none⟩) (fun _ => rfl) _).drew
      clear hB hch
      go_wp2_with fail
      go_region
      go_wp2_with fail
      go_roundw
      case rel => exact ⟨4, by omega, rfl, hnew, hch'⟩
      case measure => simp [intOf]
    · have h22 := rowIs_chg h2 hch hne
      have d4 := h22.cell (i := 4) (by omega)
      have d5 := h22.cell (i := 5) (by omega)
      have d6 := h22.cell (i := 6) (by omega)
      have d7 := h22.cell (i := 7) (by omega)
      have d8 := h22.cell (i := 8) (by omega)
      have d9 := h22.cell (i := 9) (by omega)
      have d10 := h22.cell (i := 10) (by omega)
      have d11 := h22.cell (i := 11) (by omega)
      have d12 := h22.cell (i := 12) (by omega)
      have d13 := h22.cell (i := 13) (by omega)
      have d14 := h22.cell (i := 14) (by omega)
      have d15 := h22.cell (i := 15) (by omega)
      have d16 := h22.cell (i := 16) (by omega)
      have d17 := h22.cell (i := 17) (by omega)
      have d18 := h22.cell (i := 18) (by omega)
      have d19 := h22.cell (i := 19) (by omega)
      have d20 := h22.cell (i := 20) (by omega)
      go_wp2_with fail
      clear d4 d5 d6 d7 d8 d9 d10 d11 d12 d13 d14 d15 d16 d17 d18 d19 d20
      go_loopw [38] (fun i wr => ∃ k : Nat, k ≤ 17 ∧ i = .int .i64 k ∧ BoardP wr g (addTo f f2 (4 + k)) ∧ Chg (· = g) w wr) (fun i _ => 17 - (intOf i).toNat)
      case atStart => exact ⟨0, by omega, rfl, hB, hch⟩
      case round =>
        clear hB hch h22
        obtain ⟨k, hk, rfl, hB, hch⟩ := hrel
        have hr : k = 0 ∨ k = 1 ∨ k = 2 ∨ k = 3 ∨ k = 4 ∨ k = 5 ∨ k = 6 ∨ k = 7 ∨ k = 8 ∨ k = 9 ∨ k = 10 ∨ k = 11 ∨ k = 12 ∨ k = 13 ∨ k = 14 ∨ k = 15 ∨ k = 16 ∨ k = 17 := by omega
        unfold BoardP at hB
        rcases hr with rfl | rfl | rfl | rfl | rfl | rfl | rfl | rfl | rfl | rfl | rfl | rfl | rfl | rfl | rfl | rfl | rfl | rfl
        · have r := hB.cell (i := 4) (by omega)
          have q := hB.frozen 4
          rw [show addTo f f2 4 4 = f 4 by simp [addTo]] at r
          have ix := fun (W : World) => (by kernel_rfl : (Instr.index 75 (.agg #[.int .i64 (f2 4), .int .i64 (f2 5), .int .i64 (f2 6), .int .i64 (f2 7), .int .i64 (f2 8), .int .i64 (f2 9), .int .i64 (f2 10), .int .i64 (f2 11), .int .i64 (f2 12), .int .i64 (f2 13), .int .i64 (f2 14), .int .i64 (f2 15), .int .i64 (f2 16), .int .i64 (f2 17), .int .i64 (f2 18), .int .i64 (f2 19), .int .i64 (f2 20)]) (.int .i64 0)).run Try.prog W = .ok (.int .i64 (f2 4)) W)
          obtain ⟨a1, a2⟩ := hf 4
          obtain ⟨b1, b2⟩ := hf2 4
          have hnew := addTo_set hB (by omega)
          have hch' : Chg (· = g) w ((wr.setCell ⟨g, 4, none⟩ (.int .i64 (f 4 + f2 4))).drew) := (hch.setCell (p := ⟨g, 4, none⟩) (fun _ => rfl) _).drew
          clear hB hch
          go_wp2_with fail
          go_region
          go_wp2_with fail
          go_roundw
          case rel => exact ⟨1, by omega, rfl, hnew, hch'⟩
          case measure => simp [intOf]
        · have r := hB.cell (i := 5) (by omega)
          have q := hB.frozen 5
          rw [show addTo f f2 5 5 = f 5 by simp [addTo]] at r
          have ix := fun (W : World) => (by kernel_rfl : (Instr.index 75 (.agg #[.int .i64 (f2 4), .int .i64 (f2 5), .int .i64 (f2 6), .int .i64 (f2 7), .int .i64 (f2 8), .int .i64 (f2 9), .int .i64 (f2 10), .int .i64 (f2 11), .int .i64 (f2 12), .int .i64 (f2 13), .int .i64 (f2 14), .int .i64 (f2 15), .int .i64 (f2 16), .int .i64 (f2 17), .int .i64 (f2 18), .int .i64 (f2 19), .int .i64 (f2 20)]) (.int .i64 1)).run Try.prog W = .ok (.int .i64 (f2 5)) W)
          obtain ⟨a1, a2⟩ := hf 5
          obtain ⟨b1, b2⟩ := hf2 5
          have hnew := addTo_set hB (by omega)
          have hch' : Chg (· = g) w ((wr.setCell ⟨g, 5, none⟩ (.int .i64 (f 5 + f2 5))).drew) := (hch.setCell (p := ⟨g, 5, none⟩) (fun _ => rfl) _).drew
          clear hB hch
          go_wp2_with fail
          go_region
          go_wp2_with fail
          go_roundw
          case rel => exact ⟨2, by omega, rfl, hnew, hch'⟩
          case measure => simp [intOf]
        · have r := hB.cell (i := 6) (by omega)
          have q := hB.frozen 6
          rw [show addTo f f2 6 6 = f 6 by simp [addTo]] at r
          have ix := fun (W : World) => (by kernel_rfl : (Instr.index 75 (.agg #[.int .i64 (f2 4), .int .i64 (f2 5), .int .i64 (f2 6), .int .i64 (f2 7), .int .i64 (f2 8), .int .i64 (f2 9), .int .i64 (f2 10), .int .i64 (f2 11), .int .i64 (f2 12), .int .i64 (f2 13), .int .i64 (f2 14), .int .i64 (f2 15), .int .i64 (f2 16), .int .i64 (f2 17), .int .i64 (f2 18), .int .i64 (f2 19), .int .i64 (f2 20)]) (.int .i64 2)).run Try.prog W = .ok (.int .i64 (f2 6)) W)
          obtain ⟨a1, a2⟩ := hf 6
          obtain ⟨b1, b2⟩ := hf2 6
          have hnew := addTo_set hB (by omega)
          have hch' : Chg (· = g) w ((wr.setCell ⟨g, 6, none⟩ (.int .i64 (f 6 + f2 6))).drew) := (hch.setCell (p := ⟨g, 6, none⟩) (fun _ => rfl) _).drew
          clear hB hch
          go_wp2_with fail
          go_region
          go_wp2_with fail
          go_roundw
          case rel => exact ⟨3, by omega, rfl, hnew, hch'⟩
          case measure => simp [intOf]
        · have r := hB.cell (i := 7) (by omega)
          have q := hB.frozen 7
          rw [show addTo f f2 7 7 = f 7 by simp [addTo]] at r
          have ix := fun (W : World) => (by kernel_rfl : (Instr.index 75 (.agg #[.int .i64 (f2 4), .int .i64 (f2 5), .int .i64 (f2 6), .int .i64 (f2 7), .int .i64 (f2 8), .int .i64 (f2 9), .int .i64 (f2 10), .int .i64 (f2 11), .int .i64 (f2 12), .int .i64 (f2 13), .int .i64 (f2 14), .int .i64 (f2 15), .int .i64 (f2 16), .int .i64 (f2 17), .int .i64 (f2 18), .int .i64 (f2 19), .int .i64 (f2 20)]) (.int .i64 3)).run Try.prog W = .ok (.int .i64 (f2 7)) W)
          obtain ⟨a1, a2⟩ := hf 7
          obtain ⟨b1, b2⟩ := hf2 7
          have hnew := addTo_set hB (by omega)
          have hch' : Chg (· = g) w ((wr.setCell ⟨g, 7, none⟩ (.int .i64 (f 7 + f2 7))).drew) := (hch.setCell (p := ⟨g, 7, none⟩) (fun _ => rfl) _).drew
          clear hB hch
          go_wp2_with fail
          go_region
          go_wp2_with fail
          go_roundw
          case rel => exact ⟨4, by omega, rfl, hnew, hch'⟩
          case measure => simp [intOf]
        · have r := hB.cell (i := 8) (by omega)
          have q := hB.frozen 8
          rw [show addTo f f2 8 8 = f 8 by simp [addTo]] at r
          have ix := fun (W : World) => (by kernel_rfl : (Instr.index 75 (.agg #[.int .i64 (f2 4), .int .i64 (f2 5), .int .i64 (f2 6), .int .i64 (f2 7), .int .i64 (f2 8), .int .i64 (f2 9), .int .i64 (f2 10), .int .i64 (f2 11), .int .i64 (f2 12), .int .i64 (f2 13), .int .i64 (f2 14), .int .i64 (f2 15), .int .i64 (f2 16), .int .i64 (f2 17), .int .i64 (f2 18), .int .i64 (f2 19), .int .i64 (f2 20)]) (.int .i64 4)).run Try.prog W = .ok (.int .i64 (f2 8)) W)
          obtain ⟨a1, a2⟩ := hf 8
          obtain ⟨b1, b2⟩ := hf2 8
          have hnew := addTo_set hB (by omega)
          have hch' : Chg (· = g) w ((wr.setCell ⟨g, 8, none⟩ (.int .i64 (f 8 + f2 8))).drew) := (hch.setCell (p := ⟨g, 8, none⟩) (fun _ => rfl) _).drew
          clear hB hch
          go_wp2_with fail
          go_region
          go_wp2_with fail
          go_roundw
          case rel => exact ⟨5, by omega, rfl, hnew, hch'⟩
          case measure => simp [intOf]
        · have r := hB.cell (i := 9) (by omega)
          have q := hB.frozen 9
          rw [show addTo f f2 9 9 = f 9 by simp [addTo]] at r
          have ix := fun (W : World) => (by kernel_rfl : (Instr.index 75 (.agg #[.int .i64 (f2 4), .int .i64 (f2 5), .int .i64 (f2 6), .int .i64 (f2 7), .int .i64 (f2 8), .int .i64 (f2 9), .int .i64 (f2 10), .int .i64 (f2 11), .int .i64 (f2 12), .int .i64 (f2 13), .int .i64 (f2 14), .int .i64 (f2 15), .int .i64 (f2 16), .int .i64 (f2 17), .int .i64 (f2 18), .int .i64 (f2 19), .int .i64 (f2 20)]) (.int .i64 5)).run Try.prog W = .ok (.int .i64 (f2 9)) W)
          obtain ⟨a1, a2⟩ := hf 9
          obtain ⟨b1, b2⟩ := hf2 9
          have hnew := addTo_set hB (by omega)
          have hch' : Chg (· = g) w ((wr.setCell ⟨g, 9, none⟩ (.int .i64 (f 9 + f2 9))).drew) := (hch.setCell (p := ⟨g, 9, none⟩) (fun _ => rfl) _).drew
          clear hB hch
          go_wp2_with fail
          go_region
          go_wp2_with fail
          go_roundw
          case rel => exact ⟨6, by omega, rfl, hnew, hch'⟩
          case measure => simp [intOf]
        · have r := hB.cell (i := 10) (by omega)
          have q := hB.frozen 10
          rw [show addTo f f2 10 10 = f 10 by simp [addTo]] at r
          have ix := fun (W : World) => (by kernel_rfl : (Instr.index 75 (.agg #[.int .i64 (f2 4), .int .i64 (f2 5), .int .i64 (f2 6), .int .i64 (f2 7), .int .i64 (f2 8), .int .i64 (f2 9), .int .i64 (f2 10), .int .i64 (f2 11), .int .i64 (f2 12), .int .i64 (f2 13), .int .i64 (f2 14), .int .i64 (f2 15), .int .i64 (f2 16), .int .i64 (f2 17), .int .i64 (f2 18), .int .i64 (f2 19), .int .i64 (f2 20)]) (.int .i64 6)).run Try.prog W = .ok (.int .i64 (f2 10)) W)
          obtain ⟨a1, a2⟩ := hf 10
          obtain ⟨b1, b2⟩ := hf2 10
          have hnew := addTo_set hB (by omega)
          have hch' : Chg (· = g) w ((wr.setCell ⟨g, 10, none⟩ (.int .i64 (f 10 + f2 10))).drew) := (hch.setCell (p := ⟨g, 10, none⟩) (fun _ => rfl) _).drew
          clear hB hch
          go_wp2_with fail
          go_region
          go_wp2_with fail
          go_roundw
          case rel => exact ⟨7, by omega, rfl, hnew, hch'⟩
          case measure => simp [intOf]
        · have r := hB.cell (i := 11) (by omega)
          have q := hB.frozen 11
          rw [show addTo f f2 11 11 = f 11 by simp [addTo]] at r
          have ix := fun (W : World) => (by kernel_rfl : (Instr.index 75 (.agg #[.int .i64 (f2 4), .int .i64 (f2 5), .int .i64 (f2 6), .int .i64 (f2 7), .int .i64 (f2 8), .int .i64 (f2 9), .int .i64 (f2 10), .int .i64 (f2 11), .int .i64 (f2 12), .int .i64 (f2 13), .int .i64 (f2 14), .int .i64 (f2 15), .int .i64 (f2 16), .int .i64 (f2 17), .int .i64 (f2 18), .int .i64 (f2 19), .int .i64 (f2 20)]) (.int .i64 7)).run Try.prog W = .ok (.int .i64 (f2 11)) W)
          obtain ⟨a1, a2⟩ := hf 11
          obtain ⟨b1, b2⟩ := hf2 11
          have hnew := addTo_set hB (by omega)
          have hch' : Chg (· = g) w ((wr.setCell ⟨g, 11, none⟩ (.int .i64 (f 11 + f2 11))).drew) := (hch.setCell (p := ⟨g, 11, none⟩) (fun _ => rfl) _).drew
          clear hB hch
          go_wp2_with fail
          go_region
          go_wp2_with fail
          go_roundw
          case rel => exact ⟨8, by omega, rfl, hnew, hch'⟩
          case measure => simp [intOf]
        · have r := hB.cell (i := 12) (by omega)
          have q := hB.frozen 12
          rw [show addTo f f2 12 12 = f 12 by simp [addTo]] at r
          have ix := fun (W : World) => (by kernel_rfl : (Instr.index 75 (.agg #[.int .i64 (f2 4), .int .i64 (f2 5), .int .i64 (f2 6), .int .i64 (f2 7), .int .i64 (f2 8), .int .i64 (f2 9), .int .i64 (f2 10), .int .i64 (f2 11), .int .i64 (f2 12), .int .i64 (f2 13), .int .i64 (f2 14), .int .i64 (f2 15), .int .i64 (f2 16), .int .i64 (f2 17), .int .i64 (f2 18), .int .i64 (f2 19), .int .i64 (f2 20)]) (.int .i64 8)).run Try.prog W = .ok (.int .i64 (f2 12)) W)
          obtain ⟨a1, a2⟩ := hf 12
          obtain ⟨b1, b2⟩ := hf2 12
          have hnew := addTo_set hB (by omega)
          have hch' : Chg (· = g) w ((wr.setCell ⟨g, 12, none⟩ (.int .i64 (f 12 + f2 12))).drew) := (hch.setCell (p := ⟨g, 12, none⟩) (fun _ => rfl) _).drew
          clear hB hch
          go_wp2_with fail
          go_region
          go_wp2_with fail
          go_roundw
          case rel => exact ⟨9, by omega, rfl, hnew, hch'⟩
          case measure => simp [intOf]
        · have r := hB.cell (i := 13) (by omega)
          have q := hB.frozen 13
          rw [show addTo f f2 13 13 = f 13 by simp [addTo]] at r
          have ix := fun (W : World) => (by kernel_rfl : (Instr.index 75 (.agg #[.int .i64 (f2 4), .int .i64 (f2 5), .int .i64 (f2 6), .int .i64 (f2 7), .int .i64 (f2 8), .int .i64 (f2 9), .int .i64 (f2 10), .int .i64 (f2 11), .int .i64 (f2 12), .int .i64 (f2 13), .int .i64 (f2 14), .int .i64 (f2 15), .int .i64 (f2 16), .int .i64 (f2 17), .int .i64 (f2 18), .int .i64 (f2 19), .int .i64 (f2 20)]) (.int .i64 9)).run Try.prog W = .ok (.int .i64 (f2 13)) W)
          obtain ⟨a1, a2⟩ := hf 13
          obtain ⟨b1, b2⟩ := hf2 13
          have hnew := addTo_set hB (by omega)
          have hch' : Chg (· = g) w ((wr.setCell ⟨g, 13, none⟩ (.int .i64 (f 13 + f2 13))).drew) := (hch.setCell (p := ⟨g, 13, none⟩) (fun _ => rfl) _).drew
          clear hB hch
          go_wp2_with fail
          go_region
          go_wp2_with fail
          go_roundw
          case rel => exact ⟨10, by omega, rfl, hnew, hch'⟩
          case measure => simp [intOf]
        · have r := hB.cell (i := 14) (by omega)
          have q := hB.frozen 14
          rw [show addTo f f2 14 14 = f 14 by simp [addTo]] at r
          have ix := fun (W : World) => (by kernel_rfl : (Instr.index 75 (.agg #[.int .i64 (f2 4), .int .i64 (f2 5), .int .i64 (f2 6), .int .i64 (f2 7), .int .i64 (f2 8), .int .i64 (f2 9), .int .i64 (f2 10), .int .i64 (f2 11), .int .i64 (f2 12), .int .i64 (f2 13), .int .i64 (f2 14), .int .i64 (f2 15), .int .i64 (f2 16), .int .i64 (f2 17), .int .i64 (f2 18), .int .i64 (f2 19), .int .i64 (f2 20)]) (.int .i64 10)).run Try.prog W = .ok (.int .i64 (f2 14)) W)
          obtain ⟨a1, a2⟩ := hf 14
          obtain ⟨b1, b2⟩ := hf2 14
          have hnew := addTo_set hB (by omega)
          have hch' : Chg (· = g) w ((wr.setCell ⟨g, 14, none⟩ (.int .i64 (f 14 + f2 14))).drew) := (hch.setCell (p := ⟨g, 14, none⟩) (fun _ => rfl) _).drew
          clear hB hch
          go_wp2_with fail
          go_region
          go_wp2_with fail
          go_roundw
          case rel => exact ⟨11, by omega, rfl, hnew, hch'⟩
          case measure => simp [intOf]
        · have r := hB.cell (i := 15) (by omega)
          have q := hB.frozen 15
          rw [show addTo f f2 15 15 = f 15 by simp [addTo]] at r
          have ix := fun (W : World) => (by kernel_rfl : (Instr.index 75 (.agg #[.int .i64 (f2 4), .int .i64 (f2 5), .int .i64 (f2 6), .int .i64 (f2 7), .int .i64 (f2 8), .int .i64 (f2 9), .int .i64 (f2 10), .int .i64 (f2 11), .int .i64 (f2 12), .int .i64 (f2 13), .int .i64 (f2 14), .int .i64 (f2 15), .int .i64 (f2 16), .int .i64 (f2 17), .int .i64 (f2 18), .int .i64 (f2 19), .int .i64 (f2 20)]) (.int .i64 11)).run Try.prog W = .ok (.int .i64 (f2 15)) W)
          obtain ⟨a1, a2⟩ := hf 15
          obtain ⟨b1, b2⟩ := hf2 15
          have hnew := addTo_set hB (by omega)
          have hch' : Chg (· = g) w ((wr.setCell ⟨g, 15, none⟩ (.int .i64 (f 15 + f2 15))).drew) := (hch.setCell (p := ⟨g, 15, none⟩) (fun _ => rfl) _).drew
          clear hB hch
          go_wp2_with fail
          go_region
          go_wp2_with fail
          go_roundw
          case rel => exact ⟨12, by omega, rfl, hnew, hch'⟩
          case measure => simp [intOf]
        · have r := hB.cell (i := 16) (by omega)
          have q := hB.frozen 16
          rw [show addTo f f2 16 16 = f 16 by simp [addTo]] at r
          have ix := fun (W : World) => (by kernel_rfl : (Instr.index 75 (.agg #[.int .i64 (f2 4), .int .i64 (f2 5), .int .i64 (f2 6), .int .i64 (f2 7), .int .i64 (f2 8), .int .i64 (f2 9), .int .i64 (f2 10), .int .i64 (f2 11), .int .i64 (f2 12), .int .i64 (f2 13), .int .i64 (f2 14), .int .i64 (f2 15), .int .i64 (f2 16), .int .i64 (f2 17), .int .i64 (f2 18), .int .i64 (f2 19), .int .i64 (f2 20)]) (.int .i64 12)).run Try.prog W = .ok (.int .i64 (f2 16)) W)
          obtain ⟨a1, a2⟩ := hf 16
          obtain ⟨b1, b2⟩ := hf2 16
          have hnew := addTo_set hB (by omega)
          have hch' : Chg (· = g) w ((wr.setCell ⟨g, 16, none⟩ (.int .i64 (f 16 + f2 16))).drew) := (hch.setCell (p := ⟨g, 16, none⟩) (fun _ => rfl) _).drew
          clear hB hch
          go_wp2_with fail
          go_region
          go_wp2_with fail
          go_roundw
          case rel => exact ⟨13, by omega, rfl, hnew, hch'⟩
          case measure => simp [intOf]
        · have r := hB.cell (i := 17) (by omega)
          have q := hB.frozen 17
          rw [show addTo f f2 17 17 = f 17 by simp [addTo]] at r
          have ix := fun (W : World) => (by kernel_rfl : (Instr.index 75 (.agg #[.int .i64 (f2 4), .int .i64 (f2 5), .int .i64 (f2 6), .int .i64 (f2 7), .int .i64 (f2 8), .int .i64 (f2 9), .int .i64 (f2 10), .int .i64 (f2 11), .int .i64 (f2 12), .int .i64 (f2 13), .int .i64 (f2 14), .int .i64 (f2 15), .int .i64 (f2 16), .int .i64 (f2 17), .int .i64 (f2 18), .int .i64 (f2 19), .int .i64 (f2 20)]) (.int .i64 13)).run Try.prog W = .ok (.int .i64 (f2 17)) W)
          obtain ⟨a1, a2⟩ := hf 17
          obtain ⟨b1, b2⟩ := hf2 17
          have hnew := addTo_set hB (by omega)
          have hch' : Chg (· = g) w ((wr.setCell ⟨g, 17, none⟩ (.int .i64 (f 17 + f2 17))).drew) := (hch.setCell (p := ⟨g, 17, none⟩) (fun _ => rfl) _).drew
          clear hB hch
          go_wp2_with fail
          go_region
          go_wp2_with fail
          go_roundw
          case rel => exact ⟨14, by omega, rfl, hnew, hch'⟩
          case measure => simp [intOf]
        · have r := hB.cell (i := 18) (by omega)
          have q := hB.frozen 18
          rw [show addTo f f2 18 18 = f 18 by simp [addTo]] at r
          have ix := fun (W : World) => (by kernel_rfl : (Instr.index 75 (.agg #[.int .i64 (f2 4), .int .i64 (f2 5), .int .i64 (f2 6), .int .i64 (f2 7), .int .i64 (f2 8), .int .i64 (f2 9), .int .i64 (f2 10), .int .i64 (f2 11), .int .i64 (f2 12), .int .i64 (f2 13), .int .i64 (f2 14), .int .i64 (f2 15), .int .i64 (f2 16), .int .i64 (f2 17), .int .i64 (f2 18), .int .i64 (f2 19), .int .i64 (f2 20)]) (.int .i64 14)).run Try.prog W = .ok (.int .i64 (f2 18)) W)
          obtain ⟨a1, a2⟩ := hf 18
          obtain ⟨b1, b2⟩ := hf2 18
          have hnew := addTo_set hB (by omega)
          have hch' : Chg (· = g) w ((wr.setCell ⟨g, 18, none⟩ (.int .i64 (f 18 + f2 18))).drew) := (hch.setCell (p := ⟨g, 18, none⟩) (fun _ => rfl) _).drew
          clear hB hch
          go_wp2_with fail
          go_region
          go_wp2_with fail
          go_roundw
          case rel => exact ⟨15, by omega, rfl, hnew, hch'⟩
          case measure => simp [intOf]
        · have r := hB.cell (i := 19) (by omega)
          have q := hB.frozen 19
          rw [show addTo f f2 19 19 = f 19 by simp [addTo]] at r
          have ix := fun (W : World) => (by kernel_rfl : (Instr.index 75 (.agg #[.int .i64 (f2 4), .int .i64 (f2 5), .int .i64 (f2 6), .int .i64 (f2 7), .int .i64 (f2 8), .int .i64 (f2 9), .int .i64 (f2 10), .int .i64 (f2 11), .int .i64 (f2 12), .int .i64 (f2 13), .int .i64 (f2 14), .int .i64 (f2 15), .int .i64 (f2 16), .int .i64 (f2 17), .int .i64 (f2 18), .int .i64 (f2 19), .int .i64 (f2 20)]) (.int .i64 15)).run Try.prog W = .ok (.int .i64 (f2 19)) W)
          obtain ⟨a1, a2⟩ := hf 19
          obtain ⟨b1, b2⟩ := hf2 19
          have hnew := addTo_set hB (by omega)
          have hch' : Chg (· = g) w ((wr.setCell ⟨g, 19, none⟩ (.int .i64 (f 19 + f2 19))).drew) := (hch.setCell (p := ⟨g, 19, none⟩) (fun _ => rfl) _).drew
          clear hB hch
          go_wp2_with fail
          go_region
          go_wp2_with fail
          go_roundw
          case rel => exact ⟨16, by omega, rfl, hnew, hch'⟩
          case measure => simp [intOf]
        · have r := hB.cell (i := 20) (by omega)
          have q := hB.frozen 20
          rw [show addTo f f2 20 20 = f 20 by simp [addTo]] at r
          have ix := fun (W : World) => (by kernel_rfl : (Instr.index 75 (.agg #[.int .i64 (f2 4), .int .i64 (f2 5), .int .i64 (f2 6), .int .i64 (f2 7), .int .i64 (f2 8), .int .i64 (f2 9), .int .i64 (f2 10), .int .i64 (f2 11), .int .i64 (f2 12), .int .i64 (f2 13), .int .i64 (f2 14), .int .i64 (f2 15), .int .i64 (f2 16), .int .i64 (f2 17), .int .i64 (f2 18), .int .i64 (f2 19), .int .i64 (f2 20)]) (.int .i64 16)).run Try.prog W = .ok (.int .i64 (f2 20)) W)
          obtain ⟨a1, a2⟩ := hf 20
          obtain ⟨b1, b2⟩ := hf2 20
          have hnew := addTo_set hB (by omega)
          have hch' : Chg (· = g) w ((wr.setCell ⟨g, 20, none⟩ (.int .i64 (f 20 + f2 20))).drew) := (hch.setCell (p := ⟨g, 20, none⟩) (fun _ => rfl) _).drew
          clear hB hch
          go_wp2_with fail
          go_region
          go_wp2_with fail
          go_roundw
          case rel => exact ⟨17, by omega, rfl, hnew, hch'⟩
          case measure => simp [intOf]
        · have hB : wr.rowIs g 77 23 (fun i => .int .i64 (addTo f f2 21 i)) := hB
          have r21 := hB.cell (i := 21) (by omega)
          have q21 := hB.frozen 21
          have d21 := (rowIs_chg h2 hch hne).cell (i := 21) (by omega)
          rw [show addTo f f2 21 21 = f 21 by simp [addTo]] at r21
          obtain ⟨a21, a'21⟩ := hf 21
          obtain ⟨b21, b'21⟩ := hf2 21
          have hnew21 := addTo_set hB (by omega)
          have hch21 : Chg (· = g) w ((wr.setCell ⟨g, 21, none⟩ (.int .i64 (f 21 + f2 21))).drew) := (hch.setCell (p := ⟨g, 21, none⟩) (fun _ => rfl) _).drew
          unfold BoardP at hnew21
          clear hB hch
          go_wp2_with fail
          go_region
          clear r21 q21 d21 a21 a'21 b21 b'21
          generalize ((wr.setCell ⟨g, 21, none⟩ (.int .i64 (f 21 + f2 21))).drew) = w5 at *
          have hB := hnew21
          have hch := hch21
          clear hnew21 hch21
          have r22 := hB.cell (i := 22) (by omega)
          have q22 := hB.frozen 22
          have d22 := (rowIs_chg h2 hch hne).cell (i := 22) (by omega)
          rw [show addTo f f2 22 22 = f 22 by simp [addTo]] at r22
          obtain ⟨a22, a'22⟩ := hf 22
          obtain ⟨b22, b'22⟩ := hf2 22
          have hnew22 := addTo_set hB (by omega)
          have hch22 : Chg (· = g) w ((w5.setCell ⟨g, 22, none⟩ (.int .i64 (f 22 + f2 22))).drew) := (hch.setCell (p := ⟨g, 22, none⟩) (fun _ => rfl) _).drew
          unfold BoardP at hnew22
          clear hB hch
          go_wp2_with fail
          go_region
          go_wp2_with fail
          go_end0
          exact ⟨rfl, World.rowIs.congr hnew22 (fun i hi => by simp only [addTo]; rw [if_pos (by omega)]), hch22⟩
end Go.Proofs.Ytdkcjfcjckpjcaa
