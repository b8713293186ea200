/- ring: the document's ahead. -/
import Derived.Test.YtnmmjchhinfbpaaRingN
import Derived.Test.YtnmmjchhinfbpaaRingR
namespace Go.Proofs.Ytnmmjchhinfbpaa
open Go Go.RowKit Go.Deep

set_option maxRecDepth 100000 in
set_option maxHeartbeats 8000000 in
theorem refahead51 (P : List Pt) (A : Option Addr) (c : Nat) (n : Int) (w : World) (hr : Reads w w.heap.size 2 A P.length (P.flatMap qcell)) (hl : P.length ≤ 65536) :
    Calls Try.prog 41 #[.slice A P.length c, .int .u64 n] w fun e w' => e = .returned (.int .u64 (aheadV P n)) ∧ Below w.heap.size w w' := by
  obtain ⟨r, hrr⟩ : ∃ r, aheadV P n = r := ⟨_, rfl⟩
  rw [hrr]
  replace hrr := Lib.hid hrr
  have ht : ∀ k, topN P (k + 1) = max (topN P k) (P.getD k (0, 0)).2 := fun _ => rfl
  have ha : ∀ k, aheadN P n (k + 1) = if (P.getD k (0, 0)).2 < n then (max (aheadN P n k).1 (P.getD k (0, 0)).2, true) else aheadN P n k := fun _ => rfl
  replace ht := Lib.hid ht
  replace ha := Lib.hid ha
  replace hr := Lib.hid hr
  go_enter Try.func41, Try.ntmps41
  go_wp2_with fail
  go_loopw [5, 6, 7, 8] (fun bv tv sv ix wr => ∃ k : Nat, k ≤ P.length ∧ ix = .int .i64 (k : Nat) ∧ bv = .int .u64 (aheadN P n k).1 ∧ tv = .int .u64 (topN P k) ∧ sv = .bool (aheadN P n k).2 ∧ Below w.heap.size w wr) (fun _ _ _ ix _ => P.length - (intOf ix).toNat)
  case atStart => exact ⟨0, by omega, rfl, rfl, rfl, rfl, Below.refl _ _⟩
  case round =>
    obtain ⟨k, hk, rfl, rfl, rfl, rfl, hb⟩ := hrel
    by_cases hlt : k < P.length
    · have hlti : (k : Int) < (P.length : Int) := by omega
      obtain ⟨ad, rfl, hbl, c0, c1⟩ := qt_at (hr.out.below hb) hlt
      have h1 := ht.out k
      have h2 := ha.out k
      obtain ⟨xi, xa, hx⟩ : ∃ xi xa, P.getD k (0, 0) = (xi, xa) := ⟨_, _, rfl⟩
      rw [hx] at c0 c1 h1 h2
      dsimp only at c0 c1 h1 h2
      obtain ⟨bb, sb, hbs⟩ : ∃ bb sb, aheadN P n k = (bb, sb) := ⟨_, _, rfl⟩
      rw [hbs] at h2 ⊢
      dsimp only at h2 ⊢
      generalize topN P k = tp at *
      replace h1 := Lib.hid h1
      replace h2 := Lib.hid h2
      replace hx := Lib.hid hx
      replace hbs := Lib.hid hbs
      clear c1
      by_cases hn : xa < n
      · have dn : decide (xa < n) = true := by simpa using hn
        go_wp2_with fail
        go_roundw
        case rel => exact ⟨k + 1, by omega, by go_num, by rw [h2.out, if_pos hn], by rw [h1.out], by rw [h2.out, if_pos hn], hb⟩
        case measure => simp [intOf]; omega
      · have dn : decide (xa < n) = false := by simpa using hn
        go_wp2_with fail
        go_roundw
        case rel => exact ⟨k + 1, by omega, by go_num, by rw [h2.out, if_neg hn], by rw [h1.out], by rw [h2.out, if_neg hn], hb⟩
        case measure => simp [intOf]; omega
    · obtain rfl : k = P.length := by omega
      have hlti : ¬ (P.length : Int) < (P.length : Int) := by omega
      obtain ⟨bb, sb, hbs⟩ : ∃ bb sb, aheadN P n P.length = (bb, sb) := ⟨_, _, rfl⟩
      rw [hbs]
      dsimp only
      replace hbs := Lib.hid hbs
      have hr1 : r = if sb = true then bb else topN P P.length := by
        rw [← hrr.out]
        unfold aheadV
        rw [hbs.out]
      cases sb
      all_goals
        simp only [if_true, Bool.false_eq_true, if_false] at hr1
        subst hr1
        clear hrr
        go_wp2_with fail
        go_ret
        exact ⟨rfl, hb⟩
end Go.Proofs.Ytnmmjchhinfbpaa
