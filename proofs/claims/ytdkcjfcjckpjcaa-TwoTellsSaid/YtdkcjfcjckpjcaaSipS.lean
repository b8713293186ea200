/- cloakroomref12: Mix. -/
import Derived.Test.YtdkcjfcjckpjcaaSipR
namespace Go.Proofs.Ytdkcjfcjckpjcaa
open Go Go.RowKit Go.Deep

set_option maxRecDepth 100000 in
set_option maxHeartbeats 2000000 in
theorem refmix (s : Sip) (k : Nat) (w : World) (hk : k ≤ 64) : Calls Try.prog 142 #[.int .u64 s.a, .int .u64 s.b, .int .u64 s.c, .int .u64 s.d, .int .i64 k] w fun e w' => e = .returned (.agg #[.int .u64 (siter k s).a, .int .u64 (siter k s).b, .int .u64 (siter k s).c, .int .u64 (siter k s).d]) ∧ Below w.heap.size w w' := by
  have hB0 := Blk.new w 173 #[.int .u64 0, .int .u64 0, .int .u64 0, .int .u64 0]
  have hb0 : Below w.heap.size w (w.alloc (.cells #[.int .u64 0, .int .u64 0, .int .u64 0, .int .u64 0] 173)) := (Below.refl _ _).alloc (Nat.le_refl _) _
  go_enter Try.func142, Try.ntmps142
  go_wp2_with fail
  go_loopw [0, 1, 2, 3, 11] (fun a b c d i wr => ∃ j : Nat, j ≤ k ∧ i = .int .i64 j ∧ a = .int .u64 (siter j s).a ∧ b = .int .u64 (siter j s).b ∧ c = .int .u64 (siter j s).c ∧ d = .int .u64 (siter j s).d ∧ Blk wr w.heap.size 173 #[.int .u64 0, .int .u64 0, .int .u64 0, .int .u64 0] ∧ Below w.heap.size w wr) (fun _ _ _ _ i _ => k - (intOf i).toNat)
  case atStart => exact ⟨0, by omega, rfl, rfl, rfl, rfl, rfl, hB0, hb0⟩
  case round =>
    obtain ⟨j, hj, rfl, rfl, rfl, rfl, rfl, hB, hb⟩ := hrel
    clear hB0 hb0
    by_cases hlt : j < k
    · have hlti : (j : Int) < (k : Int) := by omega
      have h64 : (j : Int) < 64 := by omega
      have R := refround (siter j s) wr
      have hS : siter (j + 1) s = sround (siter j s) := rfl
      obtain ⟨t, ht⟩ : ∃ t, siter j s = t := ⟨_, rfl⟩
      rw [ht] at R hS ⊢
      obtain ⟨u, hu⟩ : ∃ u, sround t = u := ⟨_, rfl⟩
      rw [hu] at R hS
      replace hS := Lib.hid hS
      clear hu ht
      go_wp2_with (go_at_call 141; refine R.mono ?_; rintro e w1 ⟨rfl, hb1⟩)
      go_roundw
      case rel =>
        exact ⟨j + 1, by omega, by go_num, by rw [hS.out], by rw [hS.out], by rw [hS.out], by rw [hS.out], hB.below hb1 hB.lt, below_call hb hb.size hb1⟩
      case measure => simp [intOf]; omega
    · have hlti : ¬ (j : Int) < (k : Int) := by omega
      obtain rfl : j = k := by omega
      obtain ⟨t, ht⟩ : ∃ t, siter j s = t := ⟨_, rfl⟩
      rw [ht]
      replace ht := Lib.hid ht
      have c0 := hB.cell 0
      have c1 := hB.cell 1
      have c2 := hB.cell 2
      have c3 := hB.cell 3
      have q0 := hB.frozen 0
      have q1 := hB.frozen 1
      have q2 := hB.frozen 2
      have q3 := hB.frozen 3
      simp at c0 c1 c2 c3
      go_wp2_with fail
      have hB4 := (((hB.set_ 0 (.int .u64 t.a)).set_ 1 (.int .u64 t.b)).set_ 2 (.int .u64 t.c)).set_ 3 (.int .u64 t.d)
      have hb4 : Below w.heap.size w ((((wr.setCell ⟨w.heap.size, 0, none⟩ (.int .u64 t.a)).setCell ⟨w.heap.size, 1, none⟩ (.int .u64 t.b)).setCell ⟨w.heap.size, 2, none⟩ (.int .u64 t.c)).setCell ⟨w.heap.size, 3, none⟩ (.int .u64 t.d)) := (((hb.setCell (Nat.le_refl _) _).setCell (Nat.le_refl _) _).setCell (Nat.le_refl _) _).setCell (Nat.le_refl _) _
      generalize ((((wr.setCell ⟨w.heap.size, 0, none⟩ (.int .u64 t.a)).setCell ⟨w.heap.size, 1, none⟩ (.int .u64 t.b)).setCell ⟨w.heap.size, 2, none⟩ (.int .u64 t.c)).setCell ⟨w.heap.size, 3, none⟩ (.int .u64 t.d)) = w9 at *
      have d0 := hB4.cell 0
      have d1 := hB4.cell 1
      have d2 := hB4.cell 2
      have d3 := hB4.cell 3
      simp at d0 d1 d2 d3
      rw [ht.out]
      refine bodyPost_ret (v := .agg #[.int .u64 t.a, .int .u64 t.b, .int .u64 t.c, .int .u64 t.d]) (by simp [results, Try.results142, go_sem, d0, d1, d2, d3]) rfl ⟨rfl, hb4⟩
end Go.Proofs.Ytdkcjfcjckpjcaa
