/- conn.Run: its contract. -/
import Derived.Test.YtdkcjfcjckpjcaaConn
import Derived.Deep.OwnRows
namespace Go.Proofs.Ytdkcjfcjckpjcaa
open Go Go.RowKit Go.Deep

set_option maxHeartbeats 400000 in
theorem run_any (p : Int) (A : Option Addr) (c : Nat) (l : List Int) (w : World) (hr : Reads w w.heap.size 1 A l.length (l.map (.int .i64))) (hl : l.length ≤ 1000) :
    Calls Try.prog 17 #[.int .i64 p, .slice A l.length c] w fun e w' => e = .returned (.slice (some ⟨w.heap.size, 0, none⟩) l.length l.length) ∧
      w'.rowIs w.heap.size 3 l.length (fun i => .int .i64 ((runS p l).getD i 0)) ∧ Below w.heap.size w w' := by
  have hmk := fun W => run_make_row' (P := Try.prog) 22 3 (.int .i64 0) 8 Try.underlying22 info_int rfl .i64 .i64 l.length (by omega) (by omega) W
  go_enter Try.func17, Try.ntmps17
  go_wp2_with fail
  clear hmk
  go_loopw [13] (fun i wr => ∃ k : Nat, k ≤ l.length ∧ i = .int .i64 k ∧ wr.rowIs w.heap.size 3 l.length (fun j => .int .i64 (if j < k then (runS p l).getD j 0 else 0)) ∧ Below w.heap.size w wr)
    (fun i _ => l.length - (intOf i).toNat)
  case atStart =>
    refine ⟨0, Nat.zero_le _, rfl, ?_, ?_⟩
    · exact (World.rowIs_made w _ _ _).congr (by simp)
    · exact (Below.refl _ _).alloc (Nat.le_refl _) _
  case round =>
    obtain ⟨k, hk, rfl, hrow, hb⟩ := hrel
    have hf := hrow.frozen k
    by_cases hlt : k < l.length
    · obtain ⟨ad, u, rfl, hab, hu, hc⟩ := (hr.below hb).at_ hlt
      have hu' : u = .int .i64 (l.getD k 0) := by
        simp only [List.getElem?_map, List.getElem?_eq_getElem hlt, Option.map_some, Option.some.injEq] at hu
        simp [← hu, hlt]
      subst hu'
      clear hu
      obtain ⟨x, hx⟩ : ∃ x, x = l.getD k 0 := ⟨_, rfl⟩
      rw [← hx] at hc
      have HX := Lib.hid hx
      clear hx
      have hg := hrow.lt
      have hcur := hrow.cell hlt
      by_cases hz : k = 0
      · have HZ := Lib.hid hz
        have hb0 : ((k : Int) == 0) = true := by simp [hz]
        clear hz
        go_wp2_with (go_at_call 38; refine (begin_any _ _ _).mono ?_; rintro e w' ⟨rfl, rfl⟩)
        go_roundw
        case rel =>
          obtain rfl : k = 0 := HZ.out
          refine ⟨1, by omega, by simp, (hrow.set 0 _).congr ?_, hb.setCell (Nat.le_refl _) _⟩
          intro j hj
          by_cases h0 : j = 0
          · subst h0; rw [if_pos rfl, if_pos (by omega), runS_zero p l hlt, HX.out]
          · have : ¬ j < 1 := by omega
            simp [h0, this]
        case measure => simp [intOf]; omega
      · have HZ := Lib.hid hz
        have hb0 : ((k : Int) == 0) = false := by simp [hz]
        have hp : 1 ≤ k := by omega
        have hprev : wr.cell? ⟨w.heap.size, k - 1, none⟩ = some (.int .i64 ((runS p l).getD (k - 1) 0)) := by
          rw [hrow.cell (by omega), if_pos (by omega)]
        obtain ⟨y, hy⟩ : ∃ y, y = (runS p l).getD (k - 1) 0 := ⟨_, rfl⟩
        rw [← hy] at hprev
        have HY := Lib.hid hy
        clear hy
        clear hz
        go_wp2_with (go_at_call 40; refine (next_any _ _ _).mono ?_; rintro e w' ⟨rfl, rfl⟩)
        go_roundw
        case rel =>
          refine ⟨k + 1, by omega, by go_num, (hrow.set k _).congr ?_, hb.setCell (Nat.le_refl _) _⟩
          intro j hj
          have e := runS_succ p l (k - 1) (by omega)
          rw [Nat.sub_add_cancel hp] at e
          by_cases h0 : j = k
          · subst h0; rw [if_pos rfl, if_pos (by omega), e, HX.out, HY.out]
          · by_cases h1 : j < k
            · simp [h0, h1, Nat.lt_succ_of_lt h1]
            · have : ¬ j < k + 1 := by omega
              simp [h0, h1, this]
        case measure => simp [intOf]; omega
    · obtain rfl : k = l.length := by omega
      go_wp2_with fail
      go_ret
      refine ⟨rfl, hrow.congr (fun i hi => by rw [if_pos hi]), hb⟩
end Go.Proofs.Ytdkcjfcjckpjcaa
