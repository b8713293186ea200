/- conn: the reference's Run. -/
import Derived.Test.YtdkcjfcjckpjcaaConnRef
namespace Go.Proofs.Ytdkcjfcjckpjcaa
open Go Go.RowKit Go.Deep

def stOf (p : Int) (l : List Int) (k : Nat) : Int := if k = 0 then 0 else (runS p l).getD (k - 1) 0
theorem stOf_succ (p : Int) (l : List Int) (k : Nat) : stOf p l (k + 1) = (runS p l).getD k 0 := by simp [stOf]
set_option maxRecDepth 100000 in
set_option maxHeartbeats 400000 in
theorem refrun_any (p : Int) (A : Option Addr) (c : Nat) (l : List Int) (w : World) (hr : Reads w w.heap.size 1 A l.length (l.map (.int .i64))) (hl : l.length ≤ 1000) :
    Calls Try.prog 42 #[.int .i64 p, .slice A l.length c] w fun e w' => ∃ A' c', e = .returned (.slice A' l.length c') ∧
      w'.ownsRow w.heap.size 3 1 (.slice A' l.length c') l.length ((runS p l).map (.int .i64)) ∧ Below w.heap.size w w' := by
  obtain ⟨i0, hi0, hz0, hz1, hz2⟩ := info_parts info_int
  have hRl := runS_length p l
  go_enter Try.func42, Try.ntmps42
  go_wp2_with fail
  go_loopw [5, 6, 7] (fun o st i wr => ∃ k A' c', k ≤ l.length ∧ i = .int .i64 (k : Nat) ∧ o = .slice A' k c' ∧ (st = .int .i64 (stOf p l k)) ∧ wr.ownsRow w.heap.size 3 1 (.slice A' k c') k ((pre (runS p l) k).map (.int .i64)) ∧ Below w.heap.size w wr) (fun _ _ i _ => l.length - (intOf i).toNat)
  case atStart => exact ⟨0, none, 0, Nat.zero_le _, rfl, rfl, rfl, World.ownsRow_nil _ _ _ _, Below.refl _ _⟩
  case round =>
    obtain ⟨k, A', c', hk, rfl, rfl, rfl, hown, hb⟩ := hrel
    by_cases hlt : k < l.length
    · obtain ⟨ad, rfl, had, hc⟩ := (hr.below hb).int_at hlt
      obtain ⟨x, hx⟩ : ∃ x, x = l.getD k 0 := ⟨_, rfl⟩
      obtain ⟨y, hy⟩ : ∃ y, y = (runS p l).getD k 0 := ⟨_, rfl⟩
      rw [← hx] at hc
      have hps := pre_succ (runS p l) k (by omega)
      rw [← hy] at hps
      have hown1 := hown.alloc (.cells #[.int .i64 y] 3)
      have hsz := hb.size
      by_cases hz : k = 0
      · have hb0 : ((k : Int) == 0) = true := by simp [hz]
        have Y : y = beginS p x := by subst hz; rw [hy, runS_zero p l (by omega), ← hx]
        clear hx hz
        replace hy := Lib.hid hy
        replace Y := Lib.hid Y
        replace hps := Lib.hid hps
        go_wp2_with (first | (go_at_call 39; refine (refbegin_any _ _ _).mono ?_; rintro e w' ⟨rfl, rfl⟩; rw [← Y.out]) | (at_builtin; refine wpList_append_sl _ rfl (.tmp 28) (.tmp 30) 22 rfl w.heap.size 3 i0 _ 1 8 Try.underlying22 hi0 hz0 hz1 hz2 rfl (by decide) (.slice A' k c') k ((pre (runS p l) k).map (.int .i64)) rfl hown1 (wr.heap.size + 1) (some ⟨wr.heap.size, 0, none⟩) 1 1 [.int .i64 y] rfl (reads_lit1 _ _ _ _ _ (by simp) (by simp)) (by simp [Value.oneCell']) (by unfold maxLen; omega) (by omega) (by simp; omega) ?_; intro A1 cp1 w1 hown2 hg1 hat1))
        go_roundw
        case rel =>
          refine ⟨k + 1, A1, cp1, by omega, by go_num, rfl, ?_, ?_, (hb.alloc (by omega) _).grown hg1 (by simp; omega) (fun j hj => (hown.lt _ hj).1)⟩
          · rw [stOf_succ, ← hy.out]
          · rw [hps.out, List.map_append]; exact hown2
        case measure => simp [intOf]; omega
      · have hb0 : ((k : Int) == 0) = false := by simp [hz]
        have Y : y = nextS (stOf p l k) x := by
          obtain ⟨j, rfl⟩ : ∃ j, k = j + 1 := ⟨k - 1, by omega⟩
          rw [hy, runS_succ p l j hlt, ← hx, stOf_succ]
        clear hx hz
        replace hy := Lib.hid hy
        replace Y := Lib.hid Y
        replace hps := Lib.hid hps
        go_wp2_with (first | (go_at_call 41; refine (refnext_any _ _ _).mono ?_; rintro e w' ⟨rfl, rfl⟩; rw [← Y.out]) | (at_builtin; refine wpList_append_sl _ rfl (.tmp 28) (.tmp 30) 22 rfl w.heap.size 3 i0 _ 1 8 Try.underlying22 hi0 hz0 hz1 hz2 rfl (by decide) (.slice A' k c') k ((pre (runS p l) k).map (.int .i64)) rfl hown1 (wr.heap.size + 1) (some ⟨wr.heap.size, 0, none⟩) 1 1 [.int .i64 y] rfl (reads_lit1 _ _ _ _ _ (by simp) (by simp)) (by simp [Value.oneCell']) (by unfold maxLen; omega) (by omega) (by simp; omega) ?_; intro A1 cp1 w1 hown2 hg1 hat1))
        go_roundw
        case rel =>
          refine ⟨k + 1, A1, cp1, by omega, by go_num, rfl, ?_, ?_, (hb.alloc (by omega) _).grown hg1 (by simp; omega) (fun j hj => (hown.lt _ hj).1)⟩
          · rw [stOf_succ, ← hy.out]
          · rw [hps.out, List.map_append]; exact hown2
        case measure => simp [intOf]; omega
    · obtain rfl : k = l.length := by omega
      go_wp2_with fail
      go_ret
      exact ⟨A', c', rfl, by have := pre_all (runS p l); rw [hRl] at this; rw [this] at hown; exact hown, hb⟩
end Go.Proofs.Ytdkcjfcjckpjcaa
