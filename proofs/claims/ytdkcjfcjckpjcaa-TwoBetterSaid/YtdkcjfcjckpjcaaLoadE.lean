/- the reference's loads: set and Add come to the same list. -/
import Derived.Test.YtdkcjfcjckpjcaaLoadD
namespace Go.Proofs.Ytdkcjfcjckpjcaa
open Go Go.RowKit Go.Deep

def lmSorted (M : LM) : Prop := M.Pairwise fun x y => x.1 < y.1
theorem refRun_done (id n : Int) : ∀ (M out : LM), M.foldl (refStep id n) (out, true) = (out ++ lmDel M id, true)
  | [], out => by simp [lmDel]
  | x :: M, out => by
    rw [List.foldl_cons]
    by_cases h : x.1 = id
    · rw [refStep_drop id n out x h, refRun_done id n M out]
      simp [lmDel, h]
    · rw [refStep_keep id n out x h, refRun_done id n M]
      simp [lmDel, h]
theorem lmIns_low (id n : Int) : ∀ L : LM, (∀ y ∈ L, id < y.1) → lmIns (id, n) L = (id, n) :: L
  | [], _ => rfl
  | y :: L, h => by unfold lmIns; rw [if_pos (h y (by simp))]
theorem refRun_open (id n : Int) : ∀ (M out : LM), lmSorted M → (if (M.foldl (refStep id n) (out, false)).2 then (M.foldl (refStep id n) (out, false)).1 else (M.foldl (refStep id n) (out, false)).1 ++ [(id, n)]) = out ++ lmIns (id, n) (lmDel M id)
  | [], out, _ => by simp [lmDel, lmIns]
  | x :: M, out, hs => by
    obtain ⟨h1, h2⟩ := List.pairwise_cons.1 hs
    rw [List.foldl_cons]
    by_cases hlt : id ≤ x.1
    · by_cases he : x.1 = id
      · rw [refStep_in id n out x he, refRun_done]
        have : lmIns (id, n) (lmDel M id) = (id, n) :: lmDel M id := lmIns_low id n _ fun y hy => by
          have := h1 y (List.mem_filter.1 hy).1; omega
        simp only [if_true]
        rw [show lmDel (x :: M) id = lmDel M id by simp [lmDel, he], this]
        simp
      · rw [refStep_both id n out x hlt he, refRun_done]
        simp only [if_true]
        rw [show lmDel (x :: M) id = x :: lmDel M id by simp [lmDel, he]]
        unfold lmIns
        rw [if_pos (show id < x.1 by omega)]
        simp
    · rw [refStep_low id n out x hlt, refRun_open id n M _ h2]
      rw [show lmDel (x :: M) id = x :: lmDel M id by
        have : ¬ x.1 = id := by omega
        simp [lmDel, this]]
      rw [show lmIns (id, n) (x :: lmDel M id) = x :: lmIns (id, n) (lmDel M id) by
        show (if id < x.1 then _ else _) = _
        rw [if_neg (by omega)]]
      simp
theorem refSet_eq (M : LM) (id n : Int) (h : lmSorted M) : refSet M id n = if n = 0 then lmDel M id else lmPut M id n := by
  unfold refSet refRun
  by_cases hn : n = 0
  · subst hn
    rw [show ((0 : Int) == 0) = true from rfl, refRun_done]
    simp
  · rw [show (n == 0) = false by simpa using hn, refRun_open id n M [] h, if_neg hn]
    simp [lmPut]
theorem lmDel_sorted {M : LM} (h : lmSorted M) (id : Int) : lmSorted (lmDel M id) := List.Pairwise.filter _ h
theorem lmIns_sorted {id n : Int} : ∀ {L : LM}, lmSorted L → (∀ y ∈ L, y.1 ≠ id) → lmSorted (lmIns (id, n) L)
  | [], _, _ => by simp [lmSorted, lmIns]
  | y :: L, hs, hne => by
    obtain ⟨h1, h2⟩ := List.pairwise_cons.1 hs
    unfold lmIns
    by_cases h : id < y.1
    · rw [if_pos h]
      exact List.pairwise_cons.2 ⟨fun z hz => by
        rcases List.mem_cons.1 hz with rfl | hz
        · exact h
        · have := h1 z hz; show id < z.1; omega, hs⟩
    · rw [if_neg h]
      have hy := hne y (by simp)
      refine List.pairwise_cons.2 ⟨fun z hz => ?_, lmIns_sorted h2 fun z hz => hne z (by simp [hz])⟩
      rcases lmIns_mem hz with rfl | hz
      · show y.1 < id; omega
      · exact h1 z hz
theorem lmPut_sorted {M : LM} (h : lmSorted M) (id v : Int) : lmSorted (lmPut M id v) := lmIns_sorted (lmDel_sorted h id) fun y hy => by simpa using (List.mem_filter.1 hy).2
theorem lmAdd_sorted {M : LM} (h : lmSorted M) (id n : Int) : lmSorted (lmAdd M id n) := by
  unfold lmAdd
  split
  · exact h
  · split
    · exact lmDel_sorted h id
    · exact lmPut_sorted h id _
theorem lmAdd_ref (M : LM) (id n : Int) (h : lmSorted M) (hn : ¬ (n < -1099511627776 ∨ 1099511627776 < n)) : refSet M id (max 0 (min 1099511627776 (lmGet M id + n))) = lmAdd M id n := by
  unfold lmAdd
  rw [refSet_eq M id _ h, if_neg hn]
  by_cases hz : min 1099511627776 (lmGet M id + n) ≤ 0
  · rw [if_pos (by omega), if_pos hz]
  · rw [if_neg (by omega), if_neg hz, show max 0 (min 1099511627776 (lmGet M id + n)) = min 1099511627776 (lmGet M id + n) by omega]

set_option maxHeartbeats 1000000 in
theorem refload_add (g : Nat) (M : LM) (id n : Int) (w : World) (h : RLoadAt w g M) (hs : lmSorted M) (hp : lmPos M) (hl : M.length ≤ 100000) :
    Calls Try.prog 80 #[.pointer (some ⟨g, 0, none⟩), .int .i64 id, .int .i64 n] w fun e w' => e = .returned (.tuple #[]) ∧ RLoadAt w' g (lmAdd M id n) ∧ Chg (· = g) w w' := by
  by_cases hn : n < -1099511627776
  · have e : lmAdd M id n = M := by unfold lmAdd; rw [if_pos (.inl hn)]
    rw [e]
    have d1 : decide (-1099511627776 ≤ n) = false := by simp; omega
    go_enter Try.func80, Try.ntmps80
    go_wp2_with fail
    go_end0
    exact ⟨rfl, h, Chg.refl _ _⟩
  by_cases hn2 : 1099511627776 < n
  · have e : lmAdd M id n = M := by unfold lmAdd; rw [if_pos (.inr hn2)]
    rw [e]
    have d1 : decide (-1099511627776 ≤ n) = true := by simp; omega
    have d2 : decide (n ≤ 1099511627776) = false := by simp; omega
    go_enter Try.func80, Try.ntmps80
    go_wp2_with fail
    go_end0
    exact ⟨rfl, h, Chg.refl _ _⟩
  have d1 : decide (-1099511627776 ≤ n) = true := by simp; omega
  have d2 : decide (n ≤ 1099511627776) = true := by simp; omega
  rw [← lmAdd_ref M id n hs (by omega)]
  obtain ⟨r1, r2⟩ := lmGet_rng hp id
  have G := refload_get g M id w h (by omega)
  generalize lmGet M id = v at *
  obtain ⟨x, hx⟩ : ∃ x, max 0 (min 1099511627776 (v + n)) = x := ⟨_, rfl⟩
  rw [hx]
  have S := refload_set g M id x w h hl
  replace G := Lib.hid G
  replace S := Lib.hid S
  have b1 : -9223372036854775808 ≤ v + n := by omega
  have b2 : v + n ≤ 9223372036854775807 := by omega
  replace hx := Lib.hid hx
  clear hn hn2 h
  go_enter Try.func80, Try.ntmps80
  go_wp2_with (go_at_call 114; with_reducible refine G.out.mono ?_; rintro e w1 ⟨rfl, rfl⟩)
  rw [hx.out]
  refine S.out.mono ?_
  rintro e w1 ⟨rfl, h1, h2⟩
  go_wp2_with fail
  go_end0
  exact ⟨rfl, h1, h2⟩
end Go.Proofs.Ytdkcjfcjckpjcaa
