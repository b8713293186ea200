/- load: Add, Less. -/
import Derived.Test.YtdkcjfcjckpjcaaLoadA
import Derived.StillTailTactics
namespace Go.Proofs.Ytdkcjfcjckpjcaa
open Go Go.RowKit Go.Deep Go.Maps Go.ChangeMaps

def farI : Int := 1099511627776
def lmAdd (M : LM) (id n : Int) : LM := if n < -1099511627776 ∨ 1099511627776 < n then M else if min 1099511627776 (lmGet M id + n) ≤ 0 then lmDel M id else lmPut M id (min 1099511627776 (lmGet M id + n))
def lmPos (M : LM) : Prop := ∀ x ∈ M, 1 ≤ x.2 ∧ x.2 ≤ 1099511627776
theorem lmGet_rng {M : LM} (h : lmPos M) (id : Int) : 0 ≤ lmGet M id ∧ lmGet M id ≤ 1099511627776 := by
  unfold lmGet
  cases e : M.find? (fun x => x.1 == id) with
  | none => simp
  | some p => have := h p (List.mem_of_find?_eq_some e); simp; omega
theorem lmDel_pos {M : LM} (h : lmPos M) (id : Int) : lmPos (lmDel M id) := fun x hx => h x (List.mem_filter.1 hx).1
theorem lmIns_mem {x y : Int × Int} : ∀ {M : LM}, y ∈ lmIns x M → y = x ∨ y ∈ M
  | [], h => by simpa [lmIns] using h
  | z :: M, h => by
    unfold lmIns at h
    split at h
    · simpa using h
    · rcases List.mem_cons.1 h with h | h
      · exact .inr (by simp [h])
      · rcases lmIns_mem h with h | h
        · exact .inl h
        · exact .inr (by simp [h])
theorem lmPut_pos {M : LM} (h : lmPos M) {id v : Int} (h1 : 1 ≤ v) (h2 : v ≤ 1099511627776) : lmPos (lmPut M id v) := fun x hx => by
  rcases lmIns_mem hx with rfl | hx
  · exact ⟨h1, h2⟩
  · exact lmDel_pos h id x hx
theorem lmAdd_pos {M : LM} (h : lmPos M) (id n : Int) : lmPos (lmAdd M id n) := by
  unfold lmAdd
  split
  · exact h
  · split
    · exact lmDel_pos h id
    · exact lmPut_pos h (by omega) (by omega)
theorem lmAdd_length (M : LM) (id n : Int) : (lmAdd M id n).length ≤ M.length + 1 := by
  unfold lmAdd
  split
  · omega
  · split
    · have := lmDel_length M id; omega
    · exact lmPut_length M id _
theorem wf_i64_mk {n : Int} (h1 : -9223372036854775808 ≤ n) (h2 : n ≤ 9223372036854775807) : (Lit.int .i64 n).wf = true := by
  simp [Lit.wf, IntKind.min, IntKind.max, IntKind.bits, IntKind.signed]; omega
theorem LoadAt.ne {w : World} {g b : Nat} {M : LM} (h : LoadAt w g b M) : g ≠ b := by
  rintro rfl
  obtain ⟨h1, es, clock, h2, _⟩ := h
  unfold Blk at h1
  rw [h1] at h2
  cases h2

set_option maxRecDepth 100000 in
set_option maxHeartbeats 1000000 in
theorem load_add (g b : Nat) (M : LM) (id n : Int) (w : World) (h : LoadAt w g b M) (hk : (Lit.int .i64 id).wf = true) (hp : lmPos M) (hl : M.length ≤ 1000000) :
    Calls Try.prog 79 #[.pointer (some ⟨g, 0, none⟩), .int .i64 id, .int .i64 n] w fun e w' => e = .returned (.tuple #[]) ∧ LoadAt w' g b (lmAdd M id n) ∧ Chg (· = b) w w' := by
  have G := Lib.hid (load_given g b M w h)
  unfold lmAdd
  by_cases h1 : n < -1099511627776
  · have d1 : decide (n < -1099511627776) = true := by simpa using h1
    rw [if_pos (.inl h1)]
    clear h1
    go_enter Try.func79, Try.ntmps79
    go_wp2_with (go_at_call 112; with_reducible refine G.out.mono ?_; rintro e w1 ⟨rfl, rfl⟩)
    refine bodyPost_ret (results_none rfl _ _ _) rfl ?_
    exact ⟨rfl, h, Chg.refl _ _⟩
  by_cases h2 : 1099511627776 < n
  · have d1 : decide (n < -1099511627776) = false := by simpa using h1
    have d2 : decide (1099511627776 < n) = true := by simpa using h2
    rw [if_pos (.inr h2)]
    clear h1 h2
    go_enter Try.func79, Try.ntmps79
    go_wp2_with (go_at_call 112; with_reducible refine G.out.mono ?_; rintro e w1 ⟨rfl, rfl⟩)
    refine bodyPost_ret (results_none rfl _ _ _) rfl ?_
    exact ⟨rfl, h, Chg.refl _ _⟩
  have d1 : decide (n < -1099511627776) = false := by simpa using h1
  have d2 : decide (1099511627776 < n) = false := by simpa using h2
  rw [if_neg (by omega)]
  obtain ⟨r1, r2⟩ := lmGet_rng hp id
  obtain ⟨v, hv⟩ : ∃ v, lmGet M id = v := ⟨_, rfl⟩
  have hlook : (Instr.lookup 147 (.map (some b)) (.int .i64 id) false).run Try.prog w.drew = .ok (.int .i64 v) w.drew := by rw [← hv]; exact Imap.look (w := w.drew) h.2 hk
  rw [hv] at r1 r2 ⊢
  clear hv
  have c0 := h.1.cell 0
  simp at c0
  have hwrap : IntKind.i64.wrap (v + n) = v + n := i64_id _ (by omega)
  have hb1 : -9223372036854775808 ≤ v + n := by omega
  have hb2 : v + n ≤ 9223372036854775807 := by omega
  by_cases hm : 1099511627776 < v + n
  · rw [show min 1099511627776 (v + n) = 1099511627776 by omega, if_neg (by omega)]
    go_enter Try.func79, Try.ntmps79
    go_wp2_with (go_at_call 112; with_reducible refine G.out.mono ?_; rintro e w1 ⟨rfl, rfl⟩)
    refine wp_region_still_tail 14 (by kernel_rfl) (by kernel_rfl) ?_
    simp only [List.take_succ_cons, List.take_zero, List.drop_succ_cons, List.drop_zero]
    repeat still_step
    refine wpStill_nil ?_
    change wpList _ _ _ _ _ w.drew
    rw [show (if v + n < 1099511627776 then v + n else 1099511627776) = 1099511627776 by split <;> omega]
    have hd : LoadAt w.drew g b M := h
    have hcd : Chg (· = b) w w.drew := (Chg.refl _ _).drew
    clear hlook c0 h
    generalize w.drew = w1 at *
    have hne := hd.ne
    go_wp2_with (at_mapUpdate; go_must (refine wpList_mapUpdate_own _ rfl _ _ _ 147 rfl 3 3 int_law Try.underlying147 _ b M.length (lmD M) rfl hd.2 (by unfold maxLen; omega) (.int .i64 id) (.int .i64 (1099511627776)) (ilit id) rfl rfl (int_key hk) (.lit (ilit (1099511627776))) [] (plainElem_int Try.underlying3 (wf_i64_mk (by omega) (by omega))) ?_; intro w2 hown2 hg2; rw [lm_put] at hown2; have hI2 := Imap.of hown2; have hB2 := hd.1.grown hg2 (by simp; omega); have hc2 := hcd.grown hg2 (fun k hk _ => by simpa using hk.symm); have hl2 := hI2.look hk; rw [lmGet_put] at hl2; have c2 := hB2.cell 0; simp at c2; clear hown2 hg2))
    go_end0
    exact ⟨rfl, ⟨hB2, hI2⟩, hc2⟩
  · rw [show min 1099511627776 (v + n) = v + n by omega]
    by_cases hz : v + n ≤ 0
    · rw [if_pos hz]
      have dz : decide (v + n ≤ 0) = true := by simpa using hz
      go_enter Try.func79, Try.ntmps79
      go_wp2_with (go_at_call 112; with_reducible refine G.out.mono ?_; rintro e w1 ⟨rfl, rfl⟩)
      refine wp_region_still_tail 14 (by kernel_rfl) (by kernel_rfl) ?_
      simp only [List.take_succ_cons, List.take_zero, List.drop_succ_cons, List.drop_zero]
      repeat still_step
      refine wpStill_nil ?_
      change wpList _ _ _ _ _ w.drew
      rw [show (if v + n < 1099511627776 then v + n else 1099511627776) = v + n by split <;> omega]
      have hd : LoadAt w.drew g b M := h
      have hcd : Chg (· = b) w w.drew := (Chg.refl _ _).drew
      clear hlook c0 h
      generalize w.drew = w1 at *
      have hne := hd.ne
      go_wp2_with (first | (at_mapUpdate; go_must (refine wpList_mapUpdate_own _ rfl _ _ _ 147 rfl 3 3 int_law Try.underlying147 _ b M.length (lmD M) rfl hd.2 (by unfold maxLen; omega) (.int .i64 id) (.int .i64 (v + n)) (ilit id) rfl rfl (int_key hk) (.lit (ilit (v + n))) [] (plainElem_int Try.underlying3 (wf_i64_mk (by omega) (by omega))) ?_; intro w2 hown2 hg2; rw [lm_put] at hown2; have hI2 := Imap.of hown2; have hB2 := hd.1.grown hg2 (by simp; omega); have hc2 := hcd.grown hg2 (fun k hk _ => by simpa using hk.symm); have hl2 := hI2.look hk; rw [lmGet_put] at hl2; have c2 := hB2.cell 0; simp at c2; clear hown2 hg2)) | (at_delete; refine wpList_delete_own _ rfl _ _ 147 3 rfl 3 int_law Try.underlying147 _ b _ (lmD (lmPut M id (v + n))) rfl hI2 _ _ rfl (int_key hk) ?_; intro w3 hown3 ht3; rw [lm_del, lmDel_put] at hown3; have hI3 := Imap.of hown3; have hg3 := ht3.grown; have hB3 := hB2.grown hg3 (by simp; omega); have hc3 := hc2.grown hg3 (fun k hk _ => by simpa using hk.symm)))
      go_end0
      exact ⟨rfl, ⟨hB3, hI3⟩, hc3⟩
    · rw [if_neg hz]
      have dz : decide (v + n ≤ 0) = false := by simpa using hz
      go_enter Try.func79, Try.ntmps79
      go_wp2_with (go_at_call 112; with_reducible refine G.out.mono ?_; rintro e w1 ⟨rfl, rfl⟩)
      refine wp_region_still_tail 14 (by kernel_rfl) (by kernel_rfl) ?_
      simp only [List.take_succ_cons, List.take_zero, List.drop_succ_cons, List.drop_zero]
      repeat still_step
      refine wpStill_nil ?_
      change wpList _ _ _ _ _ w.drew
      rw [show (if v + n < 1099511627776 then v + n else 1099511627776) = v + n by split <;> omega]
      have hd : LoadAt w.drew g b M := h
      have hcd : Chg (· = b) w w.drew := (Chg.refl _ _).drew
      clear hlook c0 h
      generalize w.drew = w1 at *
      have hne := hd.ne
      go_wp2_with (at_mapUpdate; go_must (refine wpList_mapUpdate_own _ rfl _ _ _ 147 rfl 3 3 int_law Try.underlying147 _ b M.length (lmD M) rfl hd.2 (by unfold maxLen; omega) (.int .i64 id) (.int .i64 (v + n)) (ilit id) rfl rfl (int_key hk) (.lit (ilit (v + n))) [] (plainElem_int Try.underlying3 (wf_i64_mk (by omega) (by omega))) ?_; intro w2 hown2 hg2; rw [lm_put] at hown2; have hI2 := Imap.of hown2; have hB2 := hd.1.grown hg2 (by simp; omega); have hc2 := hcd.grown hg2 (fun k hk _ => by simpa using hk.symm); have hl2 := hI2.look hk; rw [lmGet_put] at hl2; have c2 := hB2.cell 0; simp at c2; clear hown2 hg2))
      go_end0
      exact ⟨rfl, ⟨hB2, hI2⟩, hc2⟩
end Go.Proofs.Ytdkcjfcjckpjcaa
