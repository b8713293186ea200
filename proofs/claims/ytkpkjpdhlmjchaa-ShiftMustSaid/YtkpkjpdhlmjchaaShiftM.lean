/- shift: the plain law of ShiftMust. -/
import Derived.Test.YtkpkjpdhlmjchaaShiftY
namespace Go.Proofs.Ytkpkjpdhlmjchaa

theorem hasB_ids {l : List Bk} {x : Int} : hasB l x = true ↔ x ∈ l.map Bk.id := by
  unfold hasB
  rw [List.any_eq_true, List.mem_map]
  constructor
  · rintro ⟨b, hb, he⟩; exact ⟨b, hb, by simpa using he⟩
  · rintro ⟨b, hb, he⟩; exact ⟨b, hb, by simpa using he⟩
theorem hasB_dr {l : List Bk} {id x : Int} (hx : x ∈ l.map Bk.id) : hasB (dr l id) x = false ↔ x = id := by
  constructor
  · intro h
    rcases Classical.em (x = id) with e | e
    · exact e
    · obtain ⟨b, hb, rfl⟩ := List.mem_map.1 hx
      have : hasB (dr l id) b.id = true := hasB_ids.2 (List.mem_map.2 ⟨b, List.mem_filter.2 ⟨hb, by simpa using e⟩, rfl⟩)
      rw [this] at h; cases h
  · rintro rfl
    cases h : hasB (dr l x) x
    · rfl
    · obtain ⟨b, hb, he⟩ := List.mem_map.1 (hasB_ids.1 h)
      have := (List.mem_filter.1 hb).2
      rw [he] at this
      simp at this
theorem newE_of {m : Nat} (hm : m = 13 ∨ m = 251) {n : Nat} (h0 : 0 < n) (h1 : n ≤ m) : newE (m : Int) n = 0 := by
  unfold newE
  have hs : sizedB (m : Int) = true := by rcases hm with rfl | rfl <;> rfl
  rw [if_pos hs, if_neg (by omega), if_neg (by omega)]
theorem shMust_law {ka kb : Int} {m : Nat} (hm : m = 13 ∨ m = 251) {l : List Bk} (h : bkRight l) (h2 : 2 ≤ l.length) (h13 : l.length ≤ 13) {k : Nat} {b : Bk} (hb : l[k]? = some b) :
    shE m l l = 0 ∧ shV ka kb m l l = ⟨m, 0, 0, 0⟩ ∧ drE m l b.id = 0 ∧ ∃ MV MU : Nat, drV ka kb m l b.id = ⟨m, MV, MU, (MV - MU : Nat)⟩ ∧ m / l.length ≤ MU ∧ MU ≤ (m + (l.length - 1)) / l.length ∧ MU ≤ MV ∧ MV ≤ m := by
  have hk : k < l.length := (List.getElem?_eq_some_iff.1 hb).1
  have hbm : b ∈ l := List.mem_of_getElem? hb
  have e0 : newE (m : Int) l.length = 0 := newE_of hm (by omega) (by omega)
  have hE : shE m l l = 0 := by unfold shE; rw [if_pos e0, e0]
  have hh : hasB l b.id = true := hasB_ids.2 (List.mem_map.2 ⟨b, hbm, rfl⟩)
  have hids := bkRight_ids h
  have hd : ∀ x ∈ dr l b.id, 1 ≤ x.id ∧ x.id ≤ 65535 := fun x hx => hids x (List.mem_filter.1 hx).1
  have hdl : (dr l b.id).length ≤ l.length := List.length_filter_le _ _
  have hd0 : 0 < (dr l b.id).length := by
    -- another backend stands beside b
    obtain ⟨j, hj, hne⟩ : ∃ j, j < l.length ∧ j ≠ k := ⟨if k = 0 then 1 else 0, by split <;> omega, by split <;> omega⟩
    have hid : (l[j]).id ≠ b.id := by
      intro e
      have hn := bkRight_nodup h
      have hbk : l[k] = b := (List.getElem?_eq_some_iff.1 hb).2
      rw [← hbk] at e
      exact hne ((List.getElem_inj (xs := l.map Bk.id) (h₀ := by simpa using hj) (h₁ := by simpa using hk) hn).1 (by simpa using e))
    exact List.length_pos_of_mem (a := l[j]) (List.mem_filter.2 ⟨List.getElem_mem hj, by simpa using hid⟩)
  have e1 : newE (m : Int) (dr l b.id).length = 0 := newE_of hm hd0 (by omega)
  have hE2 : shE m l (dr l b.id) = 0 := by unfold shE; rw [if_pos e0, e1]
  have hn0 : ∀ i ∈ l.map Bk.id, i ≠ 0 := bkRight_ne h
  have hn0d : ∀ i ∈ (dr l b.id).map Bk.id, i ≠ 0 := fun i hi => by
    obtain ⟨x, hx, rfl⟩ := List.mem_map.1 hi
    have := hd x hx
    omega
  have hPl : (tableOf ka kb m (l.map Bk.id)).length = m := tableOf_len hm (by simp; omega) hn0
  have hQl : (tableOf ka kb m ((dr l b.id).map Bk.id)).length = m := tableOf_len hm (by simpa using hd0) hn0d
  refine ⟨hE, ?_, ?_, ?_⟩
  · unfold shV
    rw [hE, if_pos rfl]
    simp only [Int.toNat_natCast, mvC_self, muC_self]
    rfl
  · unfold drE; rw [hh, if_pos rfl, hE2]
  · refine ⟨mvC (tableOf ka kb m (l.map Bk.id)) (tableOf ka kb m ((dr l b.id).map Bk.id)) m, muC (hasB (dr l b.id)) (tableOf ka kb m (l.map Bk.id)) (tableOf ka kb m ((dr l b.id).map Bk.id)) m, ?_, ?_, ?_, muC_le _ _ _ _, mvC_le _ _ _⟩
    · unfold drV shV
      rw [hh, if_pos rfl, hE2, if_pos rfl, Int.toNat_natCast]
    all_goals
      have hgone := muC_gone (h := hasB (dr l b.id)) (p := tableOf ka kb m (l.map Bk.id)) (q := tableOf ka kb m ((dr l b.id).map Bk.id)) (id := b.id) (by rw [hPl, hQl]) (fun x hx => hasB_ids.2 (tableOf_mem hm (by simpa using hd0) hn0d hx)) (fun x hx => hasB_dr (tableOf_mem hm (by simp; omega) hn0 hx))
      rw [hPl, even_count hm h hb] at hgone
      have := turnsOf_bounds (m := m) hk
      rw [hgone]
      omega
end Go.Proofs.Ytkpkjpdhlmjchaa
