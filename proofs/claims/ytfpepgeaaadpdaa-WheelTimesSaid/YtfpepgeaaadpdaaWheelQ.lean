/- wheel: plain law of the document's Go: the least turn, again and again. -/
import Derived.Test.YtfpepgeaaadpdaaWheelP
namespace Go.Proofs.Ytfpepgeaaadpdaa
open Go Go.RowKit Go.Deep Go.Maps Go.ChangeMaps

abbrev mAt (M : LM) (k : Nat) : Int × Int := M.getD k (0, 0)
/-- The best of the first k. -/
def bestK (G nw : Int) (M : LM) : Nat → Option Nat
  | 0 => none
  | k + 1 => if turnI G (mAt M k).2 * G ≤ nw ∧ (∀ b, bestK G nw M k = some b → turnI G (mAt M k).2 < turnI G (mAt M b).2) then some k else bestK G nw M k
theorem bestK_none {G nw : Int} {M : LM} : ∀ {k : Nat}, bestK G nw M k = none → ∀ j, j < k → ¬ turnI G (mAt M j).2 * G ≤ nw
  | 0, _, j, hj => absurd hj (by omega)
  | k + 1, h, j, hj => by
    unfold bestK at h
    split at h
    · cases h
    · rename_i hc
      by_cases e : j = k
      · subst e
        intro hle
        exact hc ⟨hle, fun b hb => by rw [h] at hb; cases hb⟩
      · exact bestK_none h j (by omega)
theorem bestK_some {G nw : Int} {M : LM} : ∀ {k b : Nat}, bestK G nw M k = some b → b < k ∧ turnI G (mAt M b).2 * G ≤ nw ∧ ∀ j, j < k → turnI G (mAt M j).2 * G ≤ nw → turnI G (mAt M b).2 < turnI G (mAt M j).2 ∨ turnI G (mAt M b).2 = turnI G (mAt M j).2 ∧ b ≤ j
  | 0, _, h => by cases h
  | k + 1, b, h => by
    unfold bestK at h
    split at h
    · rename_i hc
      cases h
      refine ⟨by omega, hc.1, fun j hj hle => ?_⟩
      by_cases e : j = k
      · subst e
        exact .inr ⟨rfl, Nat.le_refl _⟩
      · cases hb : bestK G nw M k with
        | none => exact absurd hle (bestK_none hb j (by omega))
        | some b' =>
          have h1 := hc.2 b' hb
          have h2 := (bestK_some hb).2.2 j (by omega) hle
          left
          omega
    · rename_i hc
      obtain ⟨h1, h2, h3⟩ := bestK_some h
      refine ⟨by omega, h2, fun j hj hle => ?_⟩
      by_cases e : j = k
      · subst e
        by_cases hlt : turnI G (mAt M j).2 < turnI G (mAt M b).2
        · exact absurd ⟨hle, fun b' hb' => by rw [h] at hb'; cases hb'; exact hlt⟩ hc
        · omega
      · exact h3 j (by omega) hle
theorem mAt_get {M : LM} (hs : lmSorted M) {k : Nat} (hk : k < M.length) : lmGet M (mAt M k).1 = (mAt M k).2 := by
  refine lmGet_hit (k := k) (fun j hj e => ?_) hk rfl
  have := (List.pairwise_iff_getElem.1 hs) j k (by omega) hk hj
  simp [mAt, List.getD_eq_getElem?_getD, hk, show j < M.length by omega] at e
  omega
theorem mAt_mem {M : LM} {k : Nat} (hk : k < M.length) : lmHas M (mAt M k).1 = true := by
  refine lmHas_iff.2 ⟨M[k], List.getElem_mem hk, ?_⟩
  simp [mAt, List.getD_eq_getElem?_getD, hk]
theorem mAt_of {M : LM} {x : Int} (h : lmHas M x = true) : ∃ k, k < M.length ∧ (mAt M k).1 = x := by
  obtain ⟨y, hy, rfl⟩ := lmHas_iff.1 h
  obtain ⟨k, hk, rfl⟩ := List.getElem_of_mem hy
  exact ⟨k, hk, by simp [mAt, List.getD_eq_getElem?_getD, hk]⟩
theorem delAll_sorted : ∀ (D : List Int) {M : LM}, lmSorted M → lmSorted (delAll M D)
  | [], _, h => h
  | x :: r, _, h => delAll_sorted r (lmDel_sorted h x)
theorem delAll_len : ∀ (D : List Int) (M : LM), (delAll M D).length ≤ M.length
  | [], _ => Nat.le_refl _
  | x :: r, M => Nat.le_trans (delAll_len r _) (lmDel_length M x)
theorem delAll_snoc (D : List Int) (M : LM) (x : Int) : delAll M (D ++ [x]) = lmDel (delAll M D) x := delAll_append D M x
theorem lmDel_shorter {M : LM} {x : Int} (h : lmHas M x = true) : (lmDel M x).length < M.length := by
  unfold lmDel
  obtain ⟨y, hy, rfl⟩ := lmHas_iff.1 h
  rw [List.length_filter_lt_length_iff_exists]
  exact ⟨y, hy, by simp⟩
/-- What the document's Go has gathered so far. -/
structure GoI (G nw : Int) (M : LM) (D : List Int) : Prop where
  sub : ∀ x ∈ D, lmHas M x = true ∧ turnI G (lmGet M x) * G ≤ nw
  nd : D.Nodup
  pw : D.Pairwise (leT G M)
  low : ∀ x ∈ D, ∀ y, lmHas (delAll M D) y = true → turnI G (lmGet M y) * G ≤ nw → leT G M x y
theorem GoI.nil (G nw : Int) (M : LM) : GoI G nw M [] := ⟨fun _ h => by simp at h, List.nodup_nil, List.Pairwise.nil, fun _ h => by simp at h⟩
theorem GoI.step {G nw : Int} {M : LM} {D : List Int} (h : GoI G nw M D) (hs : lmSorted M) {b : Nat} (hb : bestK G nw (delAll M D) (delAll M D).length = some b) : GoI G nw M (D ++ [(mAt (delAll M D) b).1]) := by
  obtain ⟨h1, h2, h3⟩ := bestK_some hb
  have hs2 := delAll_sorted D hs
  have hm := mAt_mem h1
  have hg := mAt_get hs2 h1
  have hm2 := (lmHas_delAll D M).1 hm
  have hg2 := lmGet_delAll D M hm2.2
  have hle : turnI G (lmGet M (mAt (delAll M D) b).1) * G ≤ nw := by
    rw [← hg2, hg]
    exact h2
  have hlow : ∀ y, lmHas (delAll M D) y = true → turnI G (lmGet M y) * G ≤ nw → leT G M (mAt (delAll M D) b).1 y := by
    intro y hy hyle
    obtain ⟨j, hj, rfl⟩ := mAt_of hy
    have hy2 := (lmHas_delAll D M).1 hy
    have e2 := lmGet_delAll D M hy2.2
    have e3 := mAt_get hs2 hj
    have h4 := h3 j hj (by rw [← e3, e2]; exact hyle)
    unfold leT
    rw [← hg2, hg, ← e2, e3]
    rcases h4 with h4 | ⟨h4, h5⟩
    · exact .inl h4
    · right
      refine ⟨h4, ?_⟩
      by_cases e : b = j
      · rw [e]
        exact Int.le_refl _
      · have := (List.pairwise_iff_getElem.1 hs2) b j h1 hj (by omega)
        simp [mAt, List.getD_eq_getElem?_getD, h1, hj]
        omega
  generalize (mAt (delAll M D) b).1 = x at *
  refine ⟨fun y hy => ?_, ?_, ?_, fun y hy z hz hzl => ?_⟩
  · rcases List.mem_append.1 hy with hy | hy
    · exact h.sub y hy
    · rw [List.mem_singleton] at hy
      subst hy
      exact ⟨hm2.1, hle⟩
  · rw [List.nodup_append]
    exact ⟨h.nd, by simp, fun a ha c hc e => by
      rw [List.mem_singleton] at hc
      subst hc e
      exact hm2.2 ha⟩
  · rw [List.pairwise_append]
    exact ⟨h.pw, by simp, fun a ha c hc => by
      rw [List.mem_singleton] at hc
      subst hc
      exact h.low a ha c hm hle⟩
  · rw [delAll_snoc, lmHas_del] at hz
    rcases List.mem_append.1 hy with hy | hy
    · exact h.low y hy z hz.1 hzl
    · rw [List.mem_singleton] at hy
      subst hy
      exact hlow z hz.1 hzl
/-- What both wheels hand out is one list. -/
theorem GoI.done {G nw : Int} {M : LM} {D S : List Int} (h : GoI G nw M D) (hs : lmSorted M) (hb : bestK G nw (delAll M D) (delAll M D).length = none) (hS : ∀ x, x ∈ S ↔ lmHas M x = true ∧ turnI G (lmGet M x) * G ≤ nw) (hn : S.Nodup) (hp : S.Pairwise (leT G M)) : S = D := by
  refine leT_eq S D hp h.pw ((List.perm_ext_iff_of_nodup hn h.nd).2 fun x => ?_)
  rw [hS]
  refine ⟨fun ⟨h1, h2⟩ => ?_, h.sub x⟩
  by_cases hx : x ∈ D
  · exact hx
  exfalso
  have h3 : lmHas (delAll M D) x = true := (lmHas_delAll D M).2 ⟨h1, hx⟩
  obtain ⟨j, hj, rfl⟩ := mAt_of h3
  have e2 := lmGet_delAll D M hx
  have e3 := mAt_get (delAll_sorted D hs) hj
  exact bestK_none hb j hj (by rw [← e3, e2]; exact h2)
end Go.Proofs.Ytfpepgeaaadpdaa
