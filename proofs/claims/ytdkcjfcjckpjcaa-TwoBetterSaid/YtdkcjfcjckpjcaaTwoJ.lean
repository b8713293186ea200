/- two: plain laws of the better one of two. -/
import Derived.Test.YtdkcjfcjckpjcaaTwoH
import Derived.Test.YtdkcjfcjckpjcaaEligA
namespace Go.Proofs.Ytdkcjfcjckpjcaa
open Go Go.RowKit Go.Deep

theorem bk_rise {l : List Bk} (h : bkRight l) : ∀ (j i : Nat) (a b : Bk), i < j → l[i]? = some a → l[j]? = some b → a.id < b.id := by
  intro j
  induction j with
  | zero => intro i a b hi; omega
  | succ j ih =>
    intro i a b hi ha hb
    obtain ⟨hj, hbe⟩ := List.getElem?_eq_some_iff.1 hb
    have hjc : l[j]? = some l[j] := List.getElem?_eq_getElem (by omega)
    have h1 := (h.2 (j + 1) b hb).2.2.2.2 (by omega) _ hjc
    by_cases e : i = j
    · subst e
      rw [ha] at hjc
      cases hjc
      exact h1
    · have := ih i a _ (by omega) ha hjc
      omega
theorem bk_uniq {l : List Bk} (h : bkRight l) {a b : Bk} (ha : a ∈ l) (hb : b ∈ l) (he : a.id = b.id) : a = b := by
  obtain ⟨i, hi, rfl⟩ := List.getElem_of_mem ha
  obtain ⟨j, hj, rfl⟩ := List.getElem_of_mem hb
  rcases Nat.lt_trichotomy i j with hlt | rfl | hlt
  · have := bk_rise h j i _ _ hlt (List.getElem?_eq_getElem hi) (List.getElem?_eq_getElem hj); omega
  · rfl
  · have := bk_rise h i j _ _ hlt (List.getElem?_eq_getElem hj) (List.getElem?_eq_getElem hi); omega

def lessBk (M : LM) (a b : Bk) : Bool := lessB (lmGet M a.id) a.w a.id (lmGet M b.id) b.w b.id
theorem betterB_eq (M : LM) (a b : Bk) : betterB M a b = if lessBk M b a then b else a := rfl
theorem bears_ok {M : LM} (hp : lmPos M) {a : Bk} (h1 : 1 ≤ a.w) (h2 : a.w ≤ 1000) : bearB (lmGet M a.id) a.w = true := by
  have := lmGet_rng hp a.id
  unfold bearB; simp; omega
theorem lessBk_iff {M : LM} (hp : lmPos M) {a b : Bk} (h1 : 1 ≤ a.w) (h2 : a.w ≤ 1000) (h3 : 1 ≤ b.w) (h4 : b.w ≤ 1000) :
    lessBk M a b = true ↔ (lmGet M a.id * b.w < lmGet M b.id * a.w ∨ (lmGet M a.id * b.w = lmGet M b.id * a.w ∧ a.id < b.id)) := by
  unfold lessBk lessB
  rw [bears_ok hp h1 h2, bears_ok hp h3 h4]
  simp
theorem better_law {M : LM} (hp : lmPos M) {l : List Bk} {m : Nat} (hl : bkLaw m l) {c d : Bk} (hc : c ∈ l) (hd : d ∈ l) :
    (betterB M c d).id = (betterB M d c).id ∧ ((betterB M c d).id = c.id ∨ (betterB M c d).id = d.id) ∧
      ((betterB M c d).id = d.id → lessBk M c d = false) ∧ ((betterB M c d).id ≠ d.id → lessBk M d c = false) := by
  have wr : ∀ x ∈ l, 1 ≤ x.w ∧ x.w ≤ 1000 := fun x hx => by
    obtain ⟨j, hj, rfl⟩ := List.getElem_of_mem hx
    have := hl.2.1.2 j _ (List.getElem?_eq_getElem hj)
    exact ⟨hl.2.2 _ hx, this.2.2.2.1⟩
  obtain ⟨c1, c2⟩ := wr c hc
  obtain ⟨d1, d2⟩ := wr d hd
  have i1 := lessBk_iff hp c1 c2 d1 d2
  have i2 := lessBk_iff hp d1 d2 c1 c2
  rw [betterB_eq, betterB_eq]
  by_cases he : c.id = d.id
  · have := bk_uniq hl.2.1 hc hd he
    subst this
    have hf : lessBk M c c = false := by
      rw [Bool.eq_false_iff]; intro h; rw [i1] at h; omega
    rw [hf]; simp
  · cases h1 : lessBk M d c <;> cases h2 : lessBk M c d
    · have n1 : ¬ _ := fun h => by rw [i1.2 h] at h2; cases h2
      have n2 : ¬ _ := fun h => by rw [i2.2 h] at h1; cases h1
      exfalso; omega
    · simp [he]
    · simp [Ne.symm he]
    · have := i1.1 h2
      have := i2.1 h1
      exfalso; omega
end Go.Proofs.Ytdkcjfcjckpjcaa
