/- least: plain laws of the order of backends by load. -/
import Derived.Test.YtnmmjchhinfbpaaLeastA
import Derived.Test.YtnmmjchhinfbpaaLoadL
namespace Go.Proofs.Ytnmmjchhinfbpaa

theorem lessB_tr {n k n2 k2 n3 k3 i i2 i3 : Int} (a : bearB n k = true) (b : bearB n2 k2 = true) (c : bearB n3 k3 = true) (h1 : lessB n k i n2 k2 i2 = true) (h2 : lessB n2 k2 i2 n3 k3 i3 = true) : lessB n k i n3 k3 i3 = true := by
  rw [lessB_iff a b] at h1
  rw [lessB_iff b c] at h2
  rw [lessB_iff a c]
  obtain ⟨_, _, a3, _⟩ := bearB_t a
  obtain ⟨_, _, b3, _⟩ := bearB_t b
  obtain ⟨_, _, c3, _⟩ := bearB_t c
  have r1 : n * k2 * k3 = n * k3 * k2 := by rw [Int.mul_assoc, Int.mul_comm k2 k3, ← Int.mul_assoc]
  have r2 : n2 * k * k3 = n2 * k3 * k := by rw [Int.mul_assoc, Int.mul_comm k k3, ← Int.mul_assoc]
  have r3 : n3 * k2 * k = n3 * k * k2 := by rw [Int.mul_assoc, Int.mul_comm k2 k, ← Int.mul_assoc]
  rcases h1 with h1 | ⟨h1, j1⟩
  · have m1 : n * k2 * k3 < n2 * k * k3 := Int.mul_lt_mul_of_pos_right h1 (by omega)
    have m2 : n2 * k3 * k ≤ n3 * k2 * k := Int.mul_le_mul_of_nonneg_right (by omega) (by omega)
    have m3 : n * k3 * k2 < n3 * k * k2 := by omega
    exact .inl (Int.lt_of_mul_lt_mul_right m3 (by omega))
  · have m1 : n * k2 * k3 = n2 * k * k3 := by rw [h1]
    rcases h2 with h2 | ⟨h2, j2⟩
    · have m2 : n2 * k3 * k < n3 * k2 * k := Int.mul_lt_mul_of_pos_right h2 (by omega)
      have m3 : n * k3 * k2 < n3 * k * k2 := by omega
      exact .inl (Int.lt_of_mul_lt_mul_right m3 (by omega))
    · have m2 : n2 * k3 * k = n3 * k2 * k := by rw [h2]
      have m3 : n * k3 * k2 = n3 * k * k2 := by omega
      exact .inr ⟨Int.eq_of_mul_eq_mul_right (by omega) m3, by omega⟩
def lessM (M : LM) (a b : Bk) : Bool := lessB (lmGet M a.id) a.w a.id (lmGet M b.id) b.w b.id
def wOk (l : List Bk) : Prop := ∀ b ∈ l, 1 ≤ b.w ∧ b.w ≤ 1000
theorem bear_of {M : LM} (hp : lmPos M) {b : Bk} (h : 1 ≤ b.w ∧ b.w ≤ 1000) : bearB (lmGet M b.id) b.w = true := by
  have := lmGet_rng hp b.id
  exact bearB_in this.1 this.2 h.1 h.2
/-- The fold is one of them, and none of them is less loaded. -/
theorem foldB_least {M : LM} (hp : lmPos M) : ∀ (r : List Bk) (x : Bk), (1 ≤ x.w ∧ x.w ≤ 1000) → wOk r → r.foldl (betterB M) x ∈ x :: r ∧ ∀ b ∈ x :: r, lessM M b (r.foldl (betterB M) x) = false
  | [], x, _, _ => ⟨by simp, fun b hb => by simp at hb; subst hb; exact lessB_self _ _ _⟩
  | y :: r, x, hx, hr => by
    have hy := hr y (by simp)
    have hz : 1 ≤ (betterB M x y).w ∧ (betterB M x y).w ≤ 1000 := by unfold betterB; split <;> assumption
    obtain ⟨h1, h2⟩ := foldB_least hp r (betterB M x y) hz fun b hb => hr b (by simp [hb])
    have hmem : betterB M x y = x ∨ betterB M x y = y := by unfold betterB; split <;> simp
    rw [List.foldl_cons]
    generalize hF : r.foldl (betterB M) (betterB M x y) = F at *
    have hF3 : 1 ≤ F.w ∧ F.w ≤ 1000 := by
      rcases List.mem_cons.1 h1 with rfl | h
      · exact hz
      · exact hr F (by simp [h])
    refine ⟨?_, ?_⟩
    · rcases List.mem_cons.1 h1 with h | h
      · rcases hmem with e | e <;> (rw [h, e]; simp)
      · simp [h]
    · have key : ∀ b, (b = x ∨ b = y) → lessM M b F = false := by
        intro b hb
        have h0 := h2 (betterB M x y) (by simp)
        have hbw : 1 ≤ b.w ∧ b.w ≤ 1000 := by rcases hb with rfl | rfl <;> assumption
        -- b is not less than the better one
        have hn : lessM M b (betterB M x y) = false := by
          unfold betterB
          unfold lessM
          by_cases hl : lessB (lmGet M y.id) y.w y.id (lmGet M x.id) x.w x.id = true
          · rw [if_pos hl]
            rcases hb with rfl | rfl
            · cases e : lessB (lmGet M b.id) b.w b.id (lmGet M y.id) y.w y.id
              · rfl
              · have := lessB_tr (bear_of hp hbw) (bear_of hp hy) (bear_of hp hbw) e hl
                rw [lessB_self] at this; cases this
            · exact lessB_self _ _ _
          · rw [if_neg hl]
            rcases hb with rfl | rfl
            · exact lessB_self _ _ _
            · simpa using hl
        cases e : lessM M b F
        · rfl
        · -- b < F; F is not greater than the better one: then b is less than it
          exfalso
          unfold lessM at e hn h0
          have hb1 := bear_of hp (M := M) hbw
          have hb2 := bear_of hp (M := M) hF3
          have hb3 := bear_of hp (M := M) hz
          have i1 := lessB_iff (i := b.id) (i2 := F.id) hb1 hb2
          have i2 := lessB_iff (i := (betterB M x y).id) (i2 := F.id) hb3 hb2
          rcases Classical.em (lessB (lmGet M F.id) F.w F.id (lmGet M (betterB M x y).id) (betterB M x y).w (betterB M x y).id = true) with hl | hl
          · have := lessB_tr hb1 hb2 hb3 e hl
            rw [hn] at this; cases this
          · -- equal burden and equal number
            have i3 := lessB_iff (i := F.id) (i2 := (betterB M x y).id) hb2 hb3
            have n2 : ¬ _ := fun h => by rw [i2.2 h] at h0; cases h0
            have n3 : ¬ _ := fun h => hl (i3.2 h)
            have e1 := i1.1 e
            have i4 := lessB_iff (i := b.id) (i2 := (betterB M x y).id) hb1 hb3
            have n4 : ¬ _ := fun h => by rw [i4.2 h] at hn; cases hn
            obtain ⟨_, _, a3, _⟩ := bearB_t hb1
            obtain ⟨_, _, b3, _⟩ := bearB_t hb2
            obtain ⟨_, _, c3, _⟩ := bearB_t hb3
            generalize lmGet M b.id = n1 at *
            generalize lmGet M F.id = nF at *
            generalize lmGet M (betterB M x y).id = nB at *
            generalize (betterB M x y).w = kB at *
            generalize (betterB M x y).id = iB at *
            have eq1 : nF * kB = nB * F.w := by omega
            have eq2 : F.id = iB := by omega
            -- n1 * F.w ≤ nF * b.w  gives  n1 * kB ≤ nB * b.w
            have r1 : n1 * F.w * kB = n1 * kB * F.w := by rw [Int.mul_assoc, Int.mul_comm F.w kB, ← Int.mul_assoc]
            have r2 : nF * b.w * kB = nB * b.w * F.w := by
              rw [Int.mul_assoc, Int.mul_comm b.w kB, ← Int.mul_assoc, eq1, Int.mul_assoc, Int.mul_comm F.w b.w, ← Int.mul_assoc]
            rcases e1 with h | ⟨h, j⟩
            · have m1 : n1 * F.w * kB < nF * b.w * kB := Int.mul_lt_mul_of_pos_right h (by omega)
              rw [r1, r2] at m1
              exact n4 (.inl (Int.lt_of_mul_lt_mul_right m1 (by omega)))
            · have m1 : n1 * F.w * kB = nF * b.w * kB := by rw [h]
              rw [r1, r2] at m1
              exact n4 (.inr ⟨Int.eq_of_mul_eq_mul_right (by omega) m1, by omega⟩)
      intro b hb
      rcases List.mem_cons.1 hb with h | h
      · exact key b (.inl h)
      · rcases List.mem_cons.1 h with h | h
        · exact key b (.inr h)
        · exact h2 b (by simp [h])
theorem foldB_pick {M : LM} (hp : lmPos M) {l : List Bk} (hw : wOk l) (h0 : 0 < l.length) : foldB M l ∈ l ∧ ∀ b ∈ l, lessM M b (foldB M l) = false := by
  cases l with
  | nil => simp at h0
  | cons x r => exact foldB_least hp r x (hw x (by simp)) fun b hb => hw b (by simp [hb])
end Go.Proofs.Ytnmmjchhinfbpaa
