/- maglev: plain laws of how a table is filled. maglev: the filling of a table, turn by turn. maglev: how many places each backend gets. -/
import Derived.Test.YtkpkjpdhlmjchaaBase
namespace Go.Proofs.Ytkpkjpdhlmjchaa

/-! A way through m places: its j-th place. -/
def wayN (a s m j : Nat) : Nat := (a + j * s) % m
theorem wayN_lt (a s j : Nat) {m : Nat} (h : 0 < m) : wayN a s m j < m := Nat.mod_lt _ h
theorem wayN_next (a s m j : Nat) : (wayN a s m j + s) % m = wayN a s m (j + 1) := by
  unfold wayN
  rw [Nat.mod_add_mod, Nat.add_assoc, Nat.succ_mul]
theorem wayN_zero (a s m : Nat) (h : a < m) : wayN a s m 0 = a := by unfold wayN; simpa using Nat.mod_eq_of_lt h
theorem wayN_full (a s m : Nat) : wayN a s m m = wayN a s m 0 := by unfold wayN; rw [Nat.add_mul_mod_self_left, Nat.zero_mul, Nat.add_zero]
theorem wayN_inj {a s m : Nat} (hc : Nat.Coprime s m) {i j : Nat} (hi : i < m) (hj : j < m) (h : wayN a s m i = wayN a s m j) : i = j := by
  have key : ∀ i j : Nat, i ≤ j → j < m → wayN a s m i = wayN a s m j → i = j := by
    intro i j hij hj h
    unfold wayN at h
    have h1 : m ∣ (a + j * s) - (a + i * s) := Nat.dvd_of_mod_eq_zero (Nat.sub_mod_eq_zero_of_mod_eq h.symm)
    have h2 : (a + j * s) - (a + i * s) = (j - i) * s := by
      rw [Nat.add_sub_add_left, Nat.sub_mul]
    rw [h2] at h1
    have h3 : m ∣ j - i := (Nat.Coprime.symm hc).dvd_of_dvd_mul_right h1
    rcases Nat.eq_zero_or_pos (j - i) with h4 | h4
    · omega
    · have := Nat.le_of_dvd h4 h3; omega
  rcases Nat.le_total i j with h' | h'
  · exact key i j h' hj h
  · exact (key j i h' hi h.symm).symm

/-! Of m values that are all unlike and below m, none is left out. -/
theorem inj_surj : ∀ (m : Nat) (f : Nat → Nat), (∀ j, j < m → f j < m) → (∀ i j, i < m → j < m → f i = f j → i = j) → ∀ p, p < m → ∃ j, j < m ∧ f j = p := by
  intro m
  induction m with
  | zero => intro f _ _ p hp; omega
  | succ m ih =>
    intro f hf hi p hp
    by_cases hex : ∃ j, j < m + 1 ∧ f j = p
    · exact hex
    · exfalso
      -- p is missed: renumber the last value to p
      have hne : ∀ j, j < m + 1 → f j ≠ p := fun j hj e => hex ⟨j, hj, e⟩
      let sw : Nat → Nat := fun x => if x = m then p else x
      have hsw : ∀ j, j < m + 1 → sw (f j) < m + 1 ∧ sw (f j) ≠ m := by
        intro j hj
        have h1 := hf j hj
        have h2 := hne j hj
        by_cases e : f j = m
        · have : sw (f j) = p := by simp [sw, e]
          rw [this]; exact ⟨hp, fun e2 => h2 (by rw [e, e2])⟩
        · have : sw (f j) = f j := by simp [sw, e]
          rw [this]; exact ⟨h1, e⟩
      have hinj : ∀ i j, i < m + 1 → j < m + 1 → sw (f i) = sw (f j) → i = j := by
        intro i j hi' hj' h
        apply hi i j hi' hj'
        have a1 := hne i hi'
        have a2 := hne j hj'
        by_cases e1 : f i = m <;> by_cases e2 : f j = m <;> simp [sw, e1, e2] at h ⊢
        · exact absurd h.symm a2
        · exact absurd h a1
        · exact h
      obtain ⟨j, hj, he⟩ := ih (fun j => sw (f j)) (fun j hj => by have := hsw j (by omega); omega) (fun i j hi' hj' h => hinj i j (by omega) (by omega) h) (sw (f m)) (by have := hsw m (by omega); omega)
      have := hinj j m (by omega) (by omega) he
      omega
theorem wayN_surj {a s m : Nat} (hc : Nat.Coprime s m) (hm : 0 < m) {p : Nat} (hp : p < m) : ∃ j, j < m ∧ wayN a s m j = p :=
  inj_surj m (wayN a s m) (fun j _ => wayN_lt a s j hm) (fun _ _ hi hj h => wayN_inj hc hi hj h) p hp
theorem cop13 : ∀ s, 1 ≤ s → s < 13 → Nat.Coprime s 13 := by
  have h : ∀ s : Fin 13, 1 ≤ s.val → Nat.Coprime s.val 13 := by decide
  exact fun s h1 h2 => h ⟨s, h2⟩ h1
set_option maxRecDepth 100000 in
theorem cop251 : ∀ s, 1 ≤ s → s < 251 → Nat.Coprime s 251 := by
  have h : ∀ s : Fin 251, 1 ≤ s.val → Nat.gcd s.val 251 = 1 := by decide +kernel
  exact fun s h1 h2 => h ⟨s, h2⟩ h1

/-! How many places are taken. -/
def freeC (pl : List Int) : Nat := pl.countP (· == 0)
theorem freeC_pos {pl : List Int} (h : 0 < freeC pl) : ∃ p, p < pl.length ∧ pl.getD p 0 = 0 := by
  obtain ⟨x, hx, h0⟩ := List.countP_pos_iff.1 h
  obtain ⟨p, hp, rfl⟩ := List.getElem_of_mem hx
  exact ⟨p, hp, by rw [List.getD_eq_getElem?_getD, List.getElem?_eq_getElem hp]; simpa using h0⟩
theorem freeC_set {pl : List Int} {p : Nat} {v : Int} (hp : p < pl.length) (h0 : pl.getD p 0 = 0) (hv : v ≠ 0) : freeC (pl.set p v) + 1 = freeC pl := by
  rw [List.getD_eq_getElem?_getD, List.getElem?_eq_getElem hp] at h0
  have h0' : pl[p] = 0 := by simpa using h0
  have hpos : 0 < freeC pl := List.countP_pos_iff.2 ⟨pl[p], List.getElem_mem hp, by simp [h0']⟩
  unfold freeC at *
  rw [List.countP_set hp]
  simp [h0', hv]; omega
end Go.Proofs.Ytkpkjpdhlmjchaa

namespace Go.Proofs.Ytkpkjpdhlmjchaa

/-! The first free place of a way, from its j-th on (at most f steps). -/
def goJ (pl : List Int) (a s m : Nat) : Nat → Nat → Nat
  | 0, j => j
  | f + 1, j => if pl.getD (wayN a s m j) 0 = 0 then j else goJ pl a s m f (j + 1)
theorem goJ_ge (pl : List Int) (a s m : Nat) : ∀ f j, j ≤ goJ pl a s m f j
  | 0, _ => Nat.le_refl _
  | f + 1, j => by
    unfold goJ; split
    · exact Nat.le_refl _
    · exact Nat.le_trans (Nat.le_succ j) (goJ_ge pl a s m f (j + 1))
theorem goJ_taken (pl : List Int) (a s m : Nat) : ∀ f j i, j ≤ i → i < goJ pl a s m f j → pl.getD (wayN a s m i) 0 ≠ 0
  | 0, j, i, h1, h2 => by unfold goJ at h2; omega
  | f + 1, j, i, h1, h2 => by
    unfold goJ at h2; split at h2
    · omega
    · rename_i hne
      rcases Nat.eq_or_lt_of_le h1 with e | hlt
      · rw [← e]; exact hne
      · exact goJ_taken pl a s m f (j + 1) i hlt h2
theorem goJ_free (pl : List Int) (a s m : Nat) : ∀ f j i, j ≤ i → i < j + f → pl.getD (wayN a s m i) 0 = 0 → pl.getD (wayN a s m (goJ pl a s m f j)) 0 = 0 ∧ goJ pl a s m f j ≤ i
  | 0, j, i, h1, h2, _ => by omega
  | f + 1, j, i, h1, h2, h0 => by
    unfold goJ; split
    · rename_i h; exact ⟨h, h1⟩
    · rename_i hne
      have hlt : j + 1 ≤ i := by
        rcases Nat.eq_or_lt_of_le h1 with e | hlt
        · exact absurd (e ▸ h0) hne
        · exact hlt
      exact goJ_free pl a s m f (j + 1) i hlt (by omega) h0

/-! A walk along a way: at a place that is taken it is not yet there, at a free one it is. -/
theorem goJ_stop {pl : List Int} {a s m f j0 j : Nat} (h1 : j0 ≤ j) (h2 : j ≤ goJ pl a s m f j0) (h : pl.getD (wayN a s m j) 0 = 0) : j = goJ pl a s m f j0 := by
  rcases Nat.eq_or_lt_of_le h2 with e | hlt
  · exact e
  · exact absurd h (goJ_taken pl a s m f j0 j h1 hlt)
theorem goJ_on {pl : List Int} {a s m f j0 j : Nat} (h2 : j ≤ goJ pl a s m f j0) (hz : pl.getD (wayN a s m (goJ pl a s m f j0)) 0 = 0) (h : pl.getD (wayN a s m j) 0 ≠ 0) : j + 1 ≤ goJ pl a s m f j0 := by
  rcases Nat.eq_or_lt_of_le h2 with e | hlt
  · subst e; exact absurd hz h
  · exact hlt
/-! A way: whose it is, its first place, its step. A state: whose each place is, and how far each way is. -/
abbrev WayT := Int × Nat × Nat
def turnM (ws : List WayT) (m : Nat) (S : List Int × List Nat) (i : Nat) : List Int × List Nat :=
  let w := ws.getD i (0, 0, 0)
  let j := goJ S.1 w.2.1 w.2.2 m (m - S.2.getD i 0) (S.2.getD i 0)
  (S.1.set (wayN w.2.1 w.2.2 m j) w.1, S.2.set i (j + 1))
def mrun (ws : List WayT) (m : Nat) : Nat → List Int × List Nat
  | 0 => (List.replicate m 0, List.replicate ws.length 0)
  | t + 1 => turnM ws m (mrun ws m t) (t % ws.length)

/-! What holds after each turn. -/
structure MInv (ws : List WayT) (m t : Nat) (S : List Int × List Nat) : Prop where
  len : S.1.length = m
  lenJ : S.2.length = ws.length
  free : freeC S.1 + t = m
  upto : ∀ i, i < ws.length → S.2.getD i 0 ≤ m
  below : ∀ i, i < ws.length → ∀ j, j < S.2.getD i 0 → S.1.getD (wayN (ws.getD i (0, 0, 0)).2.1 (ws.getD i (0, 0, 0)).2.2 m j) 0 ≠ 0
def WaysOk (ws : List WayT) (m : Nat) : Prop := ∀ w ∈ ws, w.1 ≠ 0 ∧ w.2.1 < m ∧ Nat.Coprime w.2.2 m
theorem WaysOk.at {ws : List WayT} {m : Nat} (h : WaysOk ws m) {i : Nat} (hi : i < ws.length) : (ws.getD i (0, 0, 0)).1 ≠ 0 ∧ (ws.getD i (0, 0, 0)).2.1 < m ∧ Nat.Coprime (ws.getD i (0, 0, 0)).2.2 m := by
  rw [List.getD_eq_getElem?_getD, List.getElem?_eq_getElem hi]; exact h _ (List.getElem_mem hi)

/-! The place that a turn takes: it is free, and its way reaches it within m steps. -/
theorem turn_place {ws : List WayT} {m t : Nat} {S : List Int × List Nat} (hw : WaysOk ws m) (hS : MInv ws m t S) (ht : t < m) {i : Nat} (hi : i < ws.length) :
    let w := ws.getD i (0, 0, 0)
    let j := goJ S.1 w.2.1 w.2.2 m (m - S.2.getD i 0) (S.2.getD i 0)
    j < m ∧ S.2.getD i 0 ≤ j ∧ S.1.getD (wayN w.2.1 w.2.2 m j) 0 = 0 := by
  intro w j
  have hok := hw.at hi
  have hm : 0 < m := by omega
  obtain ⟨p, hp, hp0⟩ := freeC_pos (pl := S.1) (by have := hS.free; omega)
  rw [hS.len] at hp
  obtain ⟨q, hq, hqp⟩ := wayN_surj hok.2.2 hm (a := (ws.getD i (0, 0, 0)).2.1) hp
  have hge : S.2.getD i 0 ≤ q := by
    rcases Nat.lt_or_ge q (S.2.getD i 0) with h | h
    · exact absurd (hqp ▸ hp0) (hS.below i hi q h)
    · exact h
  have h := goJ_free S.1 w.2.1 w.2.2 m (m - S.2.getD i 0) (S.2.getD i 0) q hge (by omega) (by rw [hqp]; exact hp0)
  exact ⟨Nat.lt_of_le_of_lt h.2 hq, goJ_ge _ _ _ _ _ _, h.1⟩

theorem turn_inv {ws : List WayT} {m t : Nat} {S : List Int × List Nat} (hw : WaysOk ws m) (hS : MInv ws m t S) (ht : t < m) {i : Nat} (hi : i < ws.length) : MInv ws m (t + 1) (turnM ws m S i) := by
  have hok := hw.at hi
  have hm : 0 < m := by omega
  have hp := turn_place hw hS ht hi
  simp only at hp
  obtain ⟨hj, hge, h0⟩ := hp
  unfold turnM
  simp only
  generalize hw0 : ws.getD i (0, 0, 0) = w at *
  generalize hjj : goJ S.1 w.2.1 w.2.2 m (m - S.2.getD i 0) (S.2.getD i 0) = j at *
  have hpl : wayN w.2.1 w.2.2 m j < S.1.length := by rw [hS.len]; exact wayN_lt _ _ _ hm
  have hkeep : ∀ q, S.1.getD q 0 ≠ 0 → (S.1.set (wayN w.2.1 w.2.2 m j) w.1).getD q 0 ≠ 0 := by
    intro q hq
    by_cases e : wayN w.2.1 w.2.2 m j = q
    · subst e; simp [List.getD_eq_getElem?_getD, hpl, hok.1]
    · simpa [List.getD_eq_getElem?_getD, List.getElem?_set_ne e] using hq
  have hat : (S.1.set (wayN w.2.1 w.2.2 m j) w.1).getD (wayN w.2.1 w.2.2 m j) 0 ≠ 0 := by
    simp [List.getD_eq_getElem?_getD, hpl, hok.1]
  refine ⟨by simp [hS.len], by simp [hS.lenJ], ?_, ?_, ?_⟩
  · show freeC (S.1.set (wayN w.2.1 w.2.2 m j) w.1) + (t + 1) = m
    have := freeC_set hpl h0 hok.1
    have := hS.free
    omega
  · intro k hk
    by_cases e : i = k
    · subst e; simp [List.getD_eq_getElem?_getD, hS.lenJ, hk]; omega
    · simpa [List.getD_eq_getElem?_getD, List.getElem?_set_ne e] using hS.upto k hk
  · intro k hk q hq
    by_cases e : i = k
    · subst e
      rw [hw0]
      have hq' : q < j + 1 := by simpa [List.getD_eq_getElem?_getD, hS.lenJ, hk] using hq
      rcases Nat.lt_or_ge q (S.2.getD i 0) with h | h
      · exact hkeep _ (by have := hS.below i hi q h; rwa [hw0] at this)
      · rcases Nat.eq_or_lt_of_le (Nat.le_of_lt_succ hq') with e | hlt
        · subst e; exact hat
        · exact hkeep _ (by
            have := goJ_taken S.1 w.2.1 w.2.2 m (m - S.2.getD i 0) (S.2.getD i 0) q h (by rw [hjj]; exact hlt)
            exact this)
    · have hq' : q < S.2.getD k 0 := by simpa [List.getD_eq_getElem?_getD, List.getElem?_set_ne e] using hq
      exact hkeep _ (hS.below k hk q hq')

theorem freeC_replicate (m : Nat) : freeC (List.replicate m 0) = m := by unfold freeC; simp [List.countP_replicate]
theorem mrun_inv {ws : List WayT} {m : Nat} (hw : WaysOk ws m) (hn : 0 < ws.length) : ∀ t, t ≤ m → MInv ws m t (mrun ws m t)
  | 0, _ => by
    refine ⟨by simp [mrun], by simp [mrun], by simp [mrun, freeC_replicate], ?_, ?_⟩
    · intro i hi; simp [mrun, List.getD_eq_getElem?_getD, hi]
    · intro i hi j hj; simp [mrun, List.getD_eq_getElem?_getD, hi] at hj
  | t + 1, ht => turn_inv hw (mrun_inv hw hn t (by omega)) (by omega) (Nat.mod_lt _ hn)
end Go.Proofs.Ytkpkjpdhlmjchaa

namespace Go.Proofs.Ytkpkjpdhlmjchaa

theorem countP_set_gain {l : List Int} {p : Nat} {v : Int} (hp : p < l.length) (h0 : l.getD p 0 = 0) (hv : v ≠ 0) : (l.set p v).countP (· == v) = l.countP (· == v) + 1 := by
  rw [List.getD_eq_getElem?_getD, List.getElem?_eq_getElem hp] at h0
  have h0' : l[p] = 0 := by simpa using h0
  rw [List.countP_set hp]
  have : ¬ (0 = v) := fun h => hv h.symm
  simp [h0', this]
theorem countP_set_else {l : List Int} {p : Nat} {v u : Int} (hp : p < l.length) (h0 : l.getD p 0 = 0) (hu : u ≠ 0) (huv : v ≠ u) : (l.set p v).countP (· == u) = l.countP (· == u) := by
  rw [List.getD_eq_getElem?_getD, List.getElem?_eq_getElem hp] at h0
  have h0' : l[p] = 0 := by simpa using h0
  rw [List.countP_set hp]
  have : ¬ (0 = u) := fun h => hu h.symm
  simp [h0', this, huv]

/-! How many of the first t turns are the i-th way's, of n. -/
def turnsOf (n i t : Nat) : Nat := (t + (n - 1 - i)) / n
theorem turnsOf_succ {n i t : Nat} (hi : i < n) : turnsOf n i (t + 1) = turnsOf n i t + if t % n = i then 1 else 0 := by
  unfold turnsOf
  have hn : 0 < n := by omega
  have h1 : t + 1 + (n - 1 - i) = (t + (n - 1 - i)) + 1 := by omega
  rw [h1, Nat.succ_div]
  congr 1
  have h2 : t + (n - 1 - i) + 1 = t + (n - i) := by omega
  rw [h2]
  by_cases h : t % n = i
  · rw [if_pos h, if_pos]
    have := Nat.div_add_mod t n
    refine ⟨t / n + 1, ?_⟩
    rw [Nat.mul_succ]; omega
  · rw [if_neg h, if_neg]
    rintro ⟨c, hc⟩
    apply h
    have hc1 : 1 ≤ c := by
      rcases Nat.eq_zero_or_pos c with e | e
      · subst e; omega
      · exact e
    obtain ⟨c', rfl⟩ : ∃ c', c = c' + 1 := ⟨c - 1, by omega⟩
    rw [Nat.mul_succ] at hc
    have : t = i + n * c' := by omega
    rw [this, Nat.add_mul_mod_self_left, Nat.mod_eq_of_lt hi]
theorem turnsOf_zero {n i : Nat} (hi : i < n) : turnsOf n i 0 = 0 := by
  unfold turnsOf; rw [Nat.zero_add]; exact Nat.div_eq_of_lt (by omega)

def Apart (ws : List WayT) : Prop := ∀ i k, i < ws.length → k < ws.length → i ≠ k → (ws.getD i (0, 0, 0)).1 ≠ (ws.getD k (0, 0, 0)).1
theorem mrun_count {ws : List WayT} {m : Nat} (hw : WaysOk ws m) (hn : 0 < ws.length) (ha : Apart ws) {k : Nat} (hk : k < ws.length) : ∀ t, t ≤ m → (mrun ws m t).1.countP (· == (ws.getD k (0, 0, 0)).1) = turnsOf ws.length k t
  | 0, _ => by
    have h := (hw.at hk).1
    rw [turnsOf_zero hk]
    simp only [mrun]
    rw [List.countP_replicate]
    have : ¬ (0 = (ws.getD k (0, 0, 0)).1) := fun e => h e.symm
    simp only [beq_iff_eq, this, if_false]
  | t + 1, ht => by
    have hS := mrun_inv hw hn t (by omega)
    have hi : t % ws.length < ws.length := Nat.mod_lt _ hn
    have hp := turn_place hw hS (by omega) hi
    simp only at hp
    have ih := mrun_count hw hn ha hk t (by omega)
    rw [turnsOf_succ hk, ← ih]
    have hpl : ∀ j, wayN (ws.getD (t % ws.length) (0, 0, 0)).2.1 (ws.getD (t % ws.length) (0, 0, 0)).2.2 m j < (mrun ws m t).1.length := fun j => by rw [hS.len]; exact wayN_lt _ _ _ (by omega)
    show ((mrun ws m t).1.set _ _).countP _ = _
    by_cases e : t % ws.length = k
    · rw [if_pos e, ← e]
      exact countP_set_gain (hpl _) hp.2.2 (hw.at hi).1
    · rw [if_neg e, Nat.add_zero]
      exact countP_set_else (hpl _) hp.2.2 (hw.at hk).1 (ha _ _ hi hk e)

/-! After m turns: nothing is free; counts differ by at most one, and add up. -/
theorem turnsOf_bounds {n i m : Nat} (hi : i < n) : m / n ≤ turnsOf n i m ∧ turnsOf n i m ≤ (m + (n - 1)) / n := by
  unfold turnsOf
  exact ⟨Nat.div_le_div_right (by omega), Nat.div_le_div_right (by omega)⟩
theorem turnsOf_near {n i m : Nat} (hi : i < n) : m / n ≤ turnsOf n i m ∧ turnsOf n i m ≤ m / n + 1 := by
  have h1 := turnsOf_bounds (m := m) hi
  have hn : 0 < n := by omega
  have h3 : (m + (n - 1)) / n ≤ (m + n) / n := Nat.div_le_div_right (by omega)
  rw [Nat.add_div_right _ hn] at h3
  omega
/-! The sum of the first k backends' counts. -/
def turnsSum (n m k : Nat) : Nat := ((List.range k).map (fun i => turnsOf n i m)).sum
theorem turnsSum_succ (n m k : Nat) : turnsSum n m (k + 1) = turnsSum n m k + turnsOf n k m := by
  unfold turnsSum; rw [List.range_succ, List.map_append, List.sum_append]; simp
theorem turnsOf_even {n i k m : Nat} (hi : i < n) (hk : k < n) : turnsOf n i m ≤ turnsOf n k m + 1 := by
  have h1 := (turnsOf_bounds (m := m) hi).2
  have h2 := (turnsOf_bounds (m := m) hk).1
  have hn : 0 < n := by omega
  have h3 : (m + (n - 1)) / n ≤ (m + n) / n := Nat.div_le_div_right (by omega)
  rw [Nat.add_div_right _ hn] at h3
  omega
theorem sum_zeros (l : List Nat) : (l.map (fun _ => 0)).sum = 0 := by
  induction l with
  | nil => rfl
  | cons x l ih => rw [List.map_cons, List.sum_cons, ih]
theorem turnsOf_sum {n : Nat} (hn : 0 < n) : ∀ m, ((List.range n).map (fun i => turnsOf n i m)).sum = m
  | 0 => by
    have : (List.range n).map (fun i => turnsOf n i 0) = (List.range n).map (fun _ => 0) := by
      apply List.map_congr_left; intro i hi; exact turnsOf_zero (List.mem_range.1 hi)
    rw [this, sum_zeros]
  | m + 1 => by
    have ih := turnsOf_sum hn m
    have h1 : (List.range n).map (fun i => turnsOf n i (m + 1)) = (List.range n).map (fun i => turnsOf n i m + if m % n = i then 1 else 0) := by
      apply List.map_congr_left; intro i hi; exact turnsOf_succ (List.mem_range.1 hi)
    have h2 : ∀ (l : List Nat) (f g : Nat → Nat), (l.map (fun i => f i + g i)).sum = (l.map f).sum + (l.map g).sum := by
      intro l f g; induction l with
      | nil => rfl
      | cons x l ih => simp only [List.map_cons, List.sum_cons, ih]; omega
    have h3 : ∀ n x, x < n → ((List.range n).map (fun i => if x = i then 1 else 0)).sum = 1 := by
      intro n; induction n with
      | zero => intro x hx; omega
      | succ n ih =>
        intro x hx
        rw [List.range_succ, List.map_append, List.sum_append]
        by_cases e : x = n
        · subst e
          have : (List.range x).map (fun i => if x = i then 1 else 0) = (List.range x).map (fun _ => 0) := by
            apply List.map_congr_left; intro i hi; have := List.mem_range.1 hi; rw [if_neg (by omega)]
          rw [this, sum_zeros]; simp
        · rw [ih x (by omega)]; simp [e]
    rw [h1, h2, ih, h3 n _ (Nat.mod_lt _ hn)]
theorem turnsSum_all {n : Nat} (hn : 0 < n) (m : Nat) : turnsSum n m n = m := turnsOf_sum hn m
end Go.Proofs.Ytkpkjpdhlmjchaa
