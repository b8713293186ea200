/- part: plain laws of spreading and of instances. -/
import Derived.Test.YtdkcjfcjckpjcaaPartD
namespace Go.Proofs.Ytdkcjfcjckpjcaa
open Go Go.RowKit Go.Deep

theorem sum_ind (p : Nat) : ∀ n : Nat, ((List.range n).map fun j : Nat => if (p : Int) = (j : Int) then (1 : Int) else 0).sum = if p < n then 1 else 0
  | 0 => by simp
  | n + 1 => by
    rw [List.range_succ, List.map_append, List.sum_append, sum_ind p n]
    by_cases h : p < n
    · rw [if_pos h, if_pos (by omega)]; simp; omega
    · by_cases h2 : p = n
      · subst h2; simp
      · rw [if_neg h, if_neg (by omega)]; simp; omega
theorem sum_map_add (f g : Nat → Int) : ∀ l : List Nat, (l.map fun j => f j + g j).sum = (l.map f).sum + (l.map g).sum
  | [] => by simp
  | x :: l => by simp [sum_map_add f g l]; omega
theorem spread_sum (a b : Int) (n : Nat) (h : mayB (n : Int) = true) : ∀ l : List Tup, (spreadL a b l n).sum = l.length := by
  intro l
  unfold spreadL
  rw [if_pos h, Int.toNat_natCast]
  induction l with
  | nil =>
    have : ∀ l : List Nat, (l.map fun j => ((cntP a b [] n j : Nat) : Int)).sum = 0 := fun l => by induction l <;> simp_all [cntP]
    simpa using this _
  | cons t l ih =>
    obtain ⟨p, hp, hpn⟩ : ∃ p : Nat, partI a b t n = p ∧ p < n := by
      have := partI_lt a b t n h
      exact ⟨(partI a b t n).toNat, by omega, by omega⟩
    have e : (fun j => ((cntP a b (t :: l) n j : Nat) : Int)) = fun j => ((cntP a b l n j : Nat) : Int) + if (p : Int) = (j : Int) then 1 else 0 := by
      funext j
      unfold cntP
      rw [List.countP_cons, hp]
      by_cases h : (p : Int) = (j : Int) <;> simp [h]
    rw [e, sum_map_add, ih, sum_ind, if_pos hpn]
    simp
theorem spread_nonneg (a b : Int) (l : List Tup) (n : Int) : ∀ x ∈ spreadL a b l n, 0 ≤ x := by
  intro x hx
  unfold spreadL at hx
  split at hx
  · obtain ⟨j, _, rfl⟩ := List.mem_map.1 hx; omega
  · simp at hx
theorem sum_nonneg : ∀ {l : List Int}, (∀ x ∈ l, 0 ≤ x) → 0 ≤ l.sum
  | [], _ => by simp
  | x :: l, h => by
    have h1 := h x (by simp)
    have h2 := sum_nonneg (l := l) fun y hy => h y (by simp [hy])
    simp; omega
theorem sum_take (l : List Int) (h : ∀ x ∈ l, 0 ≤ x) (k : Nat) : 0 ≤ (l.take k).sum ∧ (l.take k).sum ≤ l.sum := by
  have h1 := sum_nonneg (l := l.take k) fun x hx => h x (List.mem_of_mem_take hx)
  have h2 := sum_nonneg (l := l.drop k) fun x hx => h x (List.mem_of_mem_drop hx)
  have h3 : l.sum = (l.take k).sum + (l.drop k).sum := by rw [← List.sum_append, List.take_append_drop]
  omega
theorem sum_take_succ (l : List Int) (k : Nat) (hk : k < l.length) : (l.take (k + 1)).sum = (l.take k).sum + l.getD k 0 := by
  rw [List.take_succ_eq_append_getElem hk, List.sum_append, List.getD_eq_getElem?_getD, List.getElem?_eq_getElem hk]; simp

def cntT (al : List Bool) : Nat := al.countP id
theorem cntT_le (al : List Bool) : cntT al ≤ al.length := List.countP_le_length
theorem cntT_succ (al : List Bool) (k : Nat) (hk : k < al.length) : cntT (al.take (k + 1)) = cntT (al.take k) + if al.getD k false then 1 else 0 := by
  unfold cntT
  rw [List.take_succ_eq_append_getElem hk, List.countP_append, List.getD_eq_getElem?_getD, List.getElem?_eq_getElem hk]
  cases al[k] <;> simp
theorem cntT_pos (al : List Bool) : 0 < cntT al ↔ ∃ i, i < al.length ∧ al.getD i false = true := by
  unfold cntT
  rw [List.countP_pos_iff]
  constructor
  · rintro ⟨x, hx, h⟩
    obtain ⟨i, hi, rfl⟩ := List.getElem_of_mem hx
    exact ⟨i, hi, by rw [List.getD_eq_getElem?_getD, List.getElem?_eq_getElem hi]; simpa using h⟩
  · rintro ⟨i, hi, h⟩
    rw [List.getD_eq_getElem?_getD, List.getElem?_eq_getElem hi] at h
    exact ⟨al[i], List.getElem_mem hi, by simpa using h⟩
theorem cntT_set (al : List Bool) (i : Nat) (hi : i < al.length) (h : al.getD i false = true) : cntT (al.set i false) + 1 = cntT al := by
  unfold cntT
  rw [List.countP_set hi]
  rw [List.getD_eq_getElem?_getD, List.getElem?_eq_getElem hi] at h
  simp at h
  have : 0 < al.countP id := List.countP_pos_iff.2 ⟨al[i], List.getElem_mem hi, by simpa using h⟩
  simp [h]; omega

theorem instV_cases (al : List Bool) (q : Nat) : (∃ k, k < al.length ∧ (∀ i, i < k → aliveF al q i = false) ∧ aliveF al q k = true ∧ instV al q = ((q + k) % al.length, true)) ∨ ((∀ i, i < al.length → aliveF al q i = false) ∧ instV al q = (0, false)) := by
  unfold instV
  cases h : (List.range al.length).find? (aliveF al q) with
  | none => exact .inr ⟨fun i hi => by have := List.find?_eq_none.1 h i (List.mem_range.2 hi); simpa using this, rfl⟩
  | some k =>
    rw [List.find?_eq_some_iff_getElem] at h
    obtain ⟨ht, i, hi, rfl, hlt⟩ := h
    simp at hi ht hlt
    refine .inl ⟨i, hi, fun j hj => ?_, ht, by simp⟩
    exact hlt j hj
theorem instV_alive {al : List Bool} {q : Nat} (h : (instV al q).2 = true) : (instV al q).1 < al.length ∧ al.getD (instV al q).1 false = true := by
  rcases instV_cases al q with ⟨k, hk, _, ht, e⟩ | ⟨_, e⟩
  · rw [e]; exact ⟨Nat.mod_lt _ (by omega), ht⟩
  · rw [e] at h; cases h
theorem reach (n q j : Nat) (hq : q < n) (hj : j < n) : ∃ i, i < n ∧ (q + i) % n = j := by
  by_cases h : q ≤ j
  · exact ⟨j - q, by omega, by rw [show q + (j - q) = j by omega]; exact Nat.mod_eq_of_lt hj⟩
  · exact ⟨j + n - q, by omega, by rw [show q + (j + n - q) = j + n by omega, Nat.add_mod_right]; exact Nat.mod_eq_of_lt hj⟩
theorem instV_ok (al : List Bool) (q : Nat) (hq : q < al.length ∨ al.length = 0) : (instV al q).2 = decide (0 < cntT al) := by
  rcases instV_cases al q with ⟨k, hk, _, ht, e⟩ | ⟨hn, e⟩
  · rw [e]
    have : 0 < cntT al := (cntT_pos al).2 ⟨(q + k) % al.length, Nat.mod_lt _ (by omega), ht⟩
    simp [this]
  · rw [e]
    have : ¬ 0 < cntT al := by
      rw [cntT_pos]
      rintro ⟨j, hj, ht⟩
      obtain ⟨i, hi, hij⟩ := reach al.length q j (by omega) hj
      have := hn i hi
      unfold aliveF at this
      rw [hij, ht] at this
      cases this
    simp [this]
theorem getD_set_ne (al : List Bool) {i j : Nat} (h : i ≠ j) : (al.set i false).getD j false = al.getD j false := by
  simp [List.getD_eq_getElem?_getD, List.getElem?_set_ne h]
theorem getD_set_le (al : List Bool) (i j : Nat) (h : al.getD j false = false) : (al.set i false).getD j false = false := by
  by_cases e : i = j
  · subst e
    by_cases hi : i < al.length <;> simp [List.getD_eq_getElem?_getD, hi]
  · rw [getD_set_ne al e, h]
theorem instV_set (al : List Bool) (q i : Nat) (h : (instV al q).2 = true) (hi : i ≠ (instV al q).1) : instV (al.set i false) q = instV al q := by
  rcases instV_cases al q with ⟨k, hk, hlt, ht, e⟩ | ⟨hn, e⟩
  · rw [e] at hi ⊢
    have hl : (al.set i false).length = al.length := by simp
    rw [instV_hit (al := al.set i false) (k := k) ?_ (by omega) ?_, hl]
    · intro j hj
      have := hlt j hj
      unfold aliveF at this ⊢
      rw [hl]
      exact getD_set_le al i _ this
    · unfold aliveF at ht ⊢
      rw [hl, getD_set_ne al hi]
      exact ht
  · rw [e] at h; cases h
end Go.Proofs.Ytdkcjfcjckpjcaa
