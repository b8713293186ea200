/- maglev: the way of a backend, as the hashes give it. shift: plain laws of what moves between two tables. -/
import Derived.Test.YtkpkjpdhlmjchaaMagS
import Derived.Test.YtkpkjpdhlmjchaaTuple
import Derived.Test.YtkpkjpdhlmjchaaSipQ
namespace Go.Proofs.Ytkpkjpdhlmjchaa

theorem octB_12 (a b : Nat) : octB (a * 65536 + b % 65536) 3 = octB a 1 ++ octB b 2 := by
  simp only [octB, octAt, List.range, List.range.loop, List.map_cons, List.map_nil, List.cons_append, List.nil_append]
  rw [u8_eq (x := (a * 65536 + b % 65536) / 2 ^ (8 * (3 - 1 - 0))) (y := a / 2 ^ (8 * (1 - 1 - 0))) (by first | (simp; done) | (simp; omega)), u8_eq (x := (a * 65536 + b % 65536) / 2 ^ (8 * (3 - 1 - 1))) (y := b / 2 ^ (8 * (2 - 1 - 0))) (by first | (simp; done) | (simp; omega)), u8_eq (x := (a * 65536 + b % 65536) / 2 ^ (8 * (3 - 1 - 2))) (y := b / 2 ^ (8 * (2 - 1 - 1))) (by first | (simp; done) | (simp; omega))]

def mhash (ka kb : Int) (kind id : Nat) : Nat := (sipHash ka kb ⟨(octB (kind * 65536 + id) 3).toArray⟩).toNat
def wayOf (ka kb : Int) (m : Nat) (id : Int) : WayT := (id, mhash ka kb 1 id.toNat % m, mhash ka kb 2 id.toNat % (m - 1) + 1)
theorem wayOf_ok {ka kb : Int} {m : Nat} (hm : m = 13 ∨ m = 251) {l : List Int} (hl : ∀ i ∈ l, i ≠ 0) : WaysOk (l.map (wayOf ka kb m)) m := by
  intro w hw
  obtain ⟨i, hi, rfl⟩ := List.mem_map.1 hw
  refine ⟨hl i hi, Nat.mod_lt _ (by omega), ?_⟩
  have h := Nat.mod_lt (mhash ka kb 2 i.toNat) (show m - 1 > 0 by omega)
  rcases hm with rfl | rfl
  · exact cop13 _ (Nat.le_add_left _ _) (by unfold wayOf; simp only at h ⊢; omega)
  · exact cop251 _ (Nat.le_add_left _ _) (by unfold wayOf; simp only at h ⊢; omega)
theorem wayOf_apart {ka kb : Int} {m : Nat} {l : List Int} (hl : l.Nodup) : Apart (l.map (wayOf ka kb m)) := by
  intro i k hi hk hne
  rw [List.length_map] at hi hk
  have e : ∀ x, x < l.length → ((l.map (wayOf ka kb m)).getD x (0, 0, 0)).1 = l.getD x 0 := by
    intro x hx; simp [List.getD_eq_getElem?_getD, hx, wayOf]
  rw [e i hi, e k hk]
  simp only [List.getD_eq_getElem?_getD, List.getElem?_eq_getElem hi, List.getElem?_eq_getElem hk, Option.getD_some]
  intro h
  rcases Nat.lt_or_gt_of_ne hne with h' | h'
  · exact (List.pairwise_iff_getElem.1 hl) i k hi hk h' h
  · exact (List.pairwise_iff_getElem.1 hl) k i hk hi h' h.symm
/-! The table of a set. -/
def tableOf (ka kb : Int) (m : Nat) (l : List Int) : List Int := (mrun (l.map (wayOf ka kb m)) m m).1
theorem tableOf_len {ka kb : Int} {m : Nat} (hm : m = 13 ∨ m = 251) {l : List Int} (h0 : 0 < l.length) (hl : ∀ i ∈ l, i ≠ 0) : (tableOf ka kb m l).length = m := (mrun_inv (wayOf_ok hm hl) (by simpa using h0) m (Nat.le_refl m)).len
theorem tableOf_full {ka kb : Int} {m : Nat} (hm : m = 13 ∨ m = 251) {l : List Int} (h0 : 0 < l.length) (hl : ∀ i ∈ l, i ≠ 0) : ∀ x ∈ tableOf ka kb m l, x ≠ 0 := by
  have h := (mrun_inv (wayOf_ok (ka := ka) (kb := kb) hm hl) (by simpa using h0) m (Nat.le_refl m)).free
  intro x hx e
  subst e
  have : 0 < freeC (tableOf ka kb m l) := List.countP_pos_iff.2 ⟨0, hx, by simp⟩
  unfold tableOf at this
  omega
theorem mrun_mem {ws : List WayT} {m : Nat} (hn : 0 < ws.length) : ∀ t, ∀ x ∈ (mrun ws m t).1, x = 0 ∨ ∃ w ∈ ws, w.1 = x
  | 0, x, hx => .inl (List.eq_of_mem_replicate hx)
  | t + 1, x, hx => by
    have hx' : x ∈ (mrun ws m t).1.set _ _ := hx
    rcases List.mem_or_eq_of_mem_set hx' with h | h
    · exact mrun_mem hn t x h
    · right
      have hi : t % ws.length < ws.length := Nat.mod_lt _ hn
      refine ⟨ws.getD (t % ws.length) (0, 0, 0), ?_, h.symm⟩
      rw [List.getD_eq_getElem?_getD, List.getElem?_eq_getElem hi]
      exact List.getElem_mem hi
theorem tableOf_mem {ka kb : Int} {m : Nat} (hm : m = 13 ∨ m = 251) {l : List Int} (h0 : 0 < l.length) (hl : ∀ i ∈ l, i ≠ 0) {x : Int} (hx : x ∈ tableOf ka kb m l) : x ∈ l := by
  rcases mrun_mem (by simpa using h0) m x hx with h | ⟨w, hw, h⟩
  · exact absurd h (tableOf_full hm h0 hl x hx)
  · obtain ⟨i, hi, rfl⟩ := List.mem_map.1 hw
    exact h ▸ hi
/-! How often each backend stands in it. -/
theorem tableOf_count {ka kb : Int} {m : Nat} (hm : m = 13 ∨ m = 251) {l : List Int} (h0 : 0 < l.length) (hl : ∀ i ∈ l, i ≠ 0) (hd : l.Nodup) {k : Nat} (hk : k < l.length) : (tableOf ka kb m l).countP (· == l.getD k 0) = turnsOf l.length k m := by
  have h := mrun_count (wayOf_ok (ka := ka) (kb := kb) hm hl) (by simpa using h0) (wayOf_apart hd) (k := k) (by simpa using hk) m (Nat.le_refl m)
  have e : ((l.map (wayOf ka kb m)).getD k (0, 0, 0)).1 = l.getD k 0 := by simp [List.getD_eq_getElem?_getD, hk, wayOf]
  rw [e, List.length_map] at h
  exact h
theorem tableOf_zero {ka kb : Int} {m : Nat} (hm : m = 13 ∨ m = 251) {l : List Int} (h0 : 0 < l.length) (hl : ∀ i ∈ l, i ≠ 0) : (tableOf ka kb m l).countP (· == 0) = 0 := by
  rw [List.countP_eq_zero]
  intro x hx
  simpa using tableOf_full hm h0 hl x hx
end Go.Proofs.Ytkpkjpdhlmjchaa

namespace Go.Proofs.Ytkpkjpdhlmjchaa

/-! How many places differ, and how many of these hold what the second set lacks; up to the k-th place. -/
def mvC (p q : List Int) (k : Nat) : Nat := (List.range k).countP (fun i => p.getD i 0 != q.getD i 0)
def muC (h : Int → Bool) (p q : List Int) (k : Nat) : Nat := (List.range k).countP (fun i => p.getD i 0 != q.getD i 0 && !h (p.getD i 0))
theorem mvC_succ (p q : List Int) (k : Nat) : mvC p q (k + 1) = mvC p q k + if p.getD k 0 != q.getD k 0 then 1 else 0 := by
  unfold mvC; rw [List.range_succ, List.countP_append, List.countP_singleton]
theorem muC_succ (h : Int → Bool) (p q : List Int) (k : Nat) : muC h p q (k + 1) = muC h p q k + if p.getD k 0 != q.getD k 0 && !h (p.getD k 0) then 1 else 0 := by
  unfold muC; rw [List.range_succ, List.countP_append, List.countP_singleton]
theorem mvC_le (p q : List Int) (k : Nat) : mvC p q k ≤ k := by
  unfold mvC
  have := List.countP_le_length (p := fun i => p.getD i 0 != q.getD i 0) (l := List.range k)
  simpa using this
theorem muC_le (h : Int → Bool) (p q : List Int) (k : Nat) : muC h p q k ≤ mvC p q k := by
  unfold mvC muC
  exact List.countP_mono_left (fun x _ hx => by simp only [Bool.and_eq_true] at hx; exact hx.1)
theorem mvC_self (p : List Int) (k : Nat) : mvC p p k = 0 := by
  unfold mvC; rw [List.countP_eq_zero]; intro x _; simp
theorem muC_self (h : Int → Bool) (p : List Int) (k : Nat) : muC h p p k = 0 := Nat.le_antisymm (by have := muC_le h p p k; rw [mvC_self] at this; exact this) (Nat.zero_le _)
theorem range_getD (p : List Int) : (List.range p.length).map (fun i => p.getD i 0) = p := by
  apply List.ext_getElem
  · simp
  · intro i h1 h2
    simp only [List.getElem_map, List.getElem_range, List.getD_eq_getElem?_getD, List.getElem?_eq_getElem h2, Option.getD_some]

/-! As one goes: what must move are its places. -/
theorem muC_gone {h : Int → Bool} {p q : List Int} {id : Int} (hl : q.length = p.length) (hq : ∀ x ∈ q, h x = true) (hp : ∀ x ∈ p, (h x = false ↔ x = id)) : muC h p q p.length = p.countP (· == id) := by
  have h1 : muC h p q p.length = (List.range p.length).countP (fun i => p.getD i 0 == id) := by
    unfold muC
    apply List.countP_congr
    intro i hi
    have hi' := List.mem_range.1 hi
    have m1 : p.getD i 0 ∈ p := by rw [List.getD_eq_getElem?_getD, List.getElem?_eq_getElem hi']; exact List.getElem_mem hi'
    have m2 : q.getD i 0 ∈ q := by rw [List.getD_eq_getElem?_getD, List.getElem?_eq_getElem (hl ▸ hi')]; exact List.getElem_mem (hl ▸ hi')
    have a1 := hp _ m1
    have a2 := hq _ m2
    generalize p.getD i 0 = x at *
    generalize q.getD i 0 = y at *
    by_cases e : x = id
    · have hx := a1.2 e
      have : x ≠ y := fun e2 => by rw [e2, a2] at hx; cases hx
      simp [e, e ▸ hx, e ▸ this]
    · have hx : h x = true := by
        cases hh : h x
        · exact absurd (a1.1 hh) e
        · rfl
      simp [e, hx]
  rw [h1]
  conv => rhs; rw [← range_getD p]
  rw [List.countP_map]
  rfl
end Go.Proofs.Ytkpkjpdhlmjchaa
