/- A slice of structs of one-cell fields as a list of records. -/
import Derived.Test.YtodbgjnccngljaaDoorFT
namespace Go.Proofs.YtodbgjnccngljaaDoor
open Go Go.RowKit

theorem flat_at {α : Type} (cells : α → List Value) (m : Nat) (hm : ∀ a, (cells a).length = m) : ∀ (l : List α) (k j : Nat) (v : α), l[k]? = some v → j < m → (l.flatMap cells)[k * m + j]? = (cells v)[j]?
  | [], k, j, v, h, _ => by simp at h
  | u :: l, 0, j, v, h, hj => by
    simp at h; subst h
    rw [List.flatMap_cons, List.getElem?_append_left (by rw [hm]; omega)]
    simp
  | u :: l, k + 1, j, v, h, hj => by
    simp at h
    have := flat_at cells m hm l k j v h hj
    rw [List.flatMap_cons, List.getElem?_append_right (by rw [hm, Nat.succ_mul]; omega), ← this, hm]
    congr 1
    rw [Nat.succ_mul]; omega
theorem flat_len {α : Type} (cells : α → List Value) (m : Nat) (hm : ∀ a, (cells a).length = m) : ∀ l : List α, (l.flatMap cells).length = l.length * m
  | [] => by simp
  | v :: l => by rw [List.flatMap_cons, List.length_append, flat_len cells m hm l, hm, List.length_cons, Nat.succ_mul]; omega

theorem Rep.reads {w : World} {t : FT} {xs : List t.Val} {cs : List Value} {α : Type} (of : t.Val → α) (cells : α → List Value) (hm : ∀ a, (cells a).length = t.size) (h1 : 0 < t.size)
    (hc : ∀ x es, Rep w t x es → es = cells (of x)) (h : Rep w (.slice t) xs cs) :
    ∃ A c, cs = [.slice A (xs.map of).length c] ∧ Reads w w.heap.size t.size A (xs.map of).length ((xs.map of).flatMap cells) ∧ (xs.map of).length ≤ maxLen := by
  obtain ⟨A, c, rfl, hl, hr⟩ := h
  refine ⟨A, c, by rw [List.length_map], ⟨flat_len cells _ hm _, fun hn => ?_⟩, by rw [List.length_map]; exact hl⟩
  rw [List.length_map] at hn
  obtain ⟨ad, rfl, hb, hx⟩ := hr hn
  refine ⟨ad, rfl, hb, fun j u hu => ?_⟩
  have hj : j < xs.length * t.size := by
    have := (List.getElem?_eq_some_iff.1 hu).1
    rwa [flat_len cells _ hm, List.length_map] at this
  have hi : j / t.size < xs.length := Nat.div_lt_of_lt_mul (by rwa [Nat.mul_comm] at hj)
  have hmod : j % t.size < t.size := Nat.mod_lt _ h1
  obtain ⟨es, he, hes, hcell⟩ := hx _ _ (List.getElem?_eq_getElem hi)
  have e := hc _ _ he
  subst e
  have hj2 : j / t.size * t.size + j % t.size = j := by rw [Nat.mul_comm]; exact Nat.div_add_mod j _
  have := flat_at cells t.size hm (xs.map of) (j / t.size) (j % t.size) (of (xs[j / t.size])) (by rw [List.getElem?_map, List.getElem?_eq_getElem hi]; rfl) hmod
  rw [hj2, hu] at this
  have := hcell _ u this.symm
  rwa [hj2] at this
end Go.Proofs.YtodbgjnccngljaaDoor
