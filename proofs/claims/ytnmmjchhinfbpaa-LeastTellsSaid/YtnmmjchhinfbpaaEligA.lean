/- eligible: Has. -/
import Derived.Test.YtnmmjchhinfbpaaTwo
namespace Go.Proofs.Ytnmmjchhinfbpaa
open Go Go.RowKit Go.Deep

def hasB (l : List Bk) (id : Int) : Bool := l.any fun b => b.id == id
def idxB (l : List Bk) (id : Int) : Int := match l.findIdx? (fun b => b.id == id) with | some i => (i : Int) | none => -1
theorem idxB_hit {l : List Bk} {id : Int} {k : Nat} {x : Bk} (h : ∀ j, j < k → ∀ b, l[j]? = some b → b.id ≠ id) (hx : l[k]? = some x) (he : x.id = id) : idxB l id = (k : Int) ∧ hasB l id = true := by
  obtain ⟨hk, rfl⟩ := List.getElem?_eq_some_iff.1 hx
  constructor
  · unfold idxB
    have : l.findIdx? (fun b => b.id == id) = some k := by
      rw [List.findIdx?_eq_some_iff_getElem]
      refine ⟨hk, by simpa using he, fun j hj => ?_⟩
      have := h j hj _ (List.getElem?_eq_getElem (by omega))
      simpa using this
    rw [this]
  · unfold hasB
    rw [List.any_eq_true]
    exact ⟨_, List.getElem_mem hk, by simpa using he⟩
theorem idxB_miss {l : List Bk} {id : Int} (h : ∀ (j : Nat) (b : Bk), l[j]? = some b → b.id ≠ id) : idxB l id = -1 ∧ hasB l id = false := by
  constructor
  · unfold idxB
    have : l.findIdx? (fun b => b.id == id) = none := by
      rw [List.findIdx?_eq_none_iff]
      intro x hx
      obtain ⟨j, hj, rfl⟩ := List.getElem_of_mem hx
      simpa using h j _ (List.getElem?_eq_getElem hj)
    rw [this]
  · unfold hasB
    rw [List.any_eq_false]
    intro x hx
    obtain ⟨j, hj, rfl⟩ := List.getElem_of_mem hx
    simpa using h j _ (List.getElem?_eq_getElem hj)
theorem idxB_has (l : List Bk) (id : Int) : decide (0 ≤ idxB l id) = hasB l id := by
  by_cases h : ∃ (k : Nat) (x : Bk), l[k]? = some x ∧ x.id = id ∧ ∀ j, j < k → ∀ b, l[j]? = some b → b.id ≠ id
  · obtain ⟨k, x, hx, he, hall⟩ := h
    obtain ⟨h1, h2⟩ := idxB_hit hall hx he
    rw [h1, h2]; simp
  · have hm : ∀ (j : Nat) (b : Bk), l[j]? = some b → b.id ≠ id := by
      intro j
      induction j using Nat.strongRecOn with
      | _ j ih =>
        intro b hb he
        exact h ⟨j, b, hb, he, fun i hi c hc => ih i hi c hc⟩
    obtain ⟨h1, h2⟩ := idxB_miss hm
    rw [h1, h2]; rfl

end Go.Proofs.Ytnmmjchhinfbpaa
