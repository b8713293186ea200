/- slices.Clone and slices.Reverse at []int. -/
import Derived.Test.YtodbgjnccngljaaDoorJ6
import Derived.Test.YtodbgjnccngljaaDoorJ7
import Derived.WalkSpells
namespace Go.Proofs.YtodbgjnccngljaaDoor
open Go Go.RowKit Go.Deep

theorem ints_one (xs : List Int) : ∀ u ∈ xs.map (Value.int .i64), u.oneCell' = true := by
  intro u hu
  obtain ⟨x, _, rfl⟩ := List.mem_map.1 hu
  rfl

/-- A row that the call owns is a row of cells that is known whole. -/
theorem row_of_own {w : World} {base n : Nat} {e : TypeId} {v : Value} {xs : List Value} (h : w.ownsRow base e 1 v n xs) (hn : 0 < n) :
    ∃ g cap f, v = .slice (some ⟨g, 0, none⟩) n cap ∧ base ≤ g ∧ n ≤ cap ∧ cap ≤ maxLen ∧ w.rowIs g e cap f ∧ ∀ i u, xs[i]? = some u → f i = u := by
  rcases h.2 with ⟨_, h0⟩ | ⟨g, cap, cur, rfl, hb, hh, hnc, hcap, hsz, htake⟩
  · omega
  · refine ⟨g, cap, fun i => cur.getD i undef, rfl, hb, hnc, hcap, ?_, ?_⟩
    · exact ⟨cur, hh, by omega, fun i hi => by simp [Array.getD_eq_getD_getElem?, Array.getElem?_eq_getElem (show i < cur.size by omega)]⟩
    · intro i u hu
      rw [← htake, List.getElem?_take] at hu
      split at hu
      · simp only [Array.getElem?_toList] at hu
        simp [Array.getD_eq_getD_getElem?, hu]
      · cases hu

def revF (n k : Nat) (f : Nat → Value) (p : Nat) : Value := if p < n ∧ (p < k ∨ n - 1 - k < p) then f (n - 1 - p) else f p

theorem own_of_row {w : World} {base n g cap : Nat} {e : TypeId} {f : Nat → Value} {xs : List Value} (h : w.rowIs g e cap f) (hb : base ≤ g) (hn : n ≤ cap) (hc : cap ≤ maxLen) (hx : xs.length = n) (hf : ∀ i u, xs[i]? = some u → f i = u) :
    w.ownsRow base e 1 (.slice (some ⟨g, 0, none⟩) n cap) n xs := by
  obtain ⟨cur, hh, hs, hcur⟩ := h
  refine ⟨by omega, .inr ⟨g, cap, cur, rfl, hb, hh, hn, hc, by omega, ?_⟩⟩
  refine List.ext_getElem? fun i => ?_
  rw [List.getElem?_take]
  by_cases hi : i < n
  · rw [if_pos (by omega), Array.getElem?_toList, hcur i (by omega), List.getElem?_eq_getElem (by omega), hf i _ (List.getElem?_eq_getElem (by omega))]
  · rw [if_neg (by omega), List.getElem?_eq_none (by omega)]

theorem own_lit (w : World) (base : Nat) (e : TypeId) (xs : List Value) (hb : base ≤ w.heap.size) (hm : xs.length ≤ maxLen) :
    (w.alloc (.cells xs.toArray e)).ownsRow base e 1 (.slice (some ⟨w.heap.size, 0, none⟩) xs.length xs.length) xs.length xs := by
  refine ⟨by simp, .inr ⟨w.heap.size, xs.length, xs.toArray, rfl, hb, Blk.new w e _, Nat.le_refl _, hm, by simp, by simp⟩⟩

end Go.Proofs.YtodbgjnccngljaaDoor
