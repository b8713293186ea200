/- wheel: a row without one number. -/
import Derived.Test.YtfpepgeaaadpdaaWheelB
import Derived.Laws.IdiomCopy
namespace Go.Proofs.Ytfpepgeaaadpdaa
open Go Go.RowKit Go.Deep Go.Maps Go.ChangeMaps

def setM (cs : Array Value) : Nat → List Value → Array Value
  | _, [] => cs
  | o, v :: r => setM (cs.setIfInBounds o v) (o + 1) r
theorem setM_size : ∀ (vs : List Value) (cs : Array Value) (o : Nat), (setM cs o vs).size = cs.size
  | [], _, _ => rfl
  | v :: r, cs, o => by
    unfold setM
    rw [setM_size r, Array.size_setIfInBounds]
theorem setM_out : ∀ (vs : List Value) (cs : Array Value) (o j : Nat), j < o → (setM cs o vs)[j]? = cs[j]?
  | [], _, _, _, _ => rfl
  | v :: r, cs, o, j, h => by
    unfold setM
    rw [setM_out r _ (o + 1) j (by omega), Array.getElem?_setIfInBounds_ne (by omega)]
theorem setM_in : ∀ (vs : List Value) (cs : Array Value) (o j : Nat), o + vs.length ≤ cs.size → j < vs.length → (setM cs o vs)[o + j]? = vs[j]?
  | v :: r, cs, o, 0, h, _ => by
    simp at h
    unfold setM
    rw [setM_out r _ (o + 1) (o + 0) (by omega), Nat.add_zero, Array.getElem?_setIfInBounds_self_of_lt (by omega)]
    rfl
  | v :: r, cs, o, j + 1, h, hj => by
    simp at h hj
    unfold setM
    rw [show o + (j + 1) = (o + 1) + j by omega, setM_in r _ (o + 1) j (by rw [Array.size_setIfInBounds]; omega) hj]
    rfl
theorem blk_setCells {b : Nat} {t : TypeId} : ∀ (vs : List Value) (o : Nat) {w : World} {cs : Array Value}, Blk w b t cs → Blk (w.setCells b o vs) b t (setM cs o vs)
  | [], _, _, _, h => h
  | v :: r, o, _, _, h => blk_setCells r (o + 1) (h.set_ o v)
theorem chg_setCells {b : Nat} : ∀ (vs : List Value) (o : Nat) (w : World), Chg (· = b) w (w.setCells b o vs)
  | [], _, w => Chg.refl _ w
  | v :: r, o, w => by
    have h1 : Chg (· = b) w (w.setCell ⟨b, o, none⟩ v) := Chg.setCell (F := (· = b)) (p := ⟨b, o, none⟩) (Chg.refl _ w) (fun _ => rfl) v
    exact h1.trans (chg_setCells r (o + 1) _) (fun _ _ h => h)
/-- A row without its i-th number, in place. -/
theorem own_erase {w : World} {base g cap : Nat} {L : List Int} (h : OwnI w base (some ⟨g, 0, none⟩) cap L) {i : Nat} (hi : i < L.length) :
    OwnI (w.setCells g 0 ((L.take i ++ L.drop (i + 1) ++ List.replicate 1 0).map (Value.int .i64))) base (some ⟨g, 0, none⟩) cap (L.eraseIdx i) := by
  rw [List.eraseIdx_eq_take_drop_succ]
  unfold OwnI OwnA at h ⊢
  obtain ⟨_, h2⟩ := h
  rcases h2 with ⟨h2, _⟩ | ⟨g', cap', cur, hv, hb, hh, hc, hm, hs, hx⟩
  · cases h2
  · simp only [Value.slice.injEq, Option.some.injEq, Addr.mk.injEq, and_true, true_and] at hv
    obtain ⟨rfl, rfl⟩ := hv
    have hlen : (L.take i ++ L.drop (i + 1)).length = L.length - 1 := by
      rw [List.length_append, List.length_take, List.length_drop]
      omega
    obtain ⟨E, hE⟩ : ∃ E, L.take i ++ L.drop (i + 1) = E := ⟨_, rfl⟩
    rw [hE] at hlen ⊢
    have hB : Blk w g 3 cur := hh
    have hB2 := blk_setCells ((E ++ List.replicate 1 0).map (Value.int .i64)) 0 hB
    refine ⟨by rw [icell_map, List.length_map, Nat.mul_one], .inr ⟨g, cap, _, rfl, hb, hB2, by omega, hm, by rw [setM_size]; exact hs, ?_⟩⟩
    rw [icell_map]
    apply List.ext_getElem?
    intro j
    rw [List.getElem?_take]
    by_cases hj : j < E.length * 1
    · rw [if_pos hj]
      have hvl : ((E ++ List.replicate 1 0).map (Value.int .i64)).length = E.length + 1 := by simp
      have := setM_in ((E ++ List.replicate 1 0).map (Value.int .i64)) cur 0 j (by rw [hvl]; omega) (by rw [hvl]; omega)
      rw [Nat.zero_add] at this
      rw [Array.getElem?_toList, this, List.getElem?_map, List.getElem?_map, List.getElem?_append_left (by omega)]
    · rw [if_neg hj, List.getElem?_eq_none]
      rw [List.length_map]
      omega
end Go.Proofs.Ytfpepgeaaadpdaa
