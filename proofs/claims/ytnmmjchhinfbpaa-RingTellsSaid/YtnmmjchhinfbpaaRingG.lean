/- ring: the law RingGoes, called. -/
import Derived.Test.YtnmmjchhinfbpaaRingF
namespace Go.Proofs.Ytnmmjchhinfbpaa
open Go Go.RowKit Go.Deep Go.ChangeShapes Go.WideShapes

theorem trod_cap {H : Type} {enc : TypeId × Value → H} {P : Program} {w : World} {t e : TypeId} {A : Option Addr} {n c : Nat} {d : DataW H} {p : List MemPlace} (ht : P.underlying t = some (.slice e)) (h : DataW.Trod enc P w 0 (fun _ => true) true t (.slice A n c) d p) : n ≤ c := by
  obtain ⟨fuel, hf⟩ := h
  rcases DataW.trod_slice ht hf with ⟨h1, _⟩ | ⟨a, len, cap, _, _, _, _, h1, _, _, h2, _⟩
  · simp [Value.cells] at h1
    omega
  · simp [Value.cells] at h1
    omega
theorem Reads.pre {w : World} {B size n : Nat} {A : Option Addr} {xs : List Value} (h : Reads w B size A n xs) {k : Nat} (hk : k ≤ n) : Reads w B size A k (xs.take (k * size)) := by
  refine ⟨?_, fun hn => ?_⟩
  · rw [List.length_take, h.1]
    exact Nat.min_eq_left (Nat.mul_le_mul_right _ hk)
  · obtain ⟨ad, e, hb, hc⟩ := h.2 (by omega)
    exact ⟨ad, e, hb, fun j u hu => hc j u (by rw [List.getElem?_take] at hu; split at hu; exact hu; cases hu)⟩
theorem flat_take (l : List Bk) : ∀ k, k ≤ l.length → (l.flatMap Bk.cells).take (k * 6) = (l.take k).flatMap Bk.cells := by
  induction l with
  | nil => intro k _; simp
  | cons b l ih =>
    intro k hk
    cases k with
    | zero => simp
    | succ k =>
      rw [List.flatMap_cons, List.take_succ_cons, List.flatMap_cons, ← ih k (by simpa using hk), List.take_append]
      have e : (Bk.cells b).length = 6 := rfl
      rw [e, show (k + 1) * 6 - 6 = k * 6 by omega, List.take_of_length_le (by rw [e]; omega)]
theorem flat_drop (l : List Bk) : ∀ k, k ≤ l.length → (l.flatMap Bk.cells).drop (k * 6) = (l.drop k).flatMap Bk.cells := by
  induction l with
  | nil => intro k _; simp
  | cons b l ih =>
    intro k hk
    cases k with
    | zero => simp
    | succ k =>
      rw [List.flatMap_cons, List.drop_succ_cons, ← ih k (by simpa using hk), List.drop_append]
      have e : (Bk.cells b).length = 6 := rfl
      rw [e, show (k + 1) * 6 - 6 = k * 6 by omega, List.drop_of_length_le (by rw [e]; omega)]
      rfl
def lessL (l : List Bk) (i : Nat) : List Bk := l.take i ++ l.drop (i + 1)
theorem bk_oneR (b : List Bk) : ∀ u ∈ b.flatMap Bk.cells, u.oneCell' = true := by
  intro u hu
  obtain ⟨x, _, hx⟩ := List.mem_flatMap.1 hu
  simp at hx
  rcases hx with rfl | rfl | rfl | rfl | rfl | rfl <;> rfl
theorem lessL_mem {l : List Bk} {i : Nat} {b : Bk} (h : b ∈ lessL l i) : b ∈ l := by
  unfold lessL at h
  rcases List.mem_append.1 h with h | h
  · exact List.mem_of_mem_take h
  · exact List.mem_of_mem_drop h
theorem lessL_filter {l : List Bk} (hn : (l.map Bk.id).Nodup) {i : Nat} (hi : i < l.length) : lessL l i = l.filter fun b => !(b.id == l[i].id) := by
  have e : l = l.take i ++ l[i] :: l.drop (i + 1) := by
    rw [← List.drop_eq_getElem_cons hi, List.take_append_drop]
  have hne : ∀ b ∈ l.take i ++ l.drop (i + 1), b.id ≠ l[i].id := by
    intro b hb hid
    rw [e, List.map_append, List.map_cons] at hn
    obtain ⟨h1, h2, h3⟩ := List.nodup_append.1 hn
    obtain ⟨h4, h5⟩ := List.nodup_cons.1 h2
    rcases List.mem_append.1 hb with hb | hb
    · exact h3 b.id (List.mem_map.2 ⟨b, hb, rfl⟩) l[i].id (List.mem_cons_self ..) hid
    · exact h4 (by rw [← hid]; exact List.mem_map.2 ⟨b, hb, rfl⟩)
  have h1 : (l.take i ++ l[i] :: l.drop (i + 1)).filter (fun b => !(b.id == l[i].id)) = l.take i ++ l.drop (i + 1) := by
    rw [List.filter_append, List.filter_cons_of_neg (by simp)]
    congr 1
    · exact List.filter_eq_self.2 fun b hb => by simpa using hne b (List.mem_append.2 (.inl hb))
    · exact List.filter_eq_self.2 fun b hb => by simpa using hne b (List.mem_append.2 (.inr hb))
  rw [← e] at h1
  exact h1.symm
theorem ptsOf_filter (ka kb : Int) (m : Nat) (l : List Bk) (id : Int) : ptsOf ka kb (l.filter fun b => !(b.id == id)) m = (ptsOf ka kb l m).filter fun p => !(p.1 == id) := by
  induction l with
  | nil => rfl
  | cons b l ih =>
    have hr : (rowP ka kb b m).filter (fun p => !(p.1 == id)) = if b.id == id then [] else rowP ka kb b m := by
      unfold rowP
      split
      · rename_i h
        exact List.filter_eq_nil_iff.2 fun p hp => by
          obtain ⟨j, _, rfl⟩ := List.mem_map.1 hp
          simpa using h
      · rename_i h
        exact List.filter_eq_self.2 fun p hp => by
          obtain ⟨j, _, rfl⟩ := List.mem_map.1 hp
          simpa using h
    unfold ptsOf at ih ⊢
    rw [List.flatMap_cons, List.filter_append, hr, ← ih]
    by_cases h : b.id = id
    · rw [List.filter_cons_of_neg (by simp [h]), if_pos (by simpa using h), List.nil_append]
    · rw [List.filter_cons_of_pos (by simp [h]), if_neg (by simpa using h), List.flatMap_cons]
/-- A hash goes to the same backend without another one, and only then. -/
theorem goes_law {S T : List Pt} {ka kb : Int} {m : Nat} {l : List Bk} {i : Nat} (hi : i < l.length) (hn : (l.map Bk.id).Nodup) (hS : S.Perm (ptsOf ka kb l m)) (hT : T.Perm (ptsOf ka kb (lessL l i) m)) (h0 : S ≠ []) (h1 : T ≠ []) (n : Int) :
    ((ownP S n).1 == (ownP T n).1) = ((ownP S n).1 != l[i].id) := by
  rw [lessL_filter hn hi, ptsOf_filter] at hT
  have hm : ∀ x, x ∈ T ↔ x ∈ S.filter fun p => !(p.1 == l[i].id) := fun x => by
    rw [hT.mem_iff, List.mem_filter, List.mem_filter, hS.mem_iff]
  have e := ownP_same n hm
  have hT2 : (ownP T n).1 ≠ l[i].id := by
    have := (hm _).1 (ownP_mem h1 n)
    simpa using (List.mem_filter.1 this).2
  by_cases h : (ownP S n).1 = l[i].id
  · rw [h]
    have : (l[i].id == (ownP T n).1) = false := by rw [beq_eq_false_iff_ne]; exact fun e => hT2 e.symm
    rw [this]
    simp
  · rw [e, ownP_less _ _ h h0]
    simp [h]
end Go.Proofs.Ytnmmjchhinfbpaa
