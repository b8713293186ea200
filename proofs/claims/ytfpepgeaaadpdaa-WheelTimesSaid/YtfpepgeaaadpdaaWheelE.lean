/- wheel: what Unset and Set do to the rows, in plain words. -/
import Derived.Test.YtfpepgeaaadpdaaWheelD
namespace Go.Proofs.Ytfpepgeaaadpdaa
open Go Go.RowKit Go.Deep

theorem lmHas_del {M : LM} {id x : Int} : lmHas (lmDel M id) x = true ↔ lmHas M x = true ∧ x ≠ id := by
  rw [lmHas_iff, lmHas_iff]
  constructor
  · rintro ⟨y, hy, rfl⟩
    obtain ⟨h1, h2⟩ := List.mem_filter.1 hy
    exact ⟨⟨y, h1, rfl⟩, by simpa using h2⟩
  · rintro ⟨⟨y, hy, rfl⟩, h2⟩
    exact ⟨y, List.mem_filter.2 ⟨hy, by simpa using h2⟩, rfl⟩
theorem lmIns_memI {x y : Int × Int} : ∀ {M : LM}, y ∈ lmIns x M ↔ y = x ∨ y ∈ M
  | [] => by simp [lmIns]
  | z :: M => by
    unfold lmIns
    split
    · simp
    · rw [List.mem_cons, lmIns_memI, List.mem_cons]
      constructor
      · rintro (h | h | h)
        · exact .inr (.inl h)
        · exact .inl h
        · exact .inr (.inr h)
      · rintro (h | h | h)
        · exact .inr (.inl h)
        · exact .inl h
        · exact .inr (.inr h)
theorem lmHas_ins {M : LM} {id v x : Int} : lmHas (lmIns (id, v) M) x = true ↔ x = id ∨ lmHas M x = true := by
  rw [lmHas_iff, lmHas_iff]
  constructor
  · rintro ⟨y, hy, rfl⟩
    rcases lmIns_memI.1 hy with rfl | hy
    · exact .inl rfl
    · exact .inr ⟨y, hy, rfl⟩
  · rintro (rfl | ⟨y, hy, rfl⟩)
    · exact ⟨_, lmIns_memI.2 (.inl rfl), rfl⟩
    · exact ⟨y, lmIns_memI.2 (.inr hy), rfl⟩
theorem lmDel_same {M : LM} {id : Int} (h : lmHas M id = false) : lmDel M id = M := by
  unfold lmDel
  refine List.filter_eq_self.2 fun y hy => ?_
  have : y.1 ≠ id := fun e => by
    rw [lmHas_iff.2 ⟨y, hy, e⟩] at h
    cases h
  simpa using this
theorem mem_eraseIdx {L : List Int} (hn : L.Nodup) {i : Nat} (hi : i < L.length) {x : Int} : x ∈ L.eraseIdx i ↔ x ∈ L ∧ x ≠ L.getD i 0 := by
  have e0 : L.getD i 0 = L[i] := by
    rw [List.getD_eq_getElem?_getD, List.getElem?_eq_getElem hi]
    rfl
  have e : L = L.take i ++ L[i] :: L.drop (i + 1) := by rw [← List.drop_eq_getElem_cons hi, List.take_append_drop]
  rw [e0, List.eraseIdx_eq_take_drop_succ]
  have hn2 := hn
  rw [e] at hn2
  obtain ⟨n1, n2, n3⟩ := List.nodup_append.1 hn2
  obtain ⟨n4, n5⟩ := List.nodup_cons.1 n2
  constructor
  · intro h
    rcases List.mem_append.1 h with h | h
    · exact ⟨List.mem_of_mem_take h, n3 x h L[i] (List.mem_cons_self ..)⟩
    · exact ⟨List.mem_of_mem_drop h, fun e => n4 (e ▸ h)⟩
  · rintro ⟨h1, h2⟩
    rw [e] at h1
    rcases List.mem_append.1 h1 with h | h
    · exact List.mem_append.2 (.inl h)
    · rcases List.mem_cons.1 h with h | h
      · exact absurd h h2
      · exact List.mem_append.2 (.inr h)
theorem RowInv.unset {M : LM} {R : Nat → List Int} {T : Nat → Int} (h : RowInv M R T) {n k i : Nat} (hk : k < 64) (hT : T n = (k : Int) + 1) (hi : i < (R k).length) (he : (R k).getD i 0 = (n : Int)) :
    RowInv (lmDel M n) (fun j => if j = k then (R k).eraseIdx i else R j) (fun j => if j = n then 0 else T j) where
  idr x hx := h.idr x (List.mem_filter.1 hx).1
  mem j hj id := by
    have hpos : lmHas M id = true → 0 ≤ id := fun hh => by
      obtain ⟨x, hx, rfl⟩ := lmHas_iff.1 hh
      exact (h.idr x hx).1
    have hm := h.mem j hj id
    rw [lmHas_del]
    by_cases ej : j = k
    · subst ej
      rw [if_pos rfl, mem_eraseIdx (h.nd j hj) hi, he, hm]
      constructor
      · rintro ⟨⟨h1, h2⟩, h3⟩
        have := hpos h1
        exact ⟨⟨h1, h3⟩, by rw [if_neg (by omega)]; exact h2⟩
      · rintro ⟨⟨h1, h3⟩, h2⟩
        have := hpos h1
        rw [if_neg (by omega)] at h2
        exact ⟨⟨h1, h2⟩, h3⟩
    · rw [if_neg ej, hm]
      constructor
      · rintro ⟨h1, h2⟩
        have := hpos h1
        have hne : id ≠ (n : Int) := fun e => by
          subst e
          rw [Int.toNat_natCast, hT] at h2
          omega
        exact ⟨⟨h1, hne⟩, by rw [if_neg (by omega)]; exact h2⟩
      · rintro ⟨⟨h1, h3⟩, h2⟩
        have := hpos h1
        rw [if_neg (by omega)] at h2
        exact ⟨h1, h2⟩
  rng x hx := by
    obtain ⟨h1, h2⟩ := List.mem_filter.1 hx
    have h3 := (h.idr x h1).1
    have h4 : x.1 ≠ (n : Int) := by simpa using h2
    rw [if_neg (by omega)]
    exact h.rng x h1
  nd j hj := by
    split
    · exact (h.nd k hk).sublist (List.eraseIdx_sublist _ _)
    · exact h.nd j hj
theorem RowInv.put {M : LM} {R : Nat → List Int} {T : Nat → Int} (h : RowInv M R T) {n k : Nat} {due : Int} (hk : k < 64) (hn : n < 4096) (hd : 0 ≤ due ∧ due ≤ 2199023255552) (hh : lmHas M n = false) :
    RowInv (lmIns ((n : Int), due) M) (fun j => if j = k then R k ++ [(n : Int)] else R j) (fun j => if j = n then (k : Int) + 1 else T j) where
  idr x hx := by
    rcases lmIns_memI.1 hx with rfl | hx
    · exact ⟨by dsimp only; omega, by dsimp only; omega, hd⟩
    · exact h.idr x hx
  mem j hj id := by
    have hpos : lmHas M id = true → 0 ≤ id ∧ id ≠ (n : Int) := fun hm => ⟨by
      obtain ⟨x, hx, rfl⟩ := lmHas_iff.1 hm
      exact (h.idr x hx).1, fun e => by rw [e, hh] at hm; cases hm⟩
    have hm := h.mem j hj id
    rw [lmHas_ins]
    by_cases ej : j = k
    · subst ej
      rw [if_pos rfl, List.mem_append, hm, List.mem_singleton]
      constructor
      · rintro (⟨h1, h2⟩ | rfl)
        · have := hpos h1
          exact ⟨.inr h1, by rw [if_neg (by omega)]; exact h2⟩
        · exact ⟨.inl rfl, by rw [Int.toNat_natCast, if_pos rfl]⟩
      · rintro ⟨h1 | h1, h2⟩
        · exact .inr h1
        · have := hpos h1
          rw [if_neg (by omega)] at h2
          exact .inl ⟨h1, h2⟩
    · rw [if_neg ej, hm]
      constructor
      · rintro ⟨h1, h2⟩
        have := hpos h1
        exact ⟨.inr h1, by rw [if_neg (by omega)]; exact h2⟩
      · rintro ⟨h1 | h1, h2⟩
        · subst h1
          rw [Int.toNat_natCast, if_pos rfl] at h2
          omega
        · have := hpos h1
          rw [if_neg (by omega)] at h2
          exact ⟨h1, h2⟩
  rng x hx := by
    rcases lmIns_memI.1 hx with rfl | hx
    · dsimp only
      rw [Int.toNat_natCast, if_pos rfl]
      omega
    · have h1 := (h.idr x hx).1
      have h2 : x.1 ≠ (n : Int) := fun e => by
        rw [← e, lmHas_iff.2 ⟨x, hx, rfl⟩] at hh
        cases hh
      rw [if_neg (by omega)]
      exact h.rng x hx
  nd j hj := by
    split
    · rw [List.nodup_append]
      refine ⟨h.nd k hk, by simp, fun a ha b hb => ?_⟩
      rw [List.mem_singleton] at hb
      subst hb
      intro e
      subst e
      have := ((h.mem k hk _).1 ha).1
      rw [hh] at this
      cases this
    · exact h.nd j hj
theorem nodup_len : ∀ (N : Nat) (L : List Int), L.Nodup → (∀ x ∈ L, 0 ≤ x ∧ x < (N : Int)) → L.length ≤ N
  | 0, L, _, h => by
    cases L with
    | nil => simp
    | cons x r =>
      have := h x (List.mem_cons_self ..)
      omega
  | N + 1, L, hn, h => by
    have ih := nodup_len N (L.filter fun x => x != (N : Int)) (hn.sublist List.filter_sublist) fun x hx => by
      obtain ⟨h1, h2⟩ := List.mem_filter.1 hx
      have h3 := h x h1
      have h4 : x ≠ (N : Int) := by simpa using h2
      omega
    have h1 : ∀ L : List Int, L.Nodup → L.length ≤ (L.filter fun x => x != (N : Int)).length + 1 := by
      intro L hL
      induction L with
      | nil => simp
      | cons x r ihr =>
        obtain ⟨n1, n2⟩ := List.nodup_cons.1 hL
        by_cases e : x = (N : Int)
        · subst e
          rw [List.filter_cons_of_neg (by simp)]
          have : r.filter (fun x => x != (N : Int)) = r := List.filter_eq_self.2 fun y hy => by
            have : y ≠ (N : Int) := fun e => n1 (e ▸ hy)
            simpa using this
          rw [this, List.length_cons]
          omega
        · rw [List.filter_cons_of_pos (by simpa using e), List.length_cons, List.length_cons]
          have := ihr n2
          omega
    have := h1 L hn
    omega
theorem RowInv.rlen {M : LM} {R : Nat → List Int} {T : Nat → Int} (h : RowInv M R T) {k : Nat} (hk : k < 64) : (R k).length ≤ 4096 := by
  refine nodup_len 4096 _ (h.nd k hk) fun x hx => ?_
  obtain ⟨y, hy, rfl⟩ := lmHas_iff.1 ((h.mem k hk x).1 hx).1
  have := h.idr y hy
  omega
theorem RowInv.none : RowInv [] (fun _ => []) (fun _ => 0) where
  idr x hx := by cases hx
  mem k hk id := by simp [lmHas]
  rng x hx := by cases hx
  nd k hk := by simp
end Go.Proofs.Ytfpepgeaaadpdaa
