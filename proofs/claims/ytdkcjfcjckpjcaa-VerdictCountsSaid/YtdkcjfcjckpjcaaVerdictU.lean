/- verdict: what was counted is what the document counts. -/
import Derived.Test.YtdkcjfcjckpjcaaVerdictS
import Derived.Test.YtdkcjfcjckpjcaaVerdictR
import Derived.Test.YtdkcjfcjckpjcaaVerdictWhole
namespace Go.Proofs.Ytdkcjfcjckpjcaa
open Go Go.RowKit Go.Deep

theorem putB_at (f : Nat → Int) (v : Vd) (i : Nat) : putB f v i = f i + (if i = v.k.toNat then 1 else 0) + (if i = 4 + v.e.toNat then 1 else 0) + (if i = 22 then (v.s.size : Int) else 0) + (if v.f = true ∧ i = 21 then 1 else 0) := by
  unfold putB bump
  cases v.f <;> simp <;> (repeat' split) <;> omega

def J (f : Nat → Int) (A : List Vd) : Prop := (∀ k, KS f k = (cnt (fun v => v.k == k) A : Nat)) ∧ (∀ e, RS f e = RC A e) ∧ f 21 = (cnt (fun v => v.f) A : Nat) ∧ f 22 = (bcnt A : Nat)
theorem cnt_one (p : Vd → Bool) (v : Vd) : cnt p [v] = if p v then 1 else 0 := by
  unfold cnt
  cases hp : p v <;> simp [hp]
theorem J_step {f : Nat → Int} {A : List Vd} {v : Vd} (h : J f A) : J (stepB f v) (A ++ if vRight v then [v] else []) := by
  unfold stepB
  cases hR : vRight v
  · simpa using h
  · simp only [if_true]
    obtain ⟨h1, h2, h3, h4⟩ := h
    have hb := vRight_bd hR
    refine ⟨fun k => ?_, fun e => ?_, ?_, ?_⟩
    · have := h1 k
      rw [cnt_append, cnt_one]
      unfold KS at this ⊢
      rw [putB_at]
      simp only [beq_iff_eq]
      by_cases hk : 0 ≤ k ∧ k < 4
      · rw [if_pos hk] at this ⊢
        rw [if_neg (by omega : ¬ k.toNat = 4 + v.e.toNat), if_neg (by omega : ¬ k.toNat = 22), if_neg (by omega : ¬ (v.f = true ∧ k.toNat = 21))]
        by_cases e : v.k = k
        · rw [if_pos (by omega), if_pos e]; omega
        · rw [if_neg (by omega), if_neg e]; omega
      · rw [if_neg hk] at this ⊢
        rw [if_neg (by omega)]; omega
    · have := h2 e
      unfold RC at this ⊢
      rw [cnt_append, cnt_one]
      unfold RS at this ⊢
      rw [putB_at]
      simp only [beq_iff_eq]
      by_cases hk : 0 ≤ e ∧ e ≤ 16
      · rw [if_pos hk] at this ⊢
        rw [if_neg (by omega : ¬ 4 + e.toNat = v.k.toNat), if_neg (by omega : ¬ 4 + e.toNat = 22), if_neg (by omega : ¬ (v.f = true ∧ 4 + e.toNat = 21))]
        by_cases e' : v.e = e
        · rw [if_pos (by omega), if_pos e']; omega
        · rw [if_neg (by omega), if_neg e']; omega
      · rw [if_neg hk] at this ⊢
        rw [if_neg (by omega)]; omega
    · rw [cnt_append, cnt_one, putB_at, if_neg (by omega : ¬ 21 = v.k.toNat), if_neg (by omega : ¬ 21 = 4 + v.e.toNat), if_neg (by omega : ¬ 21 = 22), h3]
      cases v.f <;> simp
    · rw [bcnt_append, putB_at, if_neg (by omega : ¬ 22 = v.k.toNat), if_neg (by omega : ¬ 22 = 4 + v.e.toNat), if_pos rfl, if_neg (by omega : ¬ (v.f = true ∧ 22 = 21)), h4]
      simp [bcnt]
theorem J_all : ∀ (l : List Vd) (f : Nat → Int) (A : List Vd), J f A → J (l.foldl stepB f) (A ++ l.filter vRight)
  | [], f, A, h => by simpa using h
  | v :: l, f, A, h => by
    have := J_all l _ _ (J_step (v := v) h)
    rw [List.append_assoc] at this
    rw [List.foldl_cons]
    cases hR : vRight v
    · rw [List.filter_cons_of_neg (by simp [hR])]; simpa [hR] using this
    · rw [List.filter_cons_of_pos hR]; simpa [hR] using this
theorem J_board (l : List Vd) : J (boardOf l) (goodTo l l.length) := by
  have := J_all l (fun _ => 0) [] ⟨fun k => by simp [KS, cnt], fun e => by simp [RS, RC, cnt], rfl, rfl⟩
  unfold goodTo
  rw [List.take_length]
  exact this
theorem J_add {f g : Nat → Int} {A B : List Vd} (h : J f A) (k : J g B) : J (fun i => f i + g i) (A ++ B) := by
  obtain ⟨h1, h2, h3, h4⟩ := h
  obtain ⟨k1, k2, k3, k4⟩ := k
  refine ⟨fun k => ?_, fun e => ?_, ?_, ?_⟩
  · have a := h1 k
    have b := k1 k
    rw [cnt_append]
    unfold KS at a b ⊢
    by_cases hk : 0 ≤ k ∧ k < 4
    · simp only [if_pos hk] at a b ⊢; omega
    · simp only [if_neg hk] at a b ⊢; omega
  · have a := h2 e
    have b := k2 e
    unfold RC at a b ⊢
    rw [cnt_append]
    unfold RS at a b ⊢
    by_cases hk : 0 ≤ e ∧ e ≤ 16
    · simp only [if_pos hk] at a b ⊢; omega
    · simp only [if_neg hk] at a b ⊢; omega
  · rw [cnt_append]; simp only [h3, k3]; omega
  · rw [bcnt_append]; simp only [h4, k4]; omega
theorem J_rs {f : Nat → Int} {A : List Vd} (h : J f A) : rs f = gTo (RC A) 16 := by
  have : RS f = RC A := funext h.2.1
  unfold rs rsTo gTo
  rw [this]
theorem goodTo_few {l : List Vd} (h : fewP l) : (goodTo l l.length).length ≤ 30 ∧ ∀ v ∈ goodTo l l.length, v.s.size ≤ 100 := by
  have := goodTo_len l l.length
  refine ⟨by have := h.1; omega, fun v hv => h.2 v ?_⟩
  unfold goodTo at hv
  exact List.mem_of_mem_take (List.mem_filter.1 hv).1
end Go.Proofs.Ytdkcjfcjckpjcaa
