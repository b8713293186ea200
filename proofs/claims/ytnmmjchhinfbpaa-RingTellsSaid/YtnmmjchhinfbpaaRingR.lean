/- ring: the plain law of the document's Share. -/
import Derived.Test.YtnmmjchhinfbpaaRingA
namespace Go.Proofs.Ytnmmjchhinfbpaa
open Go

def topN (P : List Pt) : Nat → Int
  | 0 => 0
  | k + 1 => max (topN P k) (P.getD k (0, 0)).2
def aheadN (P : List Pt) (at_ : Int) : Nat → Int × Bool
  | 0 => (0, false)
  | k + 1 => if (P.getD k (0, 0)).2 < at_ then (max (aheadN P at_ k).1 (P.getD k (0, 0)).2, true) else aheadN P at_ k
def aheadV (P : List Pt) (at_ : Int) : Int := if (aheadN P at_ P.length).2 then (aheadN P at_ P.length).1 else topN P P.length
def dShT (P : List Pt) (id : Int) (k : Nat) : Int := if (ownP P (P.getD k (0, 0)).2).1 = (P.getD k (0, 0)).1 ∧ (P.getD k (0, 0)).1 = id ∧ ¬ P.getD k (0, 0) ∈ P.take k then (P.getD k (0, 0)).2 - aheadV P (P.getD k (0, 0)).2 else 0
def dShN (P : List Pt) (id : Int) : Nat → Int
  | 0 => 0
  | k + 1 => dShN P id k + dShT P id k
/-! The place ahead of one. -/
theorem getD_mem {P : List Pt} {k : Nat} (hk : k < P.length) : P.getD k (0, 0) ∈ P := by
  rw [List.getD_eq_getElem?_getD, List.getElem?_eq_getElem hk]
  exact List.getElem_mem hk
theorem getD_eq {P : List Pt} {k : Nat} (hk : k < P.length) : P.getD k (0, 0) = P[k] := by
  rw [List.getD_eq_getElem?_getD, List.getElem?_eq_getElem hk]
  rfl
theorem aheadN_le {P : List Pt} {a v : Int} (h0 : 0 ≤ v) (h : ∀ p ∈ P, p.2 < a → p.2 ≤ v) : ∀ n, n ≤ P.length → (aheadN P a n).1 ≤ v
  | 0, _ => h0
  | n + 1, hn => by
    have ih := aheadN_le h0 h n (by omega)
    unfold aheadN
    split
    · rename_i hlt
      have := h _ (getD_mem (by omega)) hlt
      dsimp only
      omega
    · exact ih
theorem aheadN_ge {P : List Pt} {a : Int} (i : Nat) (hi : (P.getD i (0, 0)).2 < a) : ∀ n, i < n → (P.getD i (0, 0)).2 ≤ (aheadN P a n).1 ∧ (aheadN P a n).2 = true
  | 0, h => by omega
  | n + 1, h => by
    by_cases e : i = n
    · subst e
      unfold aheadN
      rw [if_pos hi]
      exact ⟨by dsimp only; omega, rfl⟩
    · obtain ⟨h1, h2⟩ := aheadN_ge i hi n (by omega)
      unfold aheadN
      split
      · exact ⟨by dsimp only; omega, rfl⟩
      · exact ⟨h1, h2⟩
theorem aheadN_no {P : List Pt} {a : Int} (h : ∀ p ∈ P, a ≤ p.2) : ∀ n, n ≤ P.length → (aheadN P a n).2 = false
  | 0, _ => rfl
  | n + 1, hn => by
    have ih := aheadN_no h n (by omega)
    have := h _ (getD_mem (P := P) (k := n) (by omega))
    unfold aheadN
    rw [if_neg (by omega)]
    exact ih
theorem topN_le {P : List Pt} {v : Int} (h0 : 0 ≤ v) (h : ∀ p ∈ P, p.2 ≤ v) : ∀ n, n ≤ P.length → topN P n ≤ v
  | 0, _ => h0
  | n + 1, hn => by
    have ih := topN_le h0 h n (by omega)
    have := h _ (getD_mem (P := P) (k := n) (by omega))
    unfold topN
    omega
theorem topN_ge {P : List Pt} (i : Nat) : ∀ n, i < n → (P.getD i (0, 0)).2 ≤ topN P n
  | 0, h => by omega
  | n + 1, h => by
    unfold topN
    by_cases e : i = n
    · subst e; omega
    · have := topN_ge (P := P) i n (by omega)
      omega
theorem mem_getD {P : List Pt} {q : Pt} (h : q ∈ P) : ∃ i, i < P.length ∧ P.getD i (0, 0) = q := by
  obtain ⟨i, hi, rfl⟩ := List.getElem_of_mem h
  exact ⟨i, hi, getD_eq hi⟩
theorem aheadV_some {P : List Pt} {a : Int} {q : Pt} (hq : q ∈ P) (hlt : q.2 < a) (h0 : 0 ≤ q.2) (h : ∀ p ∈ P, p.2 < a → p.2 ≤ q.2) : aheadV P a = q.2 := by
  obtain ⟨i, hi, rfl⟩ := mem_getD hq
  obtain ⟨h1, h2⟩ := aheadN_ge i hlt P.length hi
  have h3 := aheadN_le h0 h P.length (Nat.le_refl _)
  unfold aheadV
  rw [if_pos h2]
  omega
theorem aheadV_none {P : List Pt} {a : Int} {q : Pt} (hq : q ∈ P) (hn : ∀ p ∈ P, a ≤ p.2) (h0 : 0 ≤ q.2) (h : ∀ p ∈ P, p.2 ≤ q.2) : aheadV P a = q.2 := by
  obtain ⟨i, hi, rfl⟩ := mem_getD hq
  have h1 := topN_ge (P := P) i P.length hi
  have h2 := topN_le h0 h P.length (Nat.le_refl _)
  unfold aheadV
  rw [if_neg (by rw [aheadN_no hn P.length (Nat.le_refl _)]; decide)]
  omega
/-! A sum over the things of a list, each once. -/
def onceS (G : Pt → Int) : List Pt → Int
  | [] => 0
  | x :: r => (if x ∈ r then 0 else G x) + onceS G r
theorem onceS_perm (G : Pt → Int) {l l' : List Pt} (h : l.Perm l') : onceS G l = onceS G l' := by
  induction h with
  | nil => rfl
  | @cons x a b hp ih =>
    unfold onceS
    rw [ih]
    by_cases hx : x ∈ a
    · rw [if_pos hx, if_pos (hp.mem_iff.1 hx)]
    · rw [if_neg hx, if_neg (fun e => hx (hp.mem_iff.2 e))]
  | swap x y l =>
    unfold onceS
    unfold onceS
    by_cases e : x = y
    · subst e; rfl
    · have e2 : y ∈ x :: l ↔ y ∈ l := by simp [Ne.symm e]
      have e3 : x ∈ y :: l ↔ x ∈ l := by simp [e]
      simp only [e2, e3]
      omega
  | trans _ _ h1 h2 => exact h1.trans h2
theorem take_snoc_ {P : List Pt} {k : Nat} (hk : k < P.length) : (P.take (k + 1)).reverse = P.getD k (0, 0) :: (P.take k).reverse := by
  rw [List.take_succ_eq_append_getElem hk, List.reverse_append, getD_eq hk]
  rfl
/-- What a point counts that stands for itself. -/
def shG (P : List Pt) (id : Int) (p : Pt) : Int := if (ownP P p.2).1 = p.1 ∧ p.1 = id then p.2 - aheadV P p.2 else 0
theorem dShN_once (P : List Pt) (id : Int) : ∀ n, n ≤ P.length → dShN P id n = onceS (shG P id) (P.take n).reverse
  | 0, _ => rfl
  | n + 1, hn => by
    have ih := dShN_once P id n (by omega)
    rw [take_snoc_ (by omega)]
    show dShN P id n + dShT P id n = _
    unfold onceS
    rw [ih, Int.add_comm]
    congr 1
    unfold dShT shG
    by_cases hm : P.getD n (0, 0) ∈ P.take n
    · rw [if_neg (fun h => h.2.2 hm), if_pos (List.mem_reverse.2 hm)]
    · rw [if_neg (fun h => hm (List.mem_reverse.1 h))]
      by_cases h1 : (ownP P (P.getD n (0, 0)).2).1 = (P.getD n (0, 0)).1 ∧ (P.getD n (0, 0)).1 = id
      · rw [if_pos ⟨h1.1, h1.2, hm⟩, if_pos h1]
      · rw [if_neg (fun h => h1 ⟨h.1, h.2.1⟩), if_neg h1]
theorem sort_term {P S : List Pt} (hp : S.Perm P) (hs : ptSorted S) (h0 : ∀ p ∈ P, 0 ≤ p.2) (id : Int) (k : Nat) (hk : k < S.length) : shTerm S id k = if S.getD k (0, 0) ∈ (S.take k).reverse then 0 else shG P id (S.getD k (0, 0)) := by
  have hmem : ∀ x, x ∈ P ↔ x ∈ S := fun x => hp.mem_iff.symm
  have hS0 : ∀ i (hi : i < S.length), 0 ≤ S[i].2 := fun i hi => h0 _ ((hmem _).2 (List.getElem_mem hi))
  have hown : ∀ n, ownP P n = ownP S n := fun n => ownP_same n hmem
  unfold shTerm shG lastAt
  rw [hown]
  have hlp : 0 < S.length := by omega
  by_cases hk0 : k = 0
  · subst hk0
    have hni : ¬ S.getD 0 (0, 0) ∈ (S.take 0).reverse := by simp
    rw [if_neg hni, if_pos (rfl : (0 : Nat) = 0), getD_eq hk, getD_eq (show S.length - 1 < S.length by omega)]
    have ho := own_sorted hs S[0].2 (i := 0) (by omega) hlp (fun k _ h => by omega) (fun k hk _ => sorted_at hs hlp hk (by omega))
    have hv : aheadV P S[0].2 = (S[S.length - 1]'(by omega)).2 := by
      refine aheadV_none ((hmem _).2 (List.getElem_mem _)) (fun p hp => ?_) (hS0 _ _) fun p hp => ?_
      · obtain ⟨i, hi, rfl⟩ := List.getElem_of_mem ((hmem _).1 hp)
        exact sorted_at hs hlp hi (by omega)
      · obtain ⟨i, hi, rfl⟩ := List.getElem_of_mem ((hmem _).1 hp)
        exact sorted_at hs hi (by omega) (by omega)
    rw [hv, ← ho]
    simp only [Nat.zero_mod]
    by_cases e : S[0].1 = id
    · rw [if_pos e, if_pos ⟨trivial, e⟩]
    · rw [if_neg e, if_neg (fun h => e h.2)]
  · have hk1 : k - 1 < S.length := by omega
    rw [if_neg hk0, getD_eq hk, getD_eq hk1]
    have hle := sorted_at hs hk1 hk (by omega)
    by_cases hlt : S[k - 1].2 < S[k].2
    · have hno : ¬ S[k] ∈ (S.take k).reverse := fun h => by
        obtain ⟨i, hi, he⟩ := List.getElem_of_mem (List.mem_reverse.1 h)
        rw [List.length_take] at hi
        rw [List.getElem_take] at he
        have := sorted_at hs (show i < S.length by omega) hk1 (by omega)
        rw [he] at this
        omega
      have ho := own_sorted hs S[k].2 (i := k) (by omega) hlp (fun j hj h => by have := sorted_at hs hj hk1 (by omega); omega) (fun j hj h => sorted_at hs hk hj h)
      simp only [Nat.mod_eq_of_lt hk] at ho
      have hv : aheadV P S[k].2 = S[k - 1].2 := by
        refine aheadV_some ((hmem _).2 (List.getElem_mem _)) hlt (hS0 _ _) fun p hp hpl => ?_
        obtain ⟨i, hi, rfl⟩ := List.getElem_of_mem ((hmem _).1 hp)
        by_cases hik : i < k
        · exact sorted_at hs hi hk1 (by omega)
        · have := sorted_at hs hk hi (by omega)
          omega
      rw [if_neg hno, hv, ← ho]
      by_cases e : S[k].1 = id
      · rw [if_pos e, if_pos ⟨rfl, e⟩]
      · rw [if_neg e, if_neg (fun h => e h.2)]
    · have heq : S[k - 1].2 = S[k].2 := by omega
      have hz : (if S[k].1 = id then S[k].2 - S[k - 1].2 else 0) = 0 := by split <;> omega
      rw [hz]
      by_cases hin : S[k] ∈ (S.take k).reverse
      · rw [if_pos hin]
      · rw [if_neg hin]
        have hne : S[k - 1] ≠ S[k] := fun e => hin (by
          rw [List.mem_reverse, ← e]
          have h2 : k - 1 < (S.take k).length := by rw [List.length_take]; omega
          have := List.getElem_mem h2
          rwa [List.getElem_take] at this)
        have h1 := hs (k - 1) k hk1 hk (by omega)
        rw [ptLt_no] at h1
        have h2 : S[k - 1].1 < S[k].1 := by
          have : S[k - 1].1 ≠ S[k].1 := fun e => hne (Prod.ext e heq)
          omega
        have hu : S[k - 1] ∈ upP S S[k].2 := mem_up.2 ⟨List.getElem_mem hk1, by omega⟩
        have hne2 : upP S S[k].2 ≠ [] := fun e => by rw [e] at hu; cases hu
        have h3 := minP_le hu
        have h4 := (mem_up.1 (minP_mem hne2)).2
        have e5 : ownP S S[k].2 = minP (upP S S[k].2) := by unfold ownP; rw [if_neg hne2]
        rw [ptLt_no] at h3
        rw [e5, if_neg (fun h => by have := h.1; omega)]
theorem shN_once {P S : List Pt} (hp : S.Perm P) (hs : ptSorted S) (h0 : ∀ p ∈ P, 0 ≤ p.2) (id : Int) : ∀ n, n ≤ S.length → shN S id n = onceS (shG P id) (S.take n).reverse
  | 0, _ => rfl
  | n + 1, hn => by
    have ih := shN_once hp hs h0 id n (by omega)
    rw [take_snoc_ (by omega)]
    show shN S id n + shTerm S id n = _
    unfold onceS
    rw [ih, Int.add_comm, sort_term hp hs h0 id n (by omega)]
/-- The document's shares are those of the sorted points. -/
theorem dShN_eq {P S : List Pt} (hp : S.Perm P) (hs : ptSorted S) (h0 : ∀ p ∈ P, 0 ≤ p.2) (id : Int) : dShN P id P.length = shN S id S.length := by
  rw [dShN_once P id P.length (Nat.le_refl _), shN_once hp hs h0 id S.length (Nat.le_refl _), List.take_length, List.take_length]
  exact onceS_perm _ ((List.reverse_perm P).trans (hp.symm.trans (List.reverse_perm S).symm))
end Go.Proofs.Ytnmmjchhinfbpaa
