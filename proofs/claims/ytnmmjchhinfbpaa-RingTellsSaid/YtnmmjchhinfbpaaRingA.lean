/- ring: the plain law: the least point, where a hash goes, shares. -/
import Derived.Test.YtnmmjchhinfbpaaBase
namespace Go.Proofs.Ytnmmjchhinfbpaa
open Go

/-- A point: its backend's ID, and its place. -/
abbrev Pt := Int × Int
def ptLt (a b : Pt) : Bool := decide (a.2 < b.2 ∨ a.2 = b.2 ∧ a.1 < b.1)
theorem ptLt_iff {a b : Pt} : ptLt a b = true ↔ a.2 < b.2 ∨ a.2 = b.2 ∧ a.1 < b.1 := by simp [ptLt]
theorem ptLt_no {a b : Pt} : ptLt a b = false ↔ ¬ (a.2 < b.2 ∨ a.2 = b.2 ∧ a.1 < b.1) := by simp only [ptLt, decide_eq_false_iff_not]
theorem pt_eq {a b : Pt} (h1 : ptLt a b = false) (h2 : ptLt b a = false) : a = b := by
  rw [ptLt_no] at h1 h2
  exact Prod.ext (by omega) (by omega)
/-- The least point of a list, the first of all. -/
def minP (l : List Pt) : Pt := match l with | [] => (0, 0) | x :: r => r.foldl (fun a b => if ptLt b a then b else a) x
theorem minP_fold : ∀ (r : List Pt) (x : Pt), (r.foldl (fun a b => if ptLt b a then b else a) x) ∈ x :: r ∧ ∀ y ∈ x :: r, ptLt y (r.foldl (fun a b => if ptLt b a then b else a) x) = false
  | [], x => ⟨by simp, fun y hy => by
      have : y = x := by simpa using hy
      subst this
      rw [List.foldl_nil, ptLt_no]
      omega⟩
  | z :: r, x => by
    rw [List.foldl_cons]
    obtain ⟨h1, h2⟩ := minP_fold r (if ptLt z x then z else x)
    generalize List.foldl (fun a b => if ptLt b a then b else a) (if ptLt z x then z else x) r = m at *
    refine ⟨?_, fun y hy => ?_⟩
    · rcases List.mem_cons.1 h1 with h1 | h1
      · rw [h1]; split <;> simp
      · simp [h1]
    · have hm := h2 _ (List.mem_cons_self ..)
      by_cases hz : ptLt z x = true
      · rw [if_pos hz] at hm h2
        rcases List.mem_cons.1 hy with rfl | hy
        · rw [ptLt_iff] at hz; rw [ptLt_no] at hm ⊢; omega
        · rcases List.mem_cons.1 hy with rfl | hy
          · exact hm
          · exact h2 y (List.mem_cons_of_mem _ hy)
      · rw [if_neg hz] at hm h2
        have hz : ptLt z x = false := by simpa using hz
        rcases List.mem_cons.1 hy with rfl | hy
        · exact hm
        · rcases List.mem_cons.1 hy with rfl | hy
          · rw [ptLt_no] at hz hm ⊢; omega
          · exact h2 y (List.mem_cons_of_mem _ hy)
theorem minP_mem {l : List Pt} (h : l ≠ []) : minP l ∈ l := by
  cases l with
  | nil => exact absurd rfl h
  | cons x r => exact (minP_fold r x).1
theorem minP_le {l : List Pt} {y : Pt} (h : y ∈ l) : ptLt y (minP l) = false := by
  cases l with
  | nil => cases h
  | cons x r => exact (minP_fold r x).2 y h
theorem minP_of {l : List Pt} {m : Pt} (hm : m ∈ l) (h : ∀ y ∈ l, ptLt y m = false) : minP l = m := pt_eq (h _ (minP_mem (fun e => by subst e; cases hm))) (minP_le hm)
theorem minP_same {l l' : List Pt} (h : ∀ x, x ∈ l ↔ x ∈ l') : minP l = minP l' := by
  by_cases he : l = []
  · subst he
    have : l' = [] := List.eq_nil_iff_forall_not_mem.2 fun x hx => by cases (h x).2 hx
    rw [this]
  · exact (minP_of ((h _).1 (minP_mem he)) fun y hy => minP_le ((h y).2 hy)).symm
/-- The points that a hash may go to ahead of all others. -/
def upP (l : List Pt) (n : Int) : List Pt := l.filter fun p => decide (n ≤ p.2)
/-- Where a hash goes. -/
def ownP (l : List Pt) (n : Int) : Pt := if upP l n = [] then minP l else minP (upP l n)
theorem mem_up {l : List Pt} {n : Int} {p : Pt} : p ∈ upP l n ↔ p ∈ l ∧ n ≤ p.2 := by simp [upP]
theorem ownP_same {l l' : List Pt} (n : Int) (h : ∀ x, x ∈ l ↔ x ∈ l') : ownP l n = ownP l' n := by
  have hu : ∀ x, x ∈ upP l n ↔ x ∈ upP l' n := fun x => by rw [mem_up, mem_up, h]
  unfold ownP
  rw [minP_same h, minP_same hu]
  by_cases he : upP l n = []
  · have : upP l' n = [] := List.eq_nil_iff_forall_not_mem.2 fun x hx => by rw [he] at hu; cases (hu x).2 hx
    rw [if_pos he, if_pos this]
  · have : upP l' n ≠ [] := fun e => he (List.eq_nil_iff_forall_not_mem.2 fun x hx => by rw [e] at hu; cases (hu x).1 hx)
    rw [if_neg he, if_neg this]
theorem ownP_mem {l : List Pt} (h : l ≠ []) (n : Int) : ownP l n ∈ l := by
  unfold ownP
  split
  · exact minP_mem h
  · rename_i hu
    exact (mem_up.1 (minP_mem hu)).1
/-- Points without one backend's: a hash that did not go there goes where it went. -/
theorem ownP_less {l : List Pt} (id n : Int) (h : (ownP l n).1 ≠ id) (h0 : l ≠ []) : ownP (l.filter fun p => !(p.1 == id)) n = ownP l n := by
  have hm : ∀ {p : Pt}, p ∈ l → p.1 ≠ id → p ∈ l.filter fun p => !(p.1 == id) := fun hp hi => List.mem_filter.2 ⟨hp, by simpa using hi⟩
  have hsub : ∀ {p : Pt}, p ∈ (l.filter fun p => !(p.1 == id)) → p ∈ l := fun hp => (List.mem_filter.1 hp).1
  unfold ownP at h ⊢
  by_cases he : upP l n = []
  · rw [if_pos he] at h ⊢
    have : upP (l.filter fun p => !(p.1 == id)) n = [] := List.eq_nil_iff_forall_not_mem.2 fun x hx => by
      have := mem_up.1 hx
      have h2 : x ∈ upP l n := mem_up.2 ⟨hsub this.1, this.2⟩
      rw [he] at h2
      cases h2
    rw [if_pos this]
    exact minP_of (hm (minP_mem h0) h) fun y hy => minP_le (hsub hy)
  · rw [if_neg he] at h ⊢
    have h1 := minP_mem he
    have h2 := mem_up.1 h1
    have h3 : minP (upP l n) ∈ upP (l.filter fun p => !(p.1 == id)) n := mem_up.2 ⟨hm h2.1 h, h2.2⟩
    rw [if_neg (fun e => by rw [e] at h3; cases h3)]
    refine minP_of h3 fun y hy => ?_
    have := mem_up.1 hy
    exact minP_le (mem_up.2 ⟨hsub this.1, this.2⟩)
/-! Sorted points. -/
def ptSorted (S : List Pt) : Prop := ∀ i j (hi : i < S.length) (hj : j < S.length), i < j → ptLt S[j] S[i] = false
def lowC (S : List Pt) (n : Int) : Nat := S.countP fun p => decide (p.2 < n)
theorem sorted_at {S : List Pt} (h : ptSorted S) {i j : Nat} (hi : i < S.length) (hj : j < S.length) (hij : i ≤ j) : S[i].2 ≤ S[j].2 := by
  by_cases e : i = j
  · subst e; exact Int.le_refl _
  · have := h i j hi hj (by omega)
    rw [ptLt_no] at this
    omega
theorem lowC_of {S : List Pt} {n : Int} {i : Nat} (hi : i ≤ S.length) (h1 : ∀ k (hk : k < S.length), k < i → S[k].2 < n) (h2 : ∀ k (hk : k < S.length), i ≤ k → n ≤ S[k].2) : lowC S n = i := by
  unfold lowC
  have e : S = S.take i ++ S.drop i := (List.take_append_drop i S).symm
  rw [e, List.countP_append]
  have c1 : (S.take i).countP (fun p => decide (p.2 < n)) = (S.take i).length := List.countP_eq_length.2 fun p hp => by
    obtain ⟨k, hk, rfl⟩ := List.getElem_of_mem hp
    rw [List.length_take] at hk
    rw [List.getElem_take]
    simpa using h1 k (by omega) (by omega)
  have c2 : (S.drop i).countP (fun p => decide (p.2 < n)) = 0 := List.countP_eq_zero.2 fun p hp => by
    obtain ⟨k, hk, rfl⟩ := List.getElem_of_mem hp
    rw [List.length_drop] at hk
    rw [List.getElem_drop]
    have := h2 (i + k) (by omega) (by omega)
    simp
    omega
  rw [c1, c2, List.length_take]
  omega
/-- The place that a search among sorted points finds. -/
theorem own_sorted {S : List Pt} (hs : ptSorted S) (n : Int) {i : Nat} (hi : i ≤ S.length) (h0 : 0 < S.length) (h1 : ∀ k (hk : k < S.length), k < i → S[k].2 < n) (h2 : ∀ k (hk : k < S.length), i ≤ k → n ≤ S[k].2) : S[i % S.length]'(Nat.mod_lt _ h0) = ownP S n := by
  unfold ownP
  by_cases he : i < S.length
  · have hm : S[i] ∈ upP S n := mem_up.2 ⟨List.getElem_mem he, h2 i he (Nat.le_refl _)⟩
    rw [if_neg (fun e => by rw [e] at hm; cases hm)]
    simp only [Nat.mod_eq_of_lt he]
    refine (minP_of hm fun y hy => ?_).symm
    obtain ⟨hy1, hy2⟩ := mem_up.1 hy
    obtain ⟨k, hk, rfl⟩ := List.getElem_of_mem hy1
    by_cases hki : k < i
    · have := h1 k hk hki; omega
    · by_cases e : k = i
      · subst e; rw [ptLt_no]; omega
      · exact hs i k he hk (by omega)
  · have e : i = S.length := by omega
    subst e
    have hu : upP S n = [] := List.eq_nil_iff_forall_not_mem.2 fun x hx => by
      obtain ⟨hx1, hx2⟩ := mem_up.1 hx
      obtain ⟨k, hk, rfl⟩ := List.getElem_of_mem hx1
      have := h1 k hk hk
      omega
    rw [if_pos hu]
    simp only [Nat.mod_self]
    refine (minP_of (List.getElem_mem h0) fun y hy => ?_).symm
    obtain ⟨k, hk, rfl⟩ := List.getElem_of_mem hy
    by_cases e : k = 0
    · subst e; rw [ptLt_no]; omega
    · exact hs 0 k h0 hk (by omega)
/-! Shares. -/
def lastAt (S : List Pt) (k : Nat) : Int := if k = 0 then (S.getD (S.length - 1) (0, 0)).2 else (S.getD (k - 1) (0, 0)).2
def shTerm (S : List Pt) (id : Int) (k : Nat) : Int := if (S.getD k (0, 0)).1 = id then (S.getD k (0, 0)).2 - lastAt S k else 0
def shN (S : List Pt) (id : Int) : Nat → Int
  | 0 => 0
  | k + 1 => shN S id k + shTerm S id k
/-- All shares together. -/
def shAll (S : List Pt) (ids : List Int) : Int := (ids.map fun id => shN S id S.length).sum
theorem sum_ids (S : List Pt) (k : Nat) : ∀ (ids : List Int), ids.Nodup → (S.getD k (0, 0)).1 ∈ ids → (ids.map fun id => shTerm S id k).sum = (S.getD k (0, 0)).2 - lastAt S k
  | [], _, h => by cases h
  | a :: r, hn, h => by
    obtain ⟨h1, h2⟩ := List.nodup_cons.1 hn
    rw [List.map_cons, List.sum_cons]
    by_cases e : (S.getD k (0, 0)).1 = a
    · have hz : (r.map fun id => shTerm S id k).sum = 0 := by
        have : ∀ id ∈ r, shTerm S id k = 0 := fun id hid => by
          unfold shTerm
          rw [if_neg (fun e2 => h1 (by rw [← e, e2]; exact hid))]
        rw [List.map_congr_left this]
        clear this hn h h1 h2
        induction r with
        | nil => rfl
        | cons x r ih => rw [List.map_cons, List.sum_cons, ih]; rfl
      rw [hz]
      unfold shTerm
      rw [if_pos e]
      omega
    · have hr : (S.getD k (0, 0)).1 ∈ r := by
        rcases List.mem_cons.1 h with h | h
        · exact absurd h e
        · exact h
      rw [sum_ids S k r h2 hr]
      unfold shTerm
      rw [if_neg e]
      omega
theorem sum_steps (S : List Pt) (ids : List Int) (hn : ids.Nodup) (hm : ∀ p ∈ S, p.1 ∈ ids) : ∀ k, k ≤ S.length → (ids.map fun id => shN S id k).sum = if k = 0 then 0 else (S.getD (k - 1) (0, 0)).2 - (S.getD (S.length - 1) (0, 0)).2
  | 0, _ => by
    rw [if_pos rfl]
    clear hm hn
    induction ids with
    | nil => rfl
    | cons x r ih => rw [List.map_cons, List.sum_cons, ih]; rfl
  | k + 1, hk => by
    have ih := sum_steps S ids hn hm k (by omega)
    have e : (ids.map fun id => shN S id (k + 1)).sum = (ids.map fun id => shN S id k).sum + (ids.map fun id => shTerm S id k).sum := by
      clear ih hn hm
      induction ids with
      | nil => rfl
      | cons x r ih =>
        simp only [List.map_cons, List.sum_cons]
        rw [ih]
        show shN S x k + shTerm S x k + _ = _
        omega
    have hx : (S.getD k (0, 0)).1 ∈ ids := by
      rw [List.getD_eq_getElem?_getD, List.getElem?_eq_getElem (by omega)]
      exact hm _ (List.getElem_mem _)
    rw [e, ih, sum_ids S k ids hn hx, if_neg (show ¬ k + 1 = 0 by omega), Nat.add_sub_cancel]
    unfold lastAt
    by_cases h0 : k = 0
    · subst h0
      rw [if_pos rfl, if_pos rfl]
      omega
    · rw [if_neg h0, if_neg h0]
      omega
theorem shAll_zero (S : List Pt) (ids : List Int) (hn : ids.Nodup) (hm : ∀ p ∈ S, p.1 ∈ ids) : shAll S ids = 0 := by
  unfold shAll
  rw [sum_steps S ids hn hm S.length (Nat.le_refl _)]
  split <;> omega
end Go.Proofs.Ytnmmjchhinfbpaa
