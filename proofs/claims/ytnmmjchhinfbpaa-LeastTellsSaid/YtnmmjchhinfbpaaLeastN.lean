/- least: the law LeastTells, called. -/
import Derived.Test.YtnmmjchhinfbpaaLeastL
import Derived.Test.YtnmmjchhinfbpaaLeastF
import Derived.Test.YtnmmjchhinfbpaaLeastC
import Derived.Test.YtnmmjchhinfbpaaInts
namespace Go.Proofs.Ytnmmjchhinfbpaa
open Go Go.RowKit Go.Deep Go.Maps Go.ChangeMaps

theorem leastId_fold (M : LM) (l : List Bk) : leastId M l = (foldB M l).id := by
  unfold leastId
  split
  · rfl
  · rename_i h
    have : l = [] := List.eq_nil_of_length_eq_zero (by omega)
    subst this
    rfl
theorem lawIds_lt {l : List Bk} (h : bkRight l) : ∀ d i : Nat, (hi : i + d + 1 < l.length) → (l[i]'(by omega)).id < (l[i + d + 1]).id
  | 0, i, hi => by
    have := (h.2 (i + 1) _ (List.getElem?_eq_getElem hi)).2.2.2.2 (by omega) (l[i]'(by omega)) (by rw [show i + 1 - 1 = i by omega]; exact List.getElem?_eq_getElem (by omega))
    exact this
  | d + 1, i, hi => by
    have h1 := lawIds_lt h d i (by omega)
    have h2 := (h.2 (i + (d + 1) + 1) _ (List.getElem?_eq_getElem hi)).2.2.2.2 (by omega) (l[i + d + 1]'(by omega)) (by rw [show i + (d + 1) + 1 - 1 = i + d + 1 by omega]; exact List.getElem?_eq_getElem (by omega))
    omega
theorem lawIds {l : List Bk} (h : bkRight l) : ∀ i j (hi : i < l.length) (hj : j < l.length), i < j → l[i].id < l[j].id := by
  intro i j hi hj hij
  obtain ⟨d, rfl⟩ : ∃ d, j = i + d + 1 := ⟨j - i - 1, by omega⟩
  exact lawIds_lt h d i hj
theorem lessM_eq {M : LM} {x y : Bk} (hx : bearB (lmGet M x.id) x.w = true) (hy : bearB (lmGet M y.id) y.w = true) (h1 : lessM M x y = false) (h2 : lessM M y x = false) : x.id = y.id := by
  unfold lessM at h1 h2
  have i1 := lessB_iff (i := x.id) (i2 := y.id) hx hy
  have i2 := lessB_iff (i := y.id) (i2 := x.id) hy hx
  have q1 : ¬ _ := fun h => by rw [i1.2 h] at h1; cases h1
  have q2 : ¬ _ := fun h => by rw [i2.2 h] at h2; cases h2
  omega
/-- The sorted ones are the least, and then of the others. -/
theorem selO_sorted {M : LM} (hp : lmPos M) : ∀ (S l : List Bk), S.Perm l → sortedB M S → wOk l → (l.map Bk.id).Nodup → SelO M l (S.map Bk.id)
  | [], l, hP, _, _, _ => hP.nil_eq.symm
  | x :: S, l, hP, hs, hw, hn => by
    have hl : 0 < l.length := by rw [← hP.length_eq]; simp
    have hne : l ≠ [] := fun e => by rw [e] at hl; simp at hl
    have hxl : x ∈ l := hP.mem_iff.1 (List.mem_cons_self ..)
    obtain ⟨f1, f2⟩ := foldB_pick hp hw hl
    have hfS : foldB M l ∈ x :: S := hP.mem_iff.2 f1
    have hle : lessM M (foldB M l) x = false := by
      obtain ⟨i, hi, e⟩ := List.getElem_of_mem hfS
      cases i with
      | zero =>
        rw [← e]
        exact lessB_self _ _ _
      | succ i =>
        have := hs 0 (i + 1) (by simp) hi (by omega)
        rw [e] at this
        exact this
    have hid : (foldB M l).id = x.id := lessM_eq (bear_of hp (hw _ f1)) (bear_of hp (hw _ hxl)) hle (f2 x hxl)
    have hn2 : ((x :: S).map Bk.id).Nodup := (hP.map Bk.id).nodup_iff.2 hn
    obtain ⟨n1, n2⟩ := List.nodup_cons.1 hn2
    have hf : (x :: S).filter (fun b => b.id != x.id) = S := by
      rw [List.filter_cons_of_neg (by simp)]
      refine List.filter_eq_self.2 fun b hb => ?_
      have : b.id ≠ x.id := fun e => n1 (by rw [← e]; exact List.mem_map.2 ⟨b, hb, rfl⟩)
      simpa using this
    have hP2 : S.Perm (woB l x.id) := by
      have := hP.filter fun b => b.id != x.id
      rw [hf] at this
      exact this
    refine ⟨hne, hid, selO_sorted hp S (woB l x.id) hP2 ?_ (fun b hb => hw b (List.mem_filter.1 hb).1) ?_⟩
    · intro i j hi hj hij
      have := hs (i + 1) (j + 1) (by simpa using hi) (by simpa using hj) (by omega)
      simpa using this
    · exact hn.sublist (List.Sublist.map _ List.filter_sublist)
end Go.Proofs.Ytnmmjchhinfbpaa
