/- wheel: plain law: the numbers that come are those whose turn is over, each once. -/
import Derived.Test.YtfpepgeaaadpdaaWheelI
namespace Go.Proofs.Ytfpepgeaaadpdaa
open Go Go.RowKit Go.Deep Go.Maps Go.ChangeMaps

/-- Where a number waits: its turn, or the time at which it was set. -/
def wInv (G now : Int) (M : LM) (T : Nat → Int) : Prop := ∀ id, lmHas M id = true → ∃ e, T id.toNat = e % 64 + 1 ∧ now / G ≤ e ∧ turnI G (lmGet M id) ≤ e ∧ (e = turnI G (lmGet M id) ∨ e = now / G)
/-- What comes from the first rows. -/
def outL (G now : Int) (M : LM) (R : Nat → List Int) (nw : Int) : Nat → List Int
  | 0 => []
  | m + 1 => outL G now M R nw m ++ comeL G M (R ((now / G + m) % 64).toNat) nw
/-- How many rows the wheel passes. -/
def cntI (G now nw : Int) : Nat := (min (nw / G) (now / G + 63) - now / G + 1).toNat
theorem turn_le {G t nw : Int} (hG : 1 ≤ G) : t * G ≤ nw ↔ t ≤ nw / G := (Int.le_ediv_iff_mul_le (by omega)).symm
theorem mem_comeL {G : Int} {M : LM} {L : List Int} {nw x : Int} : x ∈ comeL G M L nw ↔ x ∈ L ∧ turnI G (lmGet M x) * G ≤ nw := by
  unfold comeL
  rw [List.mem_filter, decide_eq_true_iff]
theorem mem_outL {G now : Int} {M : LM} {R : Nat → List Int} {nw x : Int} : ∀ {m : Nat}, x ∈ outL G now M R nw m ↔ ∃ i, i < m ∧ x ∈ R ((now / G + i) % 64).toNat ∧ turnI G (lmGet M x) * G ≤ nw
  | 0 => by
    unfold outL
    simp
  | m + 1 => by
    unfold outL
    rw [List.mem_append, mem_outL (m := m), mem_comeL]
    constructor
    · rintro (⟨i, hi, h⟩ | h)
      · exact ⟨i, by omega, h⟩
      · exact ⟨m, by omega, h⟩
    · rintro ⟨i, hi, h⟩
      by_cases e : i = m
      · subst e
        exact .inr h
      · exact .inl ⟨i, by omega, h⟩
theorem out_nodup {G now : Int} {M : LM} {R : Nat → List Int} {T : Nat → Int} (inv : RowInv M R T) (nw : Int) : ∀ m : Nat, m ≤ 64 → (outL G now M R nw m).Nodup
  | 0, _ => List.nodup_nil
  | m + 1, hm => by
    unfold outL
    rw [List.nodup_append]
    refine ⟨out_nodup inv nw m (by omega), (inv.nd _ (by omega)).filter _, fun a ha b hb e => ?_⟩
    subst e
    rw [mem_comeL] at hb
    obtain ⟨i, hi, h1, -⟩ := mem_outL.1 ha
    have q1 := ((inv.mem _ (by omega) a).1 h1).2
    have q2 := ((inv.mem _ (by omega) a).1 hb.1).2
    omega
theorem out_mem {G now nw : Int} {M : LM} {R : Nat → List Int} {T : Nat → Int} (inv : RowInv M R T) (hw : wInv G now M T) (hG : 1 ≤ G) (h0 : 0 ≤ now) (hn : now ≤ nw) (id : Int) : id ∈ outL G now M R nw (cntI G now nw) ↔ lmHas M id = true ∧ turnI G (lmGet M id) * G ≤ nw := by
  have hd0 : 0 ≤ now / G := Int.ediv_nonneg h0 (by omega)
  have hd1 : now / G ≤ nw / G := Int.ediv_le_ediv (by omega) hn
  rw [mem_outL]
  constructor
  · rintro ⟨i, hi, h1, h2⟩
    exact ⟨((inv.mem _ (by omega) id).1 h1).1, h2⟩
  · rintro ⟨h1, h2⟩
    obtain ⟨e, e1, e2, e3, e4⟩ := hw id h1
    have h3 := (turn_le hG).1 h2
    have h4 : e ≤ nw / G := by rcases e4 with e4 | e4 <;> omega
    unfold cntI
    generalize now / G = f at *
    generalize nw / G = l at *
    refine ⟨((e - f) % 64).toNat, by omega, (inv.mem _ (by omega) id).2 ⟨h1, ?_⟩, h2⟩
    rw [e1]
    omega
/-! Numbers taken away. -/
def delAll (M : LM) : List Int → LM
  | [] => M
  | x :: r => delAll (lmDel M x) r
theorem delAll_append : ∀ (S : List Int) (M : LM) (x : Int), delAll M (S ++ [x]) = lmDel (delAll M S) x
  | [], _, _ => rfl
  | y :: r, M, x => delAll_append r (lmDel M y) x
theorem delAll_take {M : LM} {S : List Int} {k : Nat} (hk : k < S.length) : delAll M (S.take (k + 1)) = lmDel (delAll M (S.take k)) S[k] := by
  rw [List.take_succ_eq_append_getElem hk, delAll_append]
theorem lmHas_delAll {x : Int} : ∀ (S : List Int) (M : LM), lmHas (delAll M S) x = true ↔ lmHas M x = true ∧ x ∉ S
  | [], M => by simp [delAll]
  | y :: r, M => by
    unfold delAll
    rw [lmHas_delAll r, lmHas_del, List.mem_cons]
    constructor
    · rintro ⟨⟨a, b⟩, c⟩
      exact ⟨a, fun e => by rcases e with e | e; exact b e; exact c e⟩
    · rintro ⟨a, b⟩
      exact ⟨⟨a, fun e => b (.inl e)⟩, fun e => b (.inr e)⟩
theorem lmGet_del {M : LM} {id x : Int} (h : x ≠ id) : lmGet (lmDel M id) x = lmGet M x := by
  unfold lmGet lmDel
  rw [List.find?_filter]
  congr 1
  congr 1
  funext p
  by_cases e : p.1 = x
  · have : ¬ p.1 = id := fun e2 => h (e.symm.trans e2)
    simp [e, h]
  · simp [e]
theorem lmGet_delAll {x : Int} : ∀ (S : List Int) (M : LM), x ∉ S → lmGet (delAll M S) x = lmGet M x
  | [], _, _ => rfl
  | y :: r, M, h => by
    unfold delAll
    rw [lmGet_delAll r _ (fun e => h (List.mem_cons_of_mem _ e)), lmGet_del (fun e => h (by rw [e]; exact List.mem_cons_self ..))]
theorem wGet_ins {id v x : Int} (h : x ≠ id) : ∀ (M : LM), lmGet (lmIns (id, v) M) x = lmGet M x
  | [] => by
    have h2 : ¬ id = x := fun e => h e.symm
    unfold lmIns lmGet
    simp [h2]
  | y :: r => by
    have h2 : ¬ id = x := fun e => h e.symm
    have ih := wGet_ins (v := v) h r
    unfold lmIns
    split
    · unfold lmGet
      rw [List.find?_cons_of_neg (by simp [h2])]
    · unfold lmGet at ih ⊢
      by_cases e : y.1 = x
      · rw [List.find?_cons_of_pos (by simp [e]), List.find?_cons_of_pos (by simp [e])]
      · rw [List.find?_cons_of_neg (by simp [e]), List.find?_cons_of_neg (by simp [e])]
        exact ih
theorem wGet_put {M : LM} {id v x : Int} (h : x ≠ id) : lmGet (lmPut M id v) x = lmGet M x := by
  unfold lmPut
  rw [wGet_ins h, lmGet_del h]
/-! The steps of the waiting. -/
theorem wInv.put {G now : Int} {M : LM} {T T' : Nat → Int} (h : wInv G now M T) {n : Nat} {due : Int} (hid : ∀ x ∈ M, 0 ≤ x.1) (hT : T' n = rowI G now due + 1) (ho : ∀ j, j ≠ n → T' j = T j) : wInv G now (lmPut M n due) T' := by
  intro id hh
  by_cases e : id = (n : Int)
  · subst e
    rw [lmGet_put, Int.toNat_natCast, hT]
    unfold rowI
    exact ⟨_, rfl, by omega, by omega, by omega⟩
  · unfold lmPut at hh
    rw [lmHas_ins, lmHas_del] at hh
    have h1 : lmHas M id = true := by
      rcases hh with hh | hh
      · exact absurd hh e
      · exact hh.1
    rw [wGet_put e, ho _ (fun e2 => e (by
      obtain ⟨x, hx, rfl⟩ := lmHas_iff.1 h1
      have := hid x hx
      omega))]
    exact h id h1
theorem wInv.del {G now : Int} {M : LM} {T T' : Nat → Int} (h : wInv G now M T) {n : Nat} (hid : ∀ x ∈ M, 0 ≤ x.1) (ho : ∀ j, j ≠ n → T' j = T j) : wInv G now (lmDel M n) T' := by
  intro id hh
  rw [lmHas_del] at hh
  rw [lmGet_del hh.2, ho _ (fun e2 => hh.2 (by
    obtain ⟨x, hx, rfl⟩ := lmHas_iff.1 hh.1
    have := hid x hx
    omega))]
  exact h id hh.1
theorem wInv.go {G now nw : Int} {M : LM} {T : Nat → Int} (h : wInv G now M T) (hG : 1 ≤ G) (hn : now ≤ nw) (hM : ∀ id, lmHas M id = true → ¬ turnI G (lmGet M id) * G ≤ nw) : wInv G nw M T := by
  intro id hh
  obtain ⟨e, e1, e2, e3, e4⟩ := h id hh
  have h1 := hM id hh
  rw [turn_le hG] at h1
  have hd1 : now / G ≤ nw / G := Int.ediv_le_ediv (by omega) hn
  exact ⟨e, e1, by omega, e3, by omega⟩
/-! Sorted lists are one. -/
theorem leT_eq {G : Int} {M : LM} : ∀ (S D : List Int), S.Pairwise (leT G M) → D.Pairwise (leT G M) → S.Perm D → S = D
  | [], D, _, _, h => (List.nil_perm.1 h).symm
  | x :: r, [], _, _, h => by simpa using h.length_eq
  | x :: r, y :: q, hs, hd, h => by
    rw [List.pairwise_cons] at hs hd
    have e : x = y := by
      have h1 : x ∈ y :: q := h.mem_iff.1 (List.mem_cons_self ..)
      have h2 : y ∈ x :: r := h.mem_iff.2 (List.mem_cons_self ..)
      rcases List.mem_cons.1 h1 with e | h1
      · exact e
      rcases List.mem_cons.1 h2 with e | h2
      · exact e.symm
      have a := hs.1 y h2
      have b := hd.1 x h1
      unfold leT at a b
      omega
    subst e
    rw [leT_eq r q hs.2 hd.2 ((List.perm_cons _).1 h)]
end Go.Proofs.Ytfpepgeaaadpdaa
