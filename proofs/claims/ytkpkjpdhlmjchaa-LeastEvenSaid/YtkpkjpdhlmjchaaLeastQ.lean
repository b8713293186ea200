/- least: plain laws of repeated picks (2): what one more connection does. -/
import Derived.Test.YtkpkjpdhlmjchaaLeastP
import Derived.Test.YtkpkjpdhlmjchaaLoadI
namespace Go.Proofs.Ytkpkjpdhlmjchaa

theorem lmGet_cons (x : Int × Int) (M : LM) (j : Int) : lmGet (x :: M) j = if x.1 = j then x.2 else lmGet M j := by
  unfold lmGet
  rw [List.find?_cons]
  by_cases h : x.1 = j
  · simp [h]
  · have : (x.1 == j) = false := by simpa using h
    rw [this, if_neg h]
theorem lmGet_ins_ne {id v j : Int} (h : id ≠ j) : ∀ M : LM, lmGet (lmIns (id, v) M) j = lmGet M j
  | [] => by simp [lmIns, lmGet_cons, h]
  | y :: M => by
    unfold lmIns
    split
    · rw [lmGet_cons, if_neg h]
    · rw [lmGet_cons, lmGet_cons, lmGet_ins_ne h M]
theorem lmGet_del_ne {id j : Int} (h : id ≠ j) : ∀ M : LM, lmGet (lmDel M id) j = lmGet M j
  | [] => rfl
  | y :: M => by
    have ih := lmGet_del_ne h M
    unfold lmDel at ih ⊢
    rw [List.filter_cons]
    by_cases e : y.1 = id
    · have e2 : (!(y.1 == id)) = false := by simp [e]
      rw [e2, if_neg (by decide), lmGet_cons, if_neg (by rw [e]; exact h)]
      exact ih
    · have e2 : (!(y.1 == id)) = true := by simp [e]
      rw [e2, if_pos rfl, lmGet_cons, lmGet_cons, ih]
theorem lmGet_put_ne {id v j : Int} (h : id ≠ j) (M : LM) : lmGet (lmPut M id v) j = lmGet M j := by
  unfold lmPut; rw [lmGet_ins_ne h, lmGet_del_ne h]
theorem lmSum_cons (x : Int × Int) (M : LM) : lmSum (x :: M) = x.2 + lmSum M := by simp [lmSum]
theorem lmSum_ins (id v : Int) : ∀ M : LM, lmSum (lmIns (id, v) M) = lmSum M + v
  | [] => by simp [lmIns, lmSum]
  | y :: M => by
    unfold lmIns
    split
    · rw [lmSum_cons]; simp only; omega
    · rw [lmSum_cons, lmSum_cons, lmSum_ins id v M]; omega
theorem lmDel_none {id : Int} : ∀ M : LM, (∀ x ∈ M, x.1 ≠ id) → lmDel M id = M
  | [], _ => rfl
  | y :: M, h => by
    have ih := lmDel_none M fun x hx => h x (by simp [hx])
    unfold lmDel at ih ⊢
    rw [List.filter_cons, ih]
    have : (!(y.1 == id)) = true := by simpa using h y (by simp)
    rw [this]; rfl
theorem lmSum_del {id : Int} : ∀ M : LM, lmSorted M → lmSum M = lmSum (lmDel M id) + lmGet M id
  | [], _ => by simp [lmSum, lmDel, lmGet]
  | y :: M, h => by
    have hs := List.pairwise_cons.1 h
    have ih := lmSum_del (id := id) M hs.2
    rw [lmSum_cons, lmGet_cons]
    have hd : lmDel (y :: M) id = if y.1 = id then lmDel M id else y :: lmDel M id := by
      unfold lmDel
      rw [List.filter_cons]
      by_cases e : y.1 = id <;> simp [e]
    rw [hd]
    by_cases e : y.1 = id
    · rw [if_pos e, if_pos e, lmDel_none M fun x hx => by have := hs.1 x hx; omega]
      omega
    · rw [if_neg e, if_neg e, lmSum_cons]
      omega
theorem lmSum_nonneg {M : LM} (h : lmPos M) : 0 ≤ lmSum M := by
  have := (lmSum_bd M h M.length (Nat.le_refl _)).1
  rwa [List.take_length] at this
theorem lmGet_le {M : LM} (h : lmPos M) (hs : lmSorted M) (id : Int) : lmGet M id ≤ lmSum M := by
  have h1 := lmSum_del (id := id) M hs
  have h2 := lmSum_nonneg (lmDel_pos h id)
  omega

structure Even (M : LM) (l : List Bk) (k : Nat) : Prop where
  good : LpGood M k
  sum : lmSum M = (k : Int)
  inv : ∀ a ∈ l, ∀ b ∈ l, (lmGet M a.id - 1) * b.w ≤ lmGet M b.id * a.w
theorem even_nil (l : List Bk) (hw : wOk l) : Even [] l 0 :=
  ⟨⟨fun x hx => by simp at hx, by simp [lmSorted], fun x hx => by simp at hx, by simp⟩, rfl, fun a ha b hb => by
    have := hw b hb
    simp [lmGet]; omega⟩
theorem even_step {M : LM} {l : List Bk} {k : Nat} (h : Even M l k) (hk : k < 1000) (hw : wOk l) (hn : (l.map Bk.id).Nodup) (hids : ∀ b ∈ l, 1 ≤ b.id ∧ b.id ≤ 65535) (h0 : 0 < l.length) : Even (lmAdd M (foldB M l).id 1) l (k + 1) := by
  obtain ⟨hm, hmin⟩ := foldB_pick h.good.pos hw h0
  generalize foldB M l = y at *
  have hle := lmGet_le h.good.pos h.good.sorted y.id
  have hr := lmGet_rng h.good.pos y.id
  have hs := h.sum
  have hadd : lmAdd M y.id 1 = lmPut M y.id (lmGet M y.id + 1) := by
    unfold lmAdd
    rw [if_neg (by omega), if_neg (by omega), show min 1099511627776 (lmGet M y.id + 1) = lmGet M y.id + 1 by omega]
  have hwf : (Lit.int .i64 y.id).wf = true := by have := hids y hm; exact wf_i64_mk (by omega) (by omega)
  have hg : LpGood (lmAdd M y.id 1) (k + 1) := by
    have := lpGood_step h.good (s := ⟨0, y.id, 1⟩) hwf
    unfold lpStep at this
    rwa [if_neg (show ¬ ((0 : Int) = 3) by decide)] at this
  have hsum : lmSum (lmAdd M y.id 1) = ((k + 1 : Nat) : Int) := by
    rw [hadd]
    unfold lmPut
    rw [lmSum_ins]
    have := lmSum_del (id := y.id) M h.good.sorted
    omega
  refine ⟨hg, hsum, ?_⟩
  have same : ∀ a ∈ l, a.id = y.id → a = y := by
    intro a ha e
    obtain ⟨i, hi, rfl⟩ := List.getElem_of_mem ha
    obtain ⟨j, hj, rfl⟩ := List.getElem_of_mem hm
    have : i = j := (List.getElem_inj (xs := l.map Bk.id) (h₀ := by simpa using hi) (h₁ := by simpa using hj) hn).1 (by simpa using e)
    subst this; rfl
  intro a ha b hb
  have hi := h.inv a ha b hb
  have wa := hw a ha
  have wb := hw b hb
  have wy := hw y hm
  rw [hadd]
  have gy : lmGet (lmPut M y.id (lmGet M y.id + 1)) y.id = lmGet M y.id + 1 := lmGet_put _ _ _
  by_cases ea : a.id = y.id
  · have := same a ha ea
    subst this
    rw [gy]
    by_cases eb : b.id = a.id
    · have := same b hb eb
      subst this
      rw [gy]
      have : (lmGet M b.id + 1) * b.w = lmGet M b.id * b.w + b.w := by rw [Int.add_mul]; omega
      have e2 : lmGet M b.id + 1 - 1 = lmGet M b.id := by omega
      rw [this, e2]; omega
    · rw [lmGet_put_ne (fun e => eb e.symm)]
      have hmb := hmin b hb
      unfold lessM at hmb
      have n1 := lessB_iff (i := b.id) (i2 := a.id) (bear_of h.good.pos (M := M) wb) (bear_of h.good.pos (M := M) wa)
      have n2 : ¬ _ := fun hh => by rw [n1.2 hh] at hmb; cases hmb
      have e2 : lmGet M a.id + 1 - 1 = lmGet M a.id := by omega
      rw [e2]
      omega
  · rw [lmGet_put_ne (fun e => ea e.symm)]
    by_cases eb : b.id = y.id
    · have := same b hb eb
      subst this
      rw [gy]
      have : (lmGet M b.id + 1) * a.w = lmGet M b.id * a.w + a.w := by rw [Int.add_mul]; omega
      rw [this]; omega
    · rw [lmGet_put_ne (fun e => eb e.symm)]
      exact hi
end Go.Proofs.Ytkpkjpdhlmjchaa
