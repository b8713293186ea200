/- Plain law: how the document reads an address. -/
import Derived.Test.YtodbgjnccngljaaDoorAdK
namespace Go.Proofs.YtodbgjnccngljaaDoor
open Go

theorem join_snoc (c : UInt8) (x : List UInt8) : ∀ ws : List (List UInt8), ws ≠ [] → Lib.join (ws ++ [x]) [c] = Lib.join ws [c] ++ c :: x
  | [], h => absurd rfl h
  | [y], _ => by rw [List.singleton_append, join_cons2, Lib.join_one, Lib.join_one]
  | y :: z :: t, _ => by
    have ih := join_snoc c x (z :: t) (by simp)
    rw [List.cons_append, List.cons_append, join_cons2, join_cons2]
    rw [List.cons_append] at ih
    rw [ih]; simp
def numStep (n : Nat) (c : UInt8) : Nat := if 48 ≤ c.toNat ∧ c.toNat ≤ 57 ∧ n < 576460752303423488 then 10 * n + (c.toNat - 48) else n
def numL (l : List UInt8) : Nat := if l.length < 20 then l.foldl numStep 0 else 0
theorem numStep_lt {n : Nat} (c : UInt8) (h : n < 5764607523034234890) : numStep n c < 5764607523034234890 := by
  unfold numStep; split <;> omega
theorem numFold_lt (l : List UInt8) : ∀ n, n < 5764607523034234890 → l.foldl numStep n < 5764607523034234890 := by
  induction l with
  | nil => intro n h; exact h
  | cons c l ih => intro n h; exact ih _ (numStep_lt c h)
theorem numFold_dec (u : Nat) : u ≤ 4611686018427387904 → (Lib.decDigits u).foldl numStep 0 = u := by
  induction u using Nat.strongRecOn with
  | _ u ih =>
    intro hu
    by_cases h : u < 10
    · rw [Lib.decDigits_one h]
      show numStep 0 (UInt8.ofNat (48 + u)) = u
      unfold numStep
      rw [dig_toNat h, if_pos (by omega)]; omega
    · rw [decDigits_big h, List.foldl_append, ih (u / 10) (by omega) (by omega)]
      show numStep (u / 10) (UInt8.ofNat (48 + u % 10)) = u
      unfold numStep
      rw [dig_toNat (by omega), if_pos (by omega)]; omega
theorem dec_len (u : Nat) (h : u < 18446744073709551616) : (Lib.decDigits u).length ≤ 20 := by
  rw [Lib.decDigits_length]
  by_cases h1 : 1 ≤ u
  · have := Lib.numDigits_eq u h1 h
    split at this <;> omega
  · rw [Lib.nDigits_small (by omega)]; omega
theorem dec_len19 (u : Nat) (h : u < 10000000000000000000) : (Lib.decDigits u).length ≤ 19 := by
  rw [Lib.decDigits_length]
  by_cases h1 : 1 ≤ u
  · rcases Nat.lt_or_ge 19 (Lib.nDigits u) with h2 | h2
    · obtain ⟨k, hk⟩ : ∃ k, Lib.nDigits u = k + 1 := ⟨Lib.nDigits u - 1, by omega⟩
      have := Lib.numDigits_eq u h1 (by omega)
      have hk20 : Lib.nDigits u ≤ 20 := by split at this <;> omega
      have hk19 : Lib.nDigits u = 20 := by omega
      exfalso
      have hlo : ∀ (k v : Nat), Lib.nDigits v = k + 1 → 1 ≤ v → 10 ^ k ≤ v := by
        intro k
        induction k with
        | zero => intro v _ hv; simpa using hv
        | succ k ihk =>
          intro v hv _
          by_cases hs : v < 10
          · rw [Lib.nDigits_small hs] at hv; omega
          · rw [Lib.nDigits_big hs] at hv
            have := ihk (v / 10) (by omega) (by omega)
            rw [Nat.pow_succ]; omega
      have := hlo 19 u hk19 h1
      omega
    · exact h2
  · rw [Lib.nDigits_small (by omega)]; omega
theorem numL_dec (u : Nat) (hu : u ≤ 4611686018427387904) : numL (Lib.decDigits u) = u := by
  unfold numL
  rw [if_pos (by have := dec_len19 u (by omega); omega), numFold_dec u hu]
def refB (l : List UInt8) : List UInt8 :=
  if (parts 46 l).length = 4 then (parts 46 l).flatMap fun p => octB (numL p) 1
  else if (parts 58 l).length = 8 then (parts 58 l).flatMap fun p => (unhexL p).getD [] else []
theorem octB_one (m : Nat) : octB m 1 = [UInt8.ofNat m] := by rw [octB_succ]; simp [octB]
theorem refB_txt {v : Bool} {hi lo : Nat} (h : adrIn v hi lo) : refB (adrTxt v hi lo) = adrPut v hi lo := by
  have hg := getA_put h
  unfold adrTxt
  obtain ⟨b, hb⟩ : ∃ b, adrPut v hi lo = b := ⟨_, rfl⟩
  rw [hb] at hg ⊢
  have hl : b.length = 4 ∨ b.length = 16 := by
    unfold getA at hg
    split at hg
    · exact Or.inl (by assumption)
    · split at hg
      · exact Or.inr (by assumption)
      · cases hg
  rcases hl with hl | hl
  · simp only [hl, if_true]
    have hp : parts 46 (txt4 b) = b.map fun c => dec3 c.toNat := parts_join 46 _ (by intro e; rw [List.map_eq_nil_iff] at e; rw [e] at hl; cases hl) (by
      intro x hx
      obtain ⟨c, _, rfl⟩ := List.mem_map.1 hx
      intro h46
      have := dec3_isDig c _ h46
      unfold isDig at this
      exact absurd this.1 (by decide))
    unfold refB
    rw [hp, if_pos (by simp [hl]), List.flatMap_map]
    have : ∀ c : UInt8, octB (numL (dec3 c.toNat)) 1 = [c] := fun c => by
      have hc : c.toNat < 256 := c.toNat_lt
      rw [← dec3_eq (by omega), numL_dec _ (by omega), octB_one]; simp
    simp only [this]
    induction b with
    | nil => rfl
    | cons c r _ =>
      clear hp hg hb hl
      induction (c :: r) with
      | nil => rfl
      | cons d t ih => rw [List.flatMap_cons, ih]; rfl
  · have hne : ¬ b.length = 4 := by omega
    obtain ⟨f1, f2, f3⟩ := flatten_prs 8 b (by omega)
    rw [if_neg hne, if_pos hl]
    have hm6 : ∀ d, (d = 46 ∨ d = 58) → ∀ x ∈ (prs b).map hexL, d ∉ x := by
      intro d hd x hx
      obtain ⟨c, _, rfl⟩ := List.mem_map.1 hx
      intro h46
      have := hexL_isHex c _ h46
      unfold isHex at this
      rcases hd with rfl | rfl <;> exact absurd this (by decide)
    have hne2 : (prs b).map hexL ≠ [] := by
      intro e
      rw [List.map_eq_nil_iff] at e
      rw [e] at f2
      cases f2
    have hp : parts 58 (txt6 b) = (prs b).map hexL := parts_join 58 _ hne2 (hm6 58 (Or.inr rfl))
    have h46 : parts 46 (txt6 b) = [txt6 b] := parts_none 46 _ (by
      intro e
      rcases mem_join 58 46 _ e with e | ⟨x, hx, e⟩
      · cases e
      · exact hm6 46 (Or.inl rfl) x hx e)
    unfold refB
    rw [h46, if_neg (by simp), hp, if_pos (by simp [f2]), List.flatMap_map]
    simp only [unhex_hex, Option.getD_some]
    rw [List.flatMap_id']
    exact f1
theorem refread_eq (l : List UInt8) : readA l = match getA (refB l) with
    | some (v, hi, lo) => if adrTxt v hi lo = l then some (v, hi, lo) else none
    | none => none := by
  cases hr : readA l with
  | some a =>
    obtain ⟨v, hi, lo⟩ := a
    obtain ⟨h1, h2⟩ := txt_readA hr
    rw [← h2, refB_txt h1, getA_put h1]
    simp
  | none =>
    cases hg : getA (refB l) with
    | none => rfl
    | some a =>
      obtain ⟨v, hi, lo⟩ := a
      by_cases h : adrTxt v hi lo = l
      · have := readA_txt (put_getA hg).2
        rw [h, hr] at this
        cases this
      · simp [h]
end Go.Proofs.YtodbgjnccngljaaDoor
