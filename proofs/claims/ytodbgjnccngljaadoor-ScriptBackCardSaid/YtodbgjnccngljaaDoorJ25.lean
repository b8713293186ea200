/- Plain law: lines of acts hold no line feed and are short; what is read of a text; acts come back from their text. -/
import Derived.Test.YtodbgjnccngljaaDoorJ17
import Derived.Test.YtodbgjnccngljaaDoorJ24
namespace Go.Proofs.YtodbgjnccngljaaDoor
open Go

theorem itoa_nl (n : Int) : (10 : UInt8) ∉ Lib.itoa n := by
  unfold Lib.itoa
  intro h
  split at h
  · rcases List.mem_cons.1 h with h | h
    · cases h
    · exact absurd (dec_isDig _ _ h).1 (by decide)
  · exact absurd (dec_isDig _ _ h).1 (by decide)
theorem dec_nl (n : Nat) : (10 : UInt8) ∉ Lib.decDigits n := fun h => absurd (dec_isDig _ _ h).1 (by decide)
theorem text_nl (s : List UInt8) : (10 : UInt8) ∉ textL s := by
  unfold textL
  intro h
  split at h
  · simp at h
  · rcases hexL_isHex s _ h with h | h <;> exact absurd h.1 (by decide)
theorem on_nl (b : Bool) : (10 : UInt8) ∉ onL b := by cases b <;> decide
theorem adrTxt_nl (v : Bool) (hi lo : Nat) : (10 : UInt8) ∉ adrTxt v hi lo := by
  unfold adrTxt
  generalize adrPut v hi lo = b
  show (10 : UInt8) ∉ (if b.length = 4 then txt4 b else if b.length = 16 then txt6 b else [])
  intro h
  split at h
  · unfold txt4 at h
    rcases mem_join _ _ _ h with h | ⟨x, hx, h⟩
    · cases h
    · obtain ⟨c, -, rfl⟩ := List.mem_map.1 hx
      exact absurd (dec3_isDig c _ h).1 (by decide)
  · split at h
    · unfold txt6 at h
      rcases mem_join _ _ _ h with h | ⟨x, hx, h⟩
      · cases h
      · obtain ⟨c, -, rfl⟩ := List.mem_map.1 hx
        rcases hexL_isHex c _ h with h | h <;> exact absurd h.1 (by decide)
    · cases h
theorem word_nl_fin : ∀ k : Fin 12, (10 : UInt8) ∉ wordsL.getD k.val [] := by decide +kernel
theorem said_nl (x : ActL) : ∀ w ∈ saidL x, (10 : UInt8) ∉ w := by
  intro w hw
  unfold saidL at hw
  repeat' split at hw
  all_goals
    simp only [List.mem_cons, List.not_mem_nil, or_false] at hw
    first
    | (rcases hw with rfl | rfl | rfl | rfl <;> first | exact itoa_nl _ | exact dec_nl _ | exact text_nl _)
    | (rcases hw with rfl | rfl <;> first | exact itoa_nl _ | exact text_nl _ | exact on_nl _ | exact adrTxt_nl _ _ _)
    | (subst hw; first | exact itoa_nl _ | exact on_nl _)
theorem line_nl (x : ActL) (h0 : 0 ≤ x.k) (h11 : x.k ≤ 11) : (10 : UInt8) ∉ lineL x := by
  unfold lineL
  intro h
  rcases mem_join _ _ _ h with h | ⟨w, hw, h⟩
  · cases h
  · rcases List.mem_cons.1 hw with rfl | hw
    · exact word_nl_fin ⟨x.k.toNat, by omega⟩ h
    · exact said_nl x w hw h
theorem word_first_fin : ∀ k : Fin 12, wordsL.getD k.val [] ≠ [] ∧ (wordsL.getD k.val []).headD 0 ≠ 35 := by decide +kernel
theorem line_first (x : ActL) (h0 : 0 ≤ x.k) (h11 : x.k ≤ 11) : ¬ (lineL x = [] ∨ (lineL x).headD 0 = 35) := by
  obtain ⟨h1, h2⟩ := word_first_fin ⟨x.k.toNat, by omega⟩
  have h1' : wordsL.getD x.k.toNat [] ≠ [] := h1
  have h2' : (wordsL.getD x.k.toNat []).headD 0 ≠ 35 := h2
  unfold lineL
  cases hw : wordsL.getD x.k.toNat [] with
  | nil => exact absurd hw h1'
  | cons c r =>
    rw [hw] at h2'
    rw [join_head]
    rintro (h | h)
    · cases h
    · exact h2' h

theorem dec_len_le : ∀ (k u : Nat), u < 10 ^ (k + 1) → (Lib.decDigits u).length ≤ k + 1
  | 0, u, h => by rw [Lib.decDigits_one (by simpa using h)]; simp
  | k + 1, u, h => by
    by_cases h1 : u < 10
    · rw [Lib.decDigits_one h1]; simp
    · rw [decDigits_big h1, List.length_append]
      have := dec_len_le k (u / 10) (by rw [Nat.pow_succ] at h; omega)
      simp; omega
theorem dec_len64 {u : Nat} (h : u < 18446744073709551616) : (Lib.decDigits u).length ≤ 20 := dec_len_le 19 u (Nat.lt_trans h (by decide +kernel))
theorem itoa_len {n : Int} (h : numOk n = true) : (Lib.itoa n).length ≤ 21 := by
  rw [numOk_iff] at h
  unfold Lib.itoa
  split
  · have := dec_len64 (u := n.natAbs) (by omega)
    simp; omega
  · have := dec_len64 (u := n.toNat) (by omega)
    omega
theorem text_len (s : List UInt8) : (textL s).length ≤ 2 * s.length + 1 := by
  unfold textL
  split
  · simp
  · rw [hexL_len]; omega
theorem on_len (b : Bool) : (onL b).length ≤ 3 := by cases b <;> decide
theorem word_len_fin : ∀ k : Fin 12, (wordsL.getD k.val []).length ≤ 6 := by decide +kernel
theorem right_num {x : ActL} (h : rightL x = true) : numOk x.at_ = true ∧ numOk x.id = true ∧ numOk x.n = true ∧ numOk x.pk = true ∧ numOk x.ps = true := by
  unfold rightL at h
  simp only [Bool.and_eq_true] at h
  exact ⟨h.2.2.1, h.2.2.2.1, h.2.2.2.2.1, h.2.2.2.2.2.1, h.2.2.2.2.2.2.1⟩
set_option maxHeartbeats 4000000 in
theorem said_len {x : ActL} (h : rightL x = true) (hi : inL x) : (saidL x).length ≤ 4 ∧ ∀ w ∈ saidL x, w.length ≤ 2 * x.s.length + 101 := by
  obtain ⟨n1, n2, n3, n4, n5⟩ := right_num h
  have l1 := itoa_len n1
  have l2 := itoa_len n2
  have l3 := itoa_len n3
  have l4 := itoa_len n4
  have l5 := itoa_len n5
  have l6 := dec_len64 hi.1
  have l7 := dec_len64 hi.2.1
  have l8 := text_len x.s
  have l9 := on_len x.on
  have l10 := adrTxt_len x.v6 x.hi x.lo
  unfold saidL
  repeat' split
  all_goals
    refine ⟨by simp, fun w hw => ?_⟩
    simp only [List.mem_cons, List.not_mem_nil, or_false] at hw
    first
    | (rcases hw with rfl | rfl | rfl | rfl <;> omega)
    | (rcases hw with rfl | rfl <;> omega)
    | (subst hw; omega)
theorem line_len {x : ActL} (h : rightL x = true) (hi : inL x) : (lineL x).length ≤ 10 * x.s.length + 600 := by
  obtain ⟨h1, h2⟩ := said_len h hi
  obtain ⟨k0, k11⟩ := right_k h
  have := join_len_le 32 (2 * x.s.length + 101) (wordsL.getD x.k.toNat [] :: saidL x) (fun w hw => by
    rcases List.mem_cons.1 hw with rfl | hw
    · exact Nat.le_trans (word_len_fin ⟨x.k.toNat, by omega⟩) (by omega)
    · exact h2 w hw)
  unfold lineL
  rw [List.length_cons] at this
  have h3 : ((saidL x).length + 1) * (2 * x.s.length + 101 + 1) ≤ 5 * (2 * x.s.length + 101 + 1) := Nat.mul_le_mul_right _ (by omega)
  omega

/- What is read of a text. -/
def rdL : Nat → List (List UInt8) → List ActL → Nat × List ActL
  | _, [], acc => (0, acc)
  | i, x :: r, acc => if x = [] ∨ x.headD 0 = 35 then rdL (i + 1) r acc else match parseP x with
    | some a => rdL (i + 1) r (acc ++ [a])
    | none => (i + 1, [])
def linesL (l : List ActL) : List UInt8 := l.flatMap fun x => lineL x ++ [10]
def textOk (l : List ActL) : Bool := decide (l.length ≤ 200) && l.all rightL
theorem parts_nl (a b : List UInt8) (h : (10 : UInt8) ∉ a) : parts 10 (a ++ 10 :: b) = a :: parts 10 b := parts_hit 10 a b h
theorem rd_lines (tail : List UInt8) : ∀ (l : List ActL) (i : Nat) (acc : List ActL), (∀ x ∈ l, rightL x = true ∧ inL x) →
    rdL i (parts 10 (linesL l ++ tail)) acc = rdL (i + l.length) (parts 10 tail) (acc ++ l)
  | [], i, acc, _ => by simp [linesL]
  | x :: l, i, acc, h => by
    obtain ⟨hr, hi⟩ := h x (List.mem_cons_self ..)
    obtain ⟨k0, k11⟩ := right_k hr
    have e : linesL (x :: l) ++ tail = lineL x ++ 10 :: (linesL l ++ tail) := by simp [linesL]
    rw [e, parts_nl _ _ (line_nl x k0 k11)]
    have hp := (parse_iff (lineL x) x).2 ⟨hr, hi, rfl⟩
    show (if lineL x = [] ∨ (lineL x).headD 0 = 35 then rdL (i + 1) (parts 10 (linesL l ++ tail)) acc else match parseP (lineL x) with
      | some a => rdL (i + 1) (parts 10 (linesL l ++ tail)) (acc ++ [a])
      | none => (i + 1, [])) = _
    rw [if_neg (line_first x k0 k11), hp]
    show rdL (i + 1) (parts 10 (linesL l ++ tail)) (acc ++ [x]) = _
    rw [rd_lines tail l (i + 1) (acc ++ [x]) (fun y hy => h y (List.mem_cons_of_mem _ hy))]
    congr 1
    · simp; omega
    · simp
theorem rd_back (l : List ActL) (more : List UInt8) (h : ∀ x ∈ l, rightL x = true ∧ inL x) (hm : (10 : UInt8) ∉ more) :
    rdL 0 (parts 10 (35 :: (more ++ 10 :: 10 :: (linesL l ++ [35, 32, 101, 110, 100])))) [] = (0, l) := by
  have e : 35 :: (more ++ 10 :: 10 :: (linesL l ++ [35, 32, 101, 110, 100])) = (35 :: more) ++ 10 :: ([] ++ 10 :: (linesL l ++ [35, 32, 101, 110, 100])) := by simp
  rw [e, parts_nl _ _ (by intro hh; rcases List.mem_cons.1 hh with hh | hh; exact absurd hh (by decide); exact hm hh), parts_nl _ _ (by simp)]
  show (if (35 :: more : List UInt8) = [] ∨ (35 :: more : List UInt8).headD 0 = 35 then _ else _) = _
  rw [if_pos (show (35 :: more : List UInt8) = [] ∨ (35 :: more : List UInt8).headD 0 = 35 from Or.inr rfl)]
  show (if ([] : List UInt8) = [] ∨ ([] : List UInt8).headD 0 = 35 then _ else _) = _
  rw [if_pos (show ([] : List UInt8) = [] ∨ ([] : List UInt8).headD 0 = 35 from Or.inl rfl), rd_lines _ l _ _ h]
  rw [show parts 10 [35, 32, 101, 110, 100] = [[35, 32, 101, 110, 100]] from parts_none 10 _ (by decide)]
  show (if ([35, 32, 101, 110, 100] : List UInt8) = [] ∨ ([35, 32, 101, 110, 100] : List UInt8).headD 0 = 35 then _ else _) = _
  rw [if_pos (show ([35, 32, 101, 110, 100] : List UInt8) = [] ∨ ([35, 32, 101, 110, 100] : List UInt8).headD 0 = 35 from Or.inr rfl)]
  rfl
theorem lines_len {l : List ActL} {m : Nat} (h : ∀ x ∈ l, rightL x = true ∧ inL x ∧ x.s.length ≤ m) : (linesL l).length ≤ l.length * (10 * m + 601) := by
  induction l with
  | nil => simp [linesL]
  | cons x l ih =>
    obtain ⟨h1, h2, h3⟩ := h x (List.mem_cons_self ..)
    have := line_len h1 h2
    have i := ih (fun y hy => h y (List.mem_cons_of_mem _ hy))
    have e : linesL (x :: l) = lineL x ++ 10 :: linesL l := by simp [linesL]
    rw [e, List.length_append, List.length_cons, List.length_cons, Nat.add_mul]
    omega
end Go.Proofs.YtodbgjnccngljaaDoor
