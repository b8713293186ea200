/- Plain law: lines of acts hold no line feed and are short; what is read of a text; acts come back from their text. Plain law: what the document guesses by a line's words. script: must, which panics; the cursor of a line, told by the words that are left; word. script.digits. script: what the cursor reads: numbers, draws, bytes, what is on, addresses. script: the lines' first words; the .. -/
import Derived.Test.YtodbgjnccngljaaGreatDoorJ17
import Derived.Test.YtodbgjnccngljaaGreatDoorJ18
import Derived.Test.YtodbgjnccngljaaGreatDoorJ15
import Derived.Lib.IndexMore
namespace Go.Proofs.YtodbgjnccngljaaGreatDoor
open Go
theorem dec_len_le : ∀ (k u : Nat), u < 10 ^ (k + 1) → (Lib.decDigits u).length ≤ k + 1
 | 0, u, h => by rw [Lib.decDigits_one (by simpa using h)]; simp
 | k + 1, u, h => by
  by_cases h1 : u < 10
  · rw [Lib.decDigits_one h1]; simp
  ·
   rw [decDigits_big h1, List.length_append]
   have := dec_len_le k (u / 10) (by rw [Nat.pow_succ] at h; omega)
   simp; omega
theorem dec_len64 {u : Nat} (h : u < 18446744073709551616) : (Lib.decDigits u).length ≤ 20 := dec_len_le 19 u (Nat.lt_trans h (by decide +kernel))
theorem itoa_len {n : Int} (h : numOk n = true) : (Lib.itoa n).length ≤ 21 := by
 rw [numOk_iff] at h
 unfold Lib.itoa
 split
 ·
  have := dec_len64 (u := n.natAbs) (by omega)
  simp; omega
 ·
  have := dec_len64 (u := n.toNat) (by omega)
  omega
theorem text_len (s : List UInt8) : (textL s).length ≤ 2 * s.length + 1 := by
 unfold textL
 split
 · simp
 · rw [hexL_len]; omega
theorem on_len (b : Bool) : (onL b).length ≤ 3 := by cases b <;> decide
theorem word_len_fin : ∀ k : Fin 12, (wordsL.getD k.val []).length ≤ 6 := by decide +kernel
theorem right_num {x : ActL} (h : rightL x = true) : numOk x.at_ = true ∧ numOk x.id = true ∧ numOk x.n = true ∧ numOk x.pk = true ∧ numOk x.ps = true := by
 unfold rightL at h
 simp only [Bool.and_eq_true] at h
 exact ⟨h.2.2.1, h.2.2.2.1, h.2.2.2.2.1, h.2.2.2.2.2.1, h.2.2.2.2.2.2.1⟩
set_option maxHeartbeats 4000000 in
theorem said_len {x : ActL} (h : rightL x = true) (hi : inL x) : (saidL x).length ≤ 4 ∧ ∀ w ∈ saidL x, w.length ≤ 2 * x.s.length + 101 := by
 obtain ⟨n1, n2, n3, n4, n5⟩ := right_num h
 have l1 := itoa_len n1
 have l2 := itoa_len n2
 have l3 := itoa_len n3
 have l4 := itoa_len n4
 have l5 := itoa_len n5
 have l6 := dec_len64 hi.1
 have l7 := dec_len64 hi.2.1
 have l8 := text_len x.s
 have l9 := on_len x.on
 have l10 := adrTxt_len x.v6 x.hi x.lo
 unfold saidL
 repeat' split
 all_goals
  refine ⟨by simp, fun w hw => ?_⟩
  simp only [List.mem_cons, List.not_mem_nil, or_false] at hw
  first
  | (rcases hw with rfl | rfl | rfl | rfl <;> omega)
  | (rcases hw with rfl | rfl <;> omega)
  | (subst hw; omega)
theorem line_len {x : ActL} (h : rightL x = true) (hi : inL x) : (lineL x).length ≤ 10 * x.s.length + 600 := by
 obtain ⟨h1, h2⟩ := said_len h hi
 obtain ⟨k0, k11⟩ := right_k h
 have := join_len_le 32 (2 * x.s.length + 101) (wordsL.getD x.k.toNat [] :: saidL x) (fun w hw => by
  rcases List.mem_cons.1 hw with rfl | hw
  · exact Nat.le_trans (word_len_fin ⟨x.k.toNat, by omega⟩) (by omega)
  · exact h2 w hw)
 unfold lineL
 rw [List.length_cons] at this
 have h3 : ((saidL x).length + 1) * (2 * x.s.length + 101 + 1) ≤ 5 * (2 * x.s.length + 101 + 1) := Nat.mul_le_mul_right _ (by omega)
 omega
def rdL : Nat → List (List UInt8) → List ActL → Nat × List ActL
 | _, [], acc => (0, acc)
 | i, x :: r, acc => if x = [] ∨ x.headD 0 = 35 then rdL (i + 1) r acc else match parseP x with
  | some a => rdL (i + 1) r (acc ++ [a])
  | none => (i + 1, [])
def linesL (l : List ActL) : List UInt8 := l.flatMap fun x => lineL x ++ [10]
def textOk (l : List ActL) : Bool := decide (l.length ≤ 200) && l.all rightL
theorem lines_len {l : List ActL} {m : Nat} (h : ∀ x ∈ l, rightL x = true ∧ inL x ∧ x.s.length ≤ m) : (linesL l).length ≤ l.length * (10 * m + 601) := by
 induction l with
 | nil => simp [linesL]
 | cons x l ih =>
  obtain ⟨h1, h2, h3⟩ := h x (List.mem_cons_self ..)
  have := line_len h1 h2
  have i := ih (fun y hy => h y (List.mem_cons_of_mem _ hy))
  have e : linesL (x :: l) = lineL x ++ 10 :: linesL l := by simp [linesL]
  rw [e, List.length_append, List.length_cons, List.length_cons, Nat.add_mul]
  omega
def valL (s : List UInt8) : Int := if s.headD 0 = 45 then -(numL s.tail : Int) else (numL s : Int)
theorem numFold_dec62 : ∀ u : Nat, u < 5764607523034234880 → (Lib.decDigits u).foldl numStep 0 = u := by
 intro u
 induction u using Nat.strongRecOn with
 | _ u ih =>
  intro hu
  by_cases h : u < 10
  ·
   rw [Lib.decDigits_one h, List.foldl_cons, List.foldl_nil]
   unfold numStep
   rw [dig_toNat h, if_pos ⟨by omega, by omega, by omega⟩]
   omega
  ·
   rw [decDigits_big h, List.foldl_append, ih (u / 10) (by omega) (by omega), List.foldl_cons, List.foldl_nil]
   unfold numStep
   rw [dig_toNat (by omega), if_pos ⟨by omega, by omega, by omega⟩]
   omega
theorem numL_dec62 {u : Nat} (h : u ≤ 4611686018427387904) : numL (Lib.decDigits u) = u := by
 have hl : (Lib.decDigits u).length ≤ 19 := dec_len_le 18 u (Nat.lt_of_le_of_lt h (by decide +kernel))
 unfold numL
 rw [if_pos (by omega), numFold_dec62 u (by omega)]
theorem valL_itoa {n : Int} (h : numOk n = true) : valL (Lib.itoa n) = n := by
 rw [numOk_iff] at h
 unfold valL Lib.itoa
 by_cases h0 : n < 0
 ·
  rw [if_pos h0, List.headD_cons, if_pos rfl, List.tail_cons, numL_dec62 (by omega)]
  omega
 ·
  rw [if_neg h0]
  rw [if_neg ?_, numL_dec62 (by omega)]
  · omega
  ·
   intro e
   cases hd : Lib.decDigits n.toNat with
   | nil => exact dec_ne _ hd
   | cons c r =>
    rw [hd] at e
    have hc := dec_isDig n.toNat c (by rw [hd]; exact List.mem_cons_self ..)
    rw [List.headD_cons] at e
    rw [e] at hc
    exact absurd hc.1 (by decide)
def wideS (n : Nat) (c : UInt8) : Nat := (10 * n + (c.toNat + 208) % 256) % 18446744073709551616
def wideL (s : List UInt8) : Nat := if s.length ≤ 20 then s.foldl wideS 0 else 0
theorem wideFold_dec : ∀ u : Nat, u < 18446744073709551616 → (Lib.decDigits u).foldl wideS 0 = u := by
 intro u
 induction u using Nat.strongRecOn with
 | _ u ih =>
  intro hu
  by_cases h : u < 10
  ·
   rw [Lib.decDigits_one h, List.foldl_cons, List.foldl_nil]
   unfold wideS
   rw [dig_toNat h]
   omega
  ·
   rw [decDigits_big h, List.foldl_append, ih (u / 10) (by omega) (by omega), List.foldl_cons, List.foldl_nil]
   unfold wideS
   rw [dig_toNat (by omega)]
   omega
theorem wideL_dec {u : Nat} (h : u < 18446744073709551616) : wideL (Lib.decDigits u) = u := by
 unfold wideL
 rw [if_pos (dec_len64 h), wideFold_dec u h]
theorem wideFold_lt (l : List UInt8) : ∀ n, n < 18446744073709551616 → l.foldl wideS n < 18446744073709551616 := by
 induction l with
 | nil => intro n h; exact h
 | cons c r ih => intro n _; exact ih _ (by unfold wideS; omega)
theorem wideL_lt (l : List UInt8) : wideL l < 18446744073709551616 := by
 unfold wideL
 split
 · exact wideFold_lt l 0 (by omega)
 · omega
def kgo (w : List UInt8) : Nat → Int
 | 0 => -1
 | j + 1 => if wordsL.getD j [] = w then (j : Int) else kgo w j
theorem kgo_word : ∀ k : Fin 12, kgo (wordsL.getD k.val []) 12 = (k.val : Int) := by decide +kernel
theorem kgo_le (w : List UInt8) : ∀ j, -1 ≤ kgo w j ∧ kgo w j < j
 | 0 => by unfold kgo; omega
 | j + 1 => by
  have := kgo_le w j
  unfold kgo
  split <;> omega
def wAt (ws : List (List UInt8)) (i : Nat) : List UInt8 := ws.getD i []
def wLast (ws : List (List UInt8)) : List UInt8 := ws.getD (ws.length - 1) []
def adrOf (s : List UInt8) : Bool × Nat × Nat := (readA s).getD (false, 0, 0)
def guessL (ws : List (List UInt8)) : ActL :=
 let k := kgo (wAt ws 0) 12
 let s := (unhexL (wLast ws)).getD []
 let is := wLast ws == [111, 110]
 if k = 0 then ⟨0, valL (wAt ws 1), 0, 0, s, wideL (wAt ws 2), wideL (wAt ws 3), false, false, 0, 0, 0, 0⟩
 else if k = 1 then ⟨1, 0, valL (wAt ws 1), 0, s, 0, 0, false, false, 0, 0, 0, 0⟩
 else if k = 2 then ⟨2, 0, 0, valL (wAt ws 1), [], 0, 0, false, (adrOf (wAt ws 2)).1, (adrOf (wAt ws 2)).2.1, (adrOf (wAt ws 2)).2.2, 0, 0⟩
 else if k = 3 then ⟨3, 0, valL (wAt ws 1), 0, [], 0, 0, false, false, 0, 0, 0, 0⟩
 else if k = 4 then ⟨4, 0, valL (wAt ws 1), 0, [], 0, 0, is, false, 0, 0, 0, 0⟩
 else if k = 6 then ⟨6, 0, valL (wAt ws 1), 0, [], 0, 0, is, false, 0, 0, 0, 0⟩
 else if k = 5 then ⟨5, 0, valL (wAt ws 1), valL (wAt ws 2), [], 0, 0, false, false, 0, 0, 0, 0⟩
 else if k = 7 then ⟨7, 0, 0, 0, [], 0, 0, false, false, 0, 0, valL (wAt ws 1), valL (wAt ws 2)⟩
 else if k = 8 then ⟨8, 0, 0, 0, [], 0, 0, is, false, 0, 0, 0, 0⟩
 else if k = 9 then ⟨9, valL (wAt ws 1), 0, 0, [], 0, 0, false, false, 0, 0, 0, 0⟩
 else if k = 10 then ⟨10, valL (wAt ws 1), 0, 0, [], 0, 0, false, false, 0, 0, 0, 0⟩
 else if k = 11 then ⟨11, 0, 0, valL (wAt ws 1), [], 0, 0, false, false, 0, 0, 0, 0⟩
 else zeroL (-1)
theorem adrOf_in (s : List UInt8) : (adrOf s).2.1 < 18446744073709551616 ∧ (adrOf s).2.2 < 18446744073709551616 := by
 unfold adrOf
 cases h : readA s with
 | none => exact ⟨by decide, by decide⟩
 | some a =>
  obtain ⟨v, hi, lo⟩ := a
  exact (readA_iff.1 h).1.2
theorem in_ite {c : Prop} [Decidable c] {x y : ActL} (hx : inL x) (hy : inL y) : inL (if c then x else y) := by split <;> assumption
theorem guess_in (ws : List (List UInt8)) : inL (guessL ws) := by
 have z : (0 : Nat) < 18446744073709551616 := by decide
 have a := adrOf_in (wAt ws 2)
 have b := wideL_lt (wAt ws 2)
 have c := wideL_lt (wAt ws 3)
 unfold guessL
 exact in_ite ⟨b, c, z, z⟩ (in_ite ⟨z, z, z, z⟩ (in_ite ⟨z, z, a.1, a.2⟩ (in_ite ⟨z, z, z, z⟩ (in_ite ⟨z, z, z, z⟩ (in_ite ⟨z, z, z, z⟩ (in_ite ⟨z, z, z, z⟩ (in_ite ⟨z, z, z, z⟩ (in_ite ⟨z, z, z, z⟩ (in_ite ⟨z, z, z, z⟩ (in_ite ⟨z, z, z, z⟩ (in_ite ⟨z, z, z, z⟩ ⟨z, z, z, z⟩)))))))))))
theorem unhex_text (s : List UInt8) : (unhexL (textL s)).getD [] = s := by
 unfold textL
 by_cases h : s = []
 · rw [if_pos h, h]; rfl
 · rw [if_neg h, unhex_hex]; rfl
theorem on_eq (b : Bool) : (onL b == [111, 110]) = b := by cases b <;> rfl
theorem guess_right (x : ActL) (hr : rightL x = true) (hi : inL x) : guessL (wordsL.getD x.k.toNat [] :: saidL x) = x := by
 obtain ⟨k0, k11⟩ := right_k hr
 unfold rightL at hr
 simp only [Bool.and_eq_true, Bool.or_eq_true, decide_eq_true_eq] at hr
 obtain ⟨-, -, n1, n2, n3, n4, n5, hz, h2⟩ := hr
 replace hz := eqL_iff.1 hz
 obtain ⟨k, at_, id, n, s, a, b, on, v6, hi', lo, pk, ps⟩ := x
 obtain ⟨i1, i2, i3, i4⟩ := hi
 simp only at i1 i2 i3 i4 n1 n2 n3 n4 n5 h2 k0 k11
 have v1 := valL_itoa n1
 have v2 := valL_itoa n2
 have v3 := valL_itoa n3
 have v4 := valL_itoa n4
 have v5 := valL_itoa n5
 have w1 := wideL_dec i1
 have w2 := wideL_dec i2
 have u1 := unhex_text s
 have o1 := on_eq on
 obtain rfl | rfl | rfl | rfl | rfl | rfl | rfl | rfl | rfl | rfl | rfl | rfl : k = 0 ∨ k = 1 ∨ k = 2 ∨ k = 3 ∨ k = 4 ∨ k = 5 ∨ k = 6 ∨ k = 7 ∨ k = 8 ∨ k = 9 ∨ k = 10 ∨ k = 11 := by omega
 case inr.inr.inl =>
  have q := readA_txt (⟨h2.resolve_left (fun h => h rfl), i3, i4⟩ : adrIn v6 hi' lo)
  simp [bareL, zeroL] at hz
  show guessL [wordsL.getD 2 [], Lib.itoa n, adrTxt v6 hi' lo] = _
  have hk : kgo (wordsL.getD 2 []) 12 = 2 := kgo_word 2
  unfold guessL
  simp only [wAt, wLast, List.getD_cons_zero, List.getD_cons_succ, List.length_cons, List.length_nil, hk]
  simp [v3, adrOf, q, hz]
 all_goals
  simp [bareL, zeroL] at hz
 ·
  show guessL [wordsL.getD 0 [], Lib.itoa at_, Lib.decDigits a, Lib.decDigits b, textL s] = _
  have hk : kgo (wordsL.getD 0 []) 12 = 0 := kgo_word 0
  unfold guessL
  simp only [wAt, wLast, List.getD_cons_zero, List.getD_cons_succ, List.length_cons, List.length_nil, hk]
  simp [v1, w1, w2, u1, hz]
 ·
  show guessL [wordsL.getD 1 [], Lib.itoa id, textL s] = _
  have hk : kgo (wordsL.getD 1 []) 12 = 1 := kgo_word 1
  unfold guessL
  simp only [wAt, wLast, List.getD_cons_zero, List.getD_cons_succ, List.length_cons, List.length_nil, hk]
  simp [v2, u1, hz]
 ·
  show guessL [wordsL.getD 3 [], Lib.itoa id] = _
  have hk : kgo (wordsL.getD 3 []) 12 = 3 := kgo_word 3
  unfold guessL
  simp only [wAt, wLast, List.getD_cons_zero, List.getD_cons_succ, List.length_cons, List.length_nil, hk]
  simp [v2, hz]
 ·
  show guessL [wordsL.getD 4 [], Lib.itoa id, onL on] = _
  have hk : kgo (wordsL.getD 4 []) 12 = 4 := kgo_word 4
  unfold guessL
  simp only [wAt, wLast, List.getD_cons_zero, List.getD_cons_succ, List.length_cons, List.length_nil, hk]
  simp [v2, o1, hz]
 ·
  show guessL [wordsL.getD 5 [], Lib.itoa id, Lib.itoa n] = _
  have hk : kgo (wordsL.getD 5 []) 12 = 5 := kgo_word 5
  unfold guessL
  simp only [wAt, wLast, List.getD_cons_zero, List.getD_cons_succ, List.length_cons, List.length_nil, hk]
  simp [v2, v3, hz]
 ·
  show guessL [wordsL.getD 6 [], Lib.itoa id, onL on] = _
  have hk : kgo (wordsL.getD 6 []) 12 = 6 := kgo_word 6
  unfold guessL
  simp only [wAt, wLast, List.getD_cons_zero, List.getD_cons_succ, List.length_cons, List.length_nil, hk]
  simp [v2, o1, hz]
 ·
  show guessL [wordsL.getD 7 [], Lib.itoa pk, Lib.itoa ps] = _
  have hk : kgo (wordsL.getD 7 []) 12 = 7 := kgo_word 7
  unfold guessL
  simp only [wAt, wLast, List.getD_cons_zero, List.getD_cons_succ, List.length_cons, List.length_nil, hk]
  simp [v4, v5, hz]
 ·
  show guessL [wordsL.getD 8 [], onL on] = _
  have hk : kgo (wordsL.getD 8 []) 12 = 8 := kgo_word 8
  unfold guessL
  simp only [wAt, wLast, List.getD_cons_zero, List.getD_cons_succ, List.length_cons, List.length_nil, hk]
  simp [o1, hz]
 ·
  show guessL [wordsL.getD 9 [], Lib.itoa at_] = _
  have hk : kgo (wordsL.getD 9 []) 12 = 9 := kgo_word 9
  unfold guessL
  simp only [wAt, wLast, List.getD_cons_zero, List.getD_cons_succ, List.length_cons, List.length_nil, hk]
  simp [v1, hz]
 ·
  show guessL [wordsL.getD 10 [], Lib.itoa at_] = _
  have hk : kgo (wordsL.getD 10 []) 12 = 10 := kgo_word 10
  unfold guessL
  simp only [wAt, wLast, List.getD_cons_zero, List.getD_cons_succ, List.length_cons, List.length_nil, hk]
  simp [v1, hz]
 ·
  show guessL [wordsL.getD 11 [], Lib.itoa n] = _
  have hk : kgo (wordsL.getD 11 []) 12 = 11 := kgo_word 11
  unfold guessL
  simp only [wAt, wLast, List.getD_cons_zero, List.getD_cons_succ, List.length_cons, List.length_nil, hk]
  simp [v3, hz]
theorem guess_parse (l : List UInt8) : parseP l = if rightL (guessL (parts 32 l)) = true ∧ lineL (guessL (parts 32 l)) = l then some (guessL (parts 32 l)) else none := by
 split
 · next h => exact (parse_iff l _).2 ⟨h.1, guess_in _, h.2⟩
 ·
  next h =>
  cases hp : parseP l with
  | none => rfl
  | some x =>
   exfalso
   apply h
   obtain ⟨h1, h2, h3⟩ := (parse_iff l x).1 hp
   obtain ⟨k0, k11⟩ := right_k h1
   have e := guess_right x h1 h2
   rw [← parts_line x k0 k11, h3] at e
   rw [e]
   exact ⟨h1, h3⟩
end Go.Proofs.YtodbgjnccngljaaGreatDoor
namespace Go.Proofs.YtodbgjnccngljaaGreatDoor
open Go Go.RowKit Go.Deep Go.Sort
abbrev thrown : Ending := .panicked [{ v := .iface 67 (.agg #[]), recovered := false }]
theorem must_true (w : World) : Calls Tryz.prog 60 #[.bool true] w fun e w' => e = .returned (.tuple #[]) ∧ w = w' := by
 go_enter Tryz.func60, Tryz.ntmps60
 go_wp2_with fail
 go_end0
 exact ⟨rfl, rfl⟩
theorem must_false (w : World) : Calls Tryz.prog 60 #[.bool false] w fun e w' => e = thrown ∧ w = w' := by
 go_enter Tryz.func60, Tryz.ntmps60
 go_wp2_with fail
 exact ⟨rfl, rfl, rfl⟩
theorem cut_hit (c : UInt8) (a b : List UInt8) (h : c ∉ a) : Lib.cut (a ++ c :: b) [c] = (a, b, true) := by
 have hi : Lib.index (a ++ c :: b) [c] = (a.length : Nat) := Lib.index_first (by simp) ((occ_one _ _ _).2 (by simp)) (fun j hj => by
  cases ho : Lib.occAt (a ++ c :: b) [c] j with
  | false => rfl
  | true =>
   have := (occ_one _ _ _).1 ho
   rw [List.getElem?_append_left hj] at this
   exact absurd (List.mem_of_getElem? this) h)
 unfold Lib.cut
 rw [hi]
 simp
theorem cut_none (c : UInt8) (a : List UInt8) (h : c ∉ a) : Lib.cut a [c] = (a, [], false) := by
 have hi : Lib.index a [c] = -1 := Lib.index_none (fun j _ => by
  cases ho : Lib.occAt a [c] j with
  | false => rfl
  | true => exact absurd (List.mem_of_getElem? ((occ_one _ _ _).1 ho)) h)
 unfold Lib.cut
 rw [hi]
 simp
def restL (ws : List (List UInt8)) : List UInt8 := Lib.join ws [32]
def Cur (w : World) (g : Nat) (ws : List (List UInt8)) : Prop := Blk w g 95 #[.string ⟨(restL ws).toArray⟩, .bool (!ws.isEmpty)]
theorem cut_words (x : List UInt8) (r : List (List UInt8)) (h : (32 : UInt8) ∉ x) : Lib.cut (restL (x :: r)) [32] = (x, restL r, !r.isEmpty) := by
 cases r with
 | nil =>
  unfold restL
  rw [Lib.join_one, cut_none 32 x h]
  rfl
 | cons y r =>
  unfold restL
  rw [join_cons2, cut_hit 32 x _ h]
  rfl
theorem std_cut (x : List UInt8) (r : List (List UInt8)) (w : World) (hw : Std w) (hx : (32 : UInt8) ∉ x) (hl : (restL (x :: r)).length ≤ 1000000) :
  Calls Tryz.prog 91 #[.string ⟨(restL (x :: r)).toArray⟩, .string ⟨#[32]⟩] w fun e w' => e = .returned (.tuple #[.string ⟨x.toArray⟩, .string ⟨(restL r).toArray⟩, .bool (!r.isEmpty)]) ∧ Below w.heap.size w w' := by
 obtain ⟨_, m, hm⟩ := hw
 have K := Tryz.strings_Cut ⟨(restL (x :: r)).toArray⟩ ⟨#[32]⟩ m w (by rw [str_size]; omega) hm
 have hc := cut_words x r hx
 refine K.mono ?_
 rintro e w' ⟨rfl, n, rfl⟩
 refine ⟨?_, below_drewN (Below.refl _ _) n⟩
 show Ending.returned (.tuple #[.string ⟨(Lib.cut (restL (x :: r)) [32]).1.toArray⟩, .string ⟨(Lib.cut (restL (x :: r)) [32]).2.1.toArray⟩, .bool (Lib.cut (restL (x :: r)) [32]).2.2]) = _
 rw [hc]
theorem blk2 {w : World} {g : Nat} {t : TypeId} {a b : Value} (h : Blk w g t #[a, b]) :
  (w.cell? ⟨g, 0, none⟩ = some a ∧ w.cell? ⟨g, 1, none⟩ = some b) ∧ w.frozen? ⟨g, 0, none⟩ = false ∧ w.frozen? ⟨g, 1, none⟩ = false := by
 unfold Blk at h
 refine ⟨⟨?_, ?_⟩, ?_, ?_⟩ <;> simp [World.cell?, World.frozen?, h]
theorem blk2_set {w : World} {g : Nat} {t : TypeId} {a b : Value} (h : Blk w g t #[a, b]) (a' b' : Value) :
  Blk ((w.setCell ⟨g, 0, none⟩ a').setCell ⟨g, 1, none⟩ b') g t #[a', b'] := by
 unfold Blk at h ⊢
 simp [World.setCell, Array.getElem?_modify, h]
theorem chg_set2 {w0 w : World} {g : Nat} (hb : Chg (· = g) w0 w) (a b : Value) : Chg (· = g) w0 ((w.setCell ⟨g, 0, none⟩ a).setCell ⟨g, 1, none⟩ b) :=
 (hb.setCell (fun _ => rfl) _).setCell (fun _ => rfl) _
set_option maxRecDepth 100000 in
theorem cur_word (g : Nat) (x : List UInt8) (r : List (List UInt8)) (w : World) (hw : Std w) (h : Cur w g (x :: r)) (hx : (32 : UInt8) ∉ x) (hl : (restL (x :: r)).length ≤ 1000000) :
  Calls Tryz.prog 73 #[.pointer (some ⟨g, 0, none⟩)] w fun e w' => e = .returned (.string ⟨x.toArray⟩) ∧ Cur w' g r ∧ Chg (· = g) w w' := by
 have C := Lib.hid (std_cut x r w hw hx hl)
 have M := Lib.hid (must_true w)
 have hs : (!(x :: r).isEmpty) = true := rfl
 unfold Cur at h
 rw [hs] at h
 clear hs
 obtain ⟨⟨c0, c1⟩, f0, f1⟩ := blk2 h
 replace h := Lib.hid h
 generalize restL (x :: r) = rest at *
 go_enter Tryz.func73, Tryz.ntmps73
 go_wp2_with (first
  | (go_at_call 60; refine (M.out.mono ?_); rintro e w1 ⟨rfl, rfl⟩)
  | (go_at_call 91; refine (C.out.mono ?_); rintro e w2 ⟨rfl, hb2⟩; have h2 := Lib.hid (h.out.call hb2); obtain ⟨⟨d0, d1⟩, k0, k1⟩ := blk2 h2.out))
 go_ret
 exact ⟨rfl, blk2_set h2.out _ _, chg_set2 (Chg.of_below hb2) _ _⟩
theorem cur_done (g : Nat) (w : World) (h : Cur w g []) :
  Calls Tryz.prog 73 #[.pointer (some ⟨g, 0, none⟩)] w fun e w' => e = thrown ∧ w = w' := by
 have M := Lib.hid (must_false w)
 have hs : (!([] : List (List UInt8)).isEmpty) = false := rfl
 unfold Cur at h
 rw [hs] at h
 clear hs
 obtain ⟨⟨c0, c1⟩, f0, f1⟩ := blk2 h
 clear h
 go_enter Tryz.func73, Tryz.ntmps73
 go_wp2_with (go_at_call 60; refine (M.out.mono ?_); rintro e w1 ⟨rfl, rfl⟩)
 exact ⟨rfl, rfl, rfl⟩
end Go.Proofs.YtodbgjnccngljaaGreatDoor
namespace Go.Proofs.YtodbgjnccngljaaGreatDoor
open Go Go.RowKit Go.Deep
def digE : Option Nat → Ending
 | some n => .returned (.int .u64 (n : Nat))
 | none => thrown
theorem digF_drop (l : List UInt8) (m : Nat) {j n : Nat} (h : j < l.length) : digF (l.drop j) m n = if 48 ≤ (l.getD j 0).toNat ∧ (l.getD j 0).toNat ≤ 57 ∧ n ≤ m / 10 ∧ 10 * n ≤ m - ((l.getD j 0).toNat - 48) ∧ (l.getD j 0).toNat - 48 ≤ m then digF (l.drop (j + 1)) m (10 * n + ((l.getD j 0).toNat - 48)) else none := by
 rw [List.drop_eq_getElem_cons h, digF]
 have : l[j] = l.getD j 0 := by rw [List.getD_eq_getElem?_getD, List.getElem?_eq_getElem h]; rfl
 rw [this]
theorem digP_cons {l : List UInt8} (m : Nat) (h0 : l ≠ []) : digP l m = if (l.getD 0 0).toNat = 48 ∧ (l == [48]) = false then none else digF l m 0 := by
 cases l with
 | nil => exact absurd rfl h0
 | cons c r =>
  show (if c.toNat = 48 ∧ r ≠ [] then none else digF (c :: r) m 0) = if c.toNat = 48 ∧ (c :: r == [48]) = false then none else digF (c :: r) m 0
  by_cases hc : c.toNat = 48
  ·
   have h48 : c = 48 := UInt8.toNat_inj.1 hc
   subst h48
   cases r with
   | nil => rfl
   | cons x r => rw [if_pos ⟨hc, by simp⟩, if_pos ⟨hc, by simp⟩]
  · rw [if_neg (fun h => hc h.1), if_neg (fun h => hc h.1)]
theorem at_zero (l : List UInt8) (h : 0 < (ByteArray.mk l.toArray).size) : (((ByteArray.mk l.toArray)[0]'h).toNat : Int) = ((l.getD 0 0).toNat : Int) := by
 have h' : 0 < l.length := h
 rw [List.getD_eq_getElem?_getD, List.getElem?_eq_getElem h']
 rfl
set_option maxRecDepth 100000 in
set_option maxHeartbeats 8000000 in
theorem scr_digits (l : List UInt8) (m : Nat) (w : World) (h9 : 9 ≤ m) (hm : m < 18446744073709551616) (hL : l.length ≤ 1000000) :
  Calls Tryz.prog 75 #[.string ⟨l.toArray⟩, .int .u64 (m : Nat)] w fun e w' => e = digE (digP l m) ∧ Below w.heap.size w w' := by
 have MT := Lib.hid must_true
 have MF := Lib.hid must_false
 by_cases h0 : l = []
 ·
  subst h0
  go_enter Tryz.func75, Tryz.ntmps75
  go_wp2_with (go_at_call 60; refine ((MF.out _).mono ?_); rintro e w1 ⟨rfl, rfl⟩)
  exact ⟨rfl, rfl, Below.refl _ _⟩
 have hlen : 0 < l.length := by cases l; exact absurd rfl h0; simp
 have ix := at_zero l
 rw [digP_cons m h0]
 obtain ⟨q, hq⟩ : ∃ q, (l == [48]) = q := ⟨_, rfl⟩
 obtain ⟨z, hz⟩ : ∃ z : Nat, (l.getD 0 0).toNat = z := ⟨_, rfl⟩
 rw [hz] at ix ⊢
 rw [hq]
 have e1 : (l == ([] : List UInt8)) = false := by cases l; exact absurd rfl h0; rfl
 have e2 : (l != ([] : List UInt8)) = true := by unfold bne; rw [e1]; rfl
 have cv := Lib.run_convert_string_bytes (P := Tryz.prog) w 9 82 5 ⟨l.toArray⟩ Tryz.underlying9 Tryz.underlying82 Tryz.underlying5
 have hbW := bytesWorld_below w 5 ⟨l.toArray⟩
 have hcell := Lib.bytesWorld_cell w 5 ⟨l.toArray⟩
 have hsz := Lib.bytesWorld_size w 5 ⟨l.toArray⟩
 rw [str_size] at hcell cv
 generalize Lib.bytesWorld w 5 ⟨l.toArray⟩ = W at *
 replace hz := Lib.hid hz
 cases q
 ·
  by_cases hz48 : z = 48
  ·
   rw [if_pos ⟨hz48, rfl⟩]
   subst hz48
   have n48 : ((((48 : Nat) : Int)) != 48) = false := by decide
   go_enter Tryz.func75, Tryz.ntmps75
   go_wp2_with (go_at_call 60; refine ((MF.out _).mono ?_); rintro e w1 ⟨rfl, rfl⟩)
   exact ⟨rfl, rfl, Below.refl _ _⟩
  ·
   rw [if_neg (fun h => hz48 h.1)]
   obtain ⟨p, hp⟩ : ∃ p, digF l m 0 = p := ⟨_, rfl⟩
   rw [hp]
   have n48 : ((((z : Nat) : Int)) != 48) = true := by simp; omega
   replace hz48 := Lib.hid hz48
   go_enter Tryz.func75, Tryz.ntmps75
   go_wp2_with (go_at_call 60; refine ((MT.out _).mono ?_); rintro e w1 ⟨rfl, rfl⟩)
   clear ix n48 hq
   clear cv
   go_loopw [5, 24] (fun n i wr => ∃ (j k : Nat), j ≤ l.length ∧ i = .int .i64 (j : Nat) ∧ n = .int .u64 (k : Nat) ∧ k ≤ m ∧ digF (l.drop j) m k = p ∧ Below W.heap.size W wr) (fun _ i _ => l.length - (intOf i).toNat)
   case atStart => exact ⟨0, 0, by omega, rfl, rfl, by omega, by rw [List.drop_zero]; exact hp, Below.refl _ _⟩
   case round =>
    obtain ⟨j, k, hj, rfl, rfl, hk, hpj, hb⟩ := hrel
    by_cases hlt : j < l.length
    ·
     have hlti : (j : Int) < (l.length : Int) := by omega
     have c0 : wr.cell? ⟨w.heap.size, j, none⟩ = some (.int .u8 (l.getD j 0).toNat) := (World.cell?_of_block (hb.block _ (show w.heap.size < W.heap.size by omega))).trans (hcell j hlt)
     have hcl : (l.getD j 0).toNat < 256 := (l.getD j 0).toNat_lt
     rw [digF_drop l m hlt] at hpj
     obtain ⟨c, hcd⟩ : ∃ c, (l.getD j 0).toNat = c := ⟨_, rfl⟩
     rw [hcd] at c0 hpj hcl
     replace hcd := Lib.hid hcd
     have hbr : Below w.heap.size w wr := hbW.trans (hb.mono (by omega))
     have hb' := Lib.hid hb
     clear hcell hp e1 e2 h0 hb
     have hdm : ((m : Int).tdiv 10) = ((m / 10 : Nat) : Int) := by rw [Int.tdiv_eq_ediv_of_nonneg (by omega)]; omega
     obtain ⟨mt, hmt⟩ : ∃ mt, m / 10 = mt := ⟨_, rfl⟩
     have hwd : IntKind.u64.wrap ((mt : Nat) : Int) = ((mt : Nat) : Int) := by rw [IntKind.wrap_u64]; omega
     rw [hmt] at hdm hpj
     by_cases hA : 48 ≤ c
     case neg =>
      rw [if_neg (fun h => hA h.1)] at hpj
      subst hpj
      have d1 : ¬ (48 : Int) ≤ (c : Int) := by omega
      clear hmt hlt hA
      go_wp2_with (first | (go_at_call 60; refine ((MT.out _).mono ?_); rintro e w1 ⟨rfl, rfl⟩) | (go_at_call 60; refine ((MF.out _).mono ?_); rintro e w1 ⟨rfl, rfl⟩))
      exact ⟨rfl, rfl, hbr⟩
     by_cases hB : c ≤ 57
     case neg =>
      rw [if_neg (fun h => hB h.2.1)] at hpj
      subst hpj
      have d1 : (48 : Int) ≤ (c : Int) := by omega
      have d2 : ¬ (c : Int) ≤ 57 := by omega
      clear hmt hlt hA hB
      go_wp2_with (first | (go_at_call 60; refine ((MT.out _).mono ?_); rintro e w1 ⟨rfl, rfl⟩) | (go_at_call 60; refine ((MF.out _).mono ?_); rintro e w1 ⟨rfl, rfl⟩))
      exact ⟨rfl, rfl, hbr⟩
     by_cases hC : k ≤ mt
     case neg =>
      rw [if_neg (fun h => hC h.2.2.1)] at hpj
      subst hpj
      have d1 : (48 : Int) ≤ (c : Int) := by omega
      have d2 : (c : Int) ≤ 57 := by omega
      have d3 : ¬ (k : Int) ≤ (mt : Int) := by omega
      clear hmt hlt hA hB hC
      go_wp2_with (first | (go_at_call 60; refine ((MT.out _).mono ?_); rintro e w1 ⟨rfl, rfl⟩) | (go_at_call 60; refine ((MF.out _).mono ?_); rintro e w1 ⟨rfl, rfl⟩))
      exact ⟨rfl, rfl, hbr⟩
     have hu : IntKind.u8.wrap ((c : Int) - 48) = ((c - 48 : Nat) : Int) := by rw [IntKind.wrap_u8]; omega
     obtain ⟨d, hd⟩ : ∃ d, c - 48 = d := ⟨_, rfl⟩
     have hd9 : d ≤ 9 := by omega
     have hux : IntKind.u64.wrap ((d : Nat) : Int) = ((d : Nat) : Int) := by rw [IntKind.wrap_u64]; omega
     have h10 : IntKind.u64.wrap (10 * ((k : Nat) : Int)) = ((10 * k : Nat) : Int) := by rw [IntKind.wrap_u64]; omega
     have hms : IntKind.u64.wrap (((m : Nat) : Int) - ((d : Nat) : Int)) = ((m - d : Nat) : Int) := by rw [IntKind.wrap_u64]; omega
     have hk10 : 10 * k ≤ m := by omega
     obtain ⟨t, ht⟩ : ∃ t, 10 * k = t := ⟨_, rfl⟩
     obtain ⟨s, hs⟩ : ∃ s, m - d = s := ⟨_, rfl⟩
     rw [hd] at hu hpj
     rw [ht] at h10 hpj hk10
     rw [hs] at hms hpj
     have d1 : (48 : Int) ≤ (c : Int) := by omega
     have d2 : (c : Int) ≤ 57 := by omega
     have d3 : (k : Int) ≤ (mt : Int) := by omega
     by_cases hD : t ≤ s
     case neg =>
      rw [if_neg (fun h => hD h.2.2.2.1)] at hpj
      subst hpj
      have d4 : ¬ (t : Int) ≤ (s : Int) := by omega
      clear hmt hlt hA hB hC hd ht hs hk10
      go_wp2_with (first | (go_at_call 60; refine ((MT.out _).mono ?_); rintro e w1 ⟨rfl, rfl⟩) | (go_at_call 60; refine ((MF.out _).mono ?_); rintro e w1 ⟨rfl, rfl⟩))
      exact ⟨rfl, rfl, hbr⟩
     rw [if_pos ⟨hA, hB, hC, hD, by omega⟩] at hpj
     have d4 : (t : Int) ≤ (s : Int) := by omega
     have htd : t + d ≤ m := by omega
     have hadd : IntKind.u64.wrap (((t : Nat) : Int) + ((d : Nat) : Int)) = ((t + d : Nat) : Int) := by rw [IntKind.wrap_u64]; omega
     clear hmt hA hB hC hd ht hs hD
     replace hpj := Lib.hid hpj
     go_wp2_with (first | (go_at_call 60; refine ((MT.out _).mono ?_); rintro e w1 ⟨rfl, rfl⟩) | (go_at_call 60; refine ((MF.out _).mono ?_); rintro e w1 ⟨rfl, rfl⟩))
     go_roundw
     case rel => exact ⟨j + 1, t + d, by omega, by go_num, by go_num, htd, hpj.out, hb'.out⟩
     case measure => simp [intOf]; omega
    ·
     have hlti : ¬ (j : Int) < (l.length : Int) := by omega
     obtain rfl : j = l.length := by omega
     rw [List.drop_length, digF] at hpj
     subst hpj
     have hbr : Below w.heap.size w wr := hbW.trans (hb.mono (by omega))
     clear hp hcell
     go_wp2_with fail
     go_ret
     exact ⟨rfl, hbr⟩
 ·
  rw [if_neg (fun h => by cases h.2)]
  obtain ⟨p, hp⟩ : ∃ p, digF l m 0 = p := ⟨_, rfl⟩
  rw [hp]
  go_enter Tryz.func75, Tryz.ntmps75
  go_wp2_with (go_at_call 60; refine ((MT.out _).mono ?_); rintro e w1 ⟨rfl, rfl⟩)
  clear ix hq
  clear cv
  go_loopw [5, 24] (fun n i wr => ∃ (j k : Nat), j ≤ l.length ∧ i = .int .i64 (j : Nat) ∧ n = .int .u64 (k : Nat) ∧ k ≤ m ∧ digF (l.drop j) m k = p ∧ Below W.heap.size W wr) (fun _ i _ => l.length - (intOf i).toNat)
  case atStart => exact ⟨0, 0, by omega, rfl, rfl, by omega, by rw [List.drop_zero]; exact hp, Below.refl _ _⟩
  case round =>
   obtain ⟨j, k, hj, rfl, rfl, hk, hpj, hb⟩ := hrel
   by_cases hlt : j < l.length
   ·
    have hlti : (j : Int) < (l.length : Int) := by omega
    have c0 : wr.cell? ⟨w.heap.size, j, none⟩ = some (.int .u8 (l.getD j 0).toNat) := (World.cell?_of_block (hb.block _ (show w.heap.size < W.heap.size by omega))).trans (hcell j hlt)
    have hcl : (l.getD j 0).toNat < 256 := (l.getD j 0).toNat_lt
    rw [digF_drop l m hlt] at hpj
    obtain ⟨c, hcd⟩ : ∃ c, (l.getD j 0).toNat = c := ⟨_, rfl⟩
    rw [hcd] at c0 hpj hcl
    replace hcd := Lib.hid hcd
    have hbr : Below w.heap.size w wr := hbW.trans (hb.mono (by omega))
    have hb' := Lib.hid hb
    clear hcell hp e1 e2 h0 hb
    have hdm : ((m : Int).tdiv 10) = ((m / 10 : Nat) : Int) := by rw [Int.tdiv_eq_ediv_of_nonneg (by omega)]; omega
    obtain ⟨mt, hmt⟩ : ∃ mt, m / 10 = mt := ⟨_, rfl⟩
    have hwd : IntKind.u64.wrap ((mt : Nat) : Int) = ((mt : Nat) : Int) := by rw [IntKind.wrap_u64]; omega
    rw [hmt] at hdm hpj
    by_cases hA : 48 ≤ c
    case neg =>
     rw [if_neg (fun h => hA h.1)] at hpj
     subst hpj
     have d1 : ¬ (48 : Int) ≤ (c : Int) := by omega
     clear hmt hlt hA
     go_wp2_with (first | (go_at_call 60; refine ((MT.out _).mono ?_); rintro e w1 ⟨rfl, rfl⟩) | (go_at_call 60; refine ((MF.out _).mono ?_); rintro e w1 ⟨rfl, rfl⟩))
     exact ⟨rfl, rfl, hbr⟩
    by_cases hB : c ≤ 57
    case neg =>
     rw [if_neg (fun h => hB h.2.1)] at hpj
     subst hpj
     have d1 : (48 : Int) ≤ (c : Int) := by omega
     have d2 : ¬ (c : Int) ≤ 57 := by omega
     clear hmt hlt hA hB
     go_wp2_with (first | (go_at_call 60; refine ((MT.out _).mono ?_); rintro e w1 ⟨rfl, rfl⟩) | (go_at_call 60; refine ((MF.out _).mono ?_); rintro e w1 ⟨rfl, rfl⟩))
     exact ⟨rfl, rfl, hbr⟩
    by_cases hC : k ≤ mt
    case neg =>
     rw [if_neg (fun h => hC h.2.2.1)] at hpj
     subst hpj
     have d1 : (48 : Int) ≤ (c : Int) := by omega
     have d2 : (c : Int) ≤ 57 := by omega
     have d3 : ¬ (k : Int) ≤ (mt : Int) := by omega
     clear hmt hlt hA hB hC
     go_wp2_with (first | (go_at_call 60; refine ((MT.out _).mono ?_); rintro e w1 ⟨rfl, rfl⟩) | (go_at_call 60; refine ((MF.out _).mono ?_); rintro e w1 ⟨rfl, rfl⟩))
     exact ⟨rfl, rfl, hbr⟩
    have hu : IntKind.u8.wrap ((c : Int) - 48) = ((c - 48 : Nat) : Int) := by rw [IntKind.wrap_u8]; omega
    obtain ⟨d, hd⟩ : ∃ d, c - 48 = d := ⟨_, rfl⟩
    have hd9 : d ≤ 9 := by omega
    have hux : IntKind.u64.wrap ((d : Nat) : Int) = ((d : Nat) : Int) := by rw [IntKind.wrap_u64]; omega
    have h10 : IntKind.u64.wrap (10 * ((k : Nat) : Int)) = ((10 * k : Nat) : Int) := by rw [IntKind.wrap_u64]; omega
    have hms : IntKind.u64.wrap (((m : Nat) : Int) - ((d : Nat) : Int)) = ((m - d : Nat) : Int) := by rw [IntKind.wrap_u64]; omega
    have hk10 : 10 * k ≤ m := by omega
    obtain ⟨t, ht⟩ : ∃ t, 10 * k = t := ⟨_, rfl⟩
    obtain ⟨s, hs⟩ : ∃ s, m - d = s := ⟨_, rfl⟩
    rw [hd] at hu hpj
    rw [ht] at h10 hpj hk10
    rw [hs] at hms hpj
    have d1 : (48 : Int) ≤ (c : Int) := by omega
    have d2 : (c : Int) ≤ 57 := by omega
    have d3 : (k : Int) ≤ (mt : Int) := by omega
    by_cases hD : t ≤ s
    case neg =>
     rw [if_neg (fun h => hD h.2.2.2.1)] at hpj
     subst hpj
     have d4 : ¬ (t : Int) ≤ (s : Int) := by omega
     clear hmt hlt hA hB hC hd ht hs hk10
     go_wp2_with (first | (go_at_call 60; refine ((MT.out _).mono ?_); rintro e w1 ⟨rfl, rfl⟩) | (go_at_call 60; refine ((MF.out _).mono ?_); rintro e w1 ⟨rfl, rfl⟩))
     exact ⟨rfl, rfl, hbr⟩
    rw [if_pos ⟨hA, hB, hC, hD, by omega⟩] at hpj
    have d4 : (t : Int) ≤ (s : Int) := by omega
    have htd : t + d ≤ m := by omega
    have hadd : IntKind.u64.wrap (((t : Nat) : Int) + ((d : Nat) : Int)) = ((t + d : Nat) : Int) := by rw [IntKind.wrap_u64]; omega
    clear hmt hA hB hC hd ht hs hD
    replace hpj := Lib.hid hpj
    go_wp2_with (first | (go_at_call 60; refine ((MT.out _).mono ?_); rintro e w1 ⟨rfl, rfl⟩) | (go_at_call 60; refine ((MF.out _).mono ?_); rintro e w1 ⟨rfl, rfl⟩))
    go_roundw
    case rel => exact ⟨j + 1, t + d, by omega, by go_num, by go_num, htd, hpj.out, hb'.out⟩
    case measure => simp [intOf]; omega
   ·
    have hlti : ¬ (j : Int) < (l.length : Int) := by omega
    obtain rfl : j = l.length := by omega
    rw [List.drop_length, digF] at hpj
    subst hpj
    have hbr : Below w.heap.size w wr := hbW.trans (hb.mono (by omega))
    clear hp hcell
    go_wp2_with fail
    go_ret
    exact ⟨rfl, hbr⟩
theorem chg_below {g : Nat} {w w1 w2 : World} (h : Chg (· = g) w w1) (hb : Below w1.heap.size w1 w2) : Chg (· = g) w w2 := h.trans (Chg.of_below (F := (· = g)) hb) (fun _ _ h => h)
def takeP {α : Type} (p : List UInt8 → Option α) : List (List UInt8) → Option (α × List (List UInt8))
 | [] => none
 | x :: r => (p x).map fun v => (v, r)
def CReads {α : Type} (f : FuncId) (p : List UInt8 → Option α) (val : α → Value) : Prop :=
 ∀ (g : Nat) (ws : List (List UInt8)) (w : World), Std w → Cur w g ws → (∀ x ∈ ws, (32 : UInt8) ∉ x) → (restL ws).length ≤ 10000 →
  (∀ w1, Chg (· = g) w w1 → Std w1) →
  Calls Tryz.prog f #[.pointer (some ⟨g, 0, none⟩)] w fun e w' => Chg (· = g) w w' ∧ match takeP p ws with
   | some (v, r) => e = .returned (val v) ∧ Cur w' g r
   | none => e = thrown
theorem rest_head (x : List UInt8) (r : List (List UInt8)) : x.length ≤ (restL (x :: r)).length := by
 unfold restL
 cases r with
 | nil => rw [Lib.join_one]; exact Nat.le_refl _
 | cons y r => rw [join_cons2]; simp
theorem reads_of {α : Type} {f : FuncId} {p : List UInt8 → Option α} {val : α → Value}
  (hnil : ∀ (g : Nat) (w : World), Std w → Cur w g [] → (∀ w1, Chg (· = g) w w1 → Std w1) → Calls Tryz.prog f #[.pointer (some ⟨g, 0, none⟩)] w fun e w' => e = thrown ∧ Chg (· = g) w w')
  (hno : ∀ (g : Nat) (x : List UInt8) (r : List (List UInt8)) (w : World), Std w → Cur w g (x :: r) → (32 : UInt8) ∉ x → (restL (x :: r)).length ≤ 10000 → x.length ≤ 10000 → (∀ w1, Chg (· = g) w w1 → Std w1) → p x = none →
   Calls Tryz.prog f #[.pointer (some ⟨g, 0, none⟩)] w fun e w' => e = thrown ∧ Chg (· = g) w w')
  (hyes : ∀ (g : Nat) (x : List UInt8) (r : List (List UInt8)) (w : World) (v : α), Std w → Cur w g (x :: r) → (32 : UInt8) ∉ x → (restL (x :: r)).length ≤ 10000 → x.length ≤ 10000 → (∀ w1, Chg (· = g) w w1 → Std w1) → p x = some v →
   Calls Tryz.prog f #[.pointer (some ⟨g, 0, none⟩)] w fun e w' => e = .returned (val v) ∧ Cur w' g r ∧ Chg (· = g) w w') : CReads f p val := by
 intro g ws w hw hc hx hl hs
 cases ws with
 | nil =>
  refine (hnil g w hw hc hs).mono ?_
  rintro e w' ⟨rfl, hk⟩
  exact ⟨hk, rfl⟩
 | cons x r =>
  have hxl := rest_head x r
  cases hp : p x with
  | none =>
   refine (hno g x r w hw hc (hx x (List.mem_cons_self ..)) hl (by omega) hs hp).mono ?_
   rintro e w' ⟨rfl, hk⟩
   refine ⟨hk, ?_⟩
   simp only [takeP, hp, Option.map_none]
  | some v =>
   refine (hyes g x r w v hw hc (hx x (List.mem_cons_self ..)) hl (by omega) hs hp).mono ?_
   rintro e w' ⟨rfl, hc', hk⟩
   refine ⟨hk, ?_⟩
   simp only [takeP, hp, Option.map_some]
   exact ⟨trivial, hc'⟩
theorem cur_set3 {w : World} {g b : Nat} {r : List (List UInt8)} (h : Cur w g r) (hb : g ≠ b) (x y z : Value) : Cur (((w.setCell ⟨b, 0, none⟩ x).setCell ⟨b, 1, none⟩ y).setCell ⟨b, 2, none⟩ z) g r := by
 unfold Cur Blk at h ⊢
 simp [World.setCell, Array.getElem?_modify, h, Ne.symm hb]
theorem pre_hit (q : List UInt8) : Lib.hasPrefix (ByteArray.mk (45 :: q).toArray).data.toList (ByteArray.mk #[45]).data.toList = true := by
 show ([45] : List UInt8).isPrefixOf (45 :: q) = true
 simp [List.isPrefixOf]
theorem pre_trim (q : List UInt8) : Lib.trimPrefix (ByteArray.mk (45 :: q).toArray).data.toList (ByteArray.mk #[45]).data.toList = q := by
 unfold Lib.trimPrefix
 rw [pre_hit]
 rfl
theorem num_cases (x : List UInt8) : (Lib.trimPrefix (ByteArray.mk x.toArray).data.toList (ByteArray.mk #[45]).data.toList = x ∧ Lib.hasPrefix (ByteArray.mk x.toArray).data.toList (ByteArray.mk #[45]).data.toList = false ∧ numP x = (digP x 4611686018427387904).map fun (m : Nat) => (m : Int)) ∨
  ∃ q, x = 45 :: q ∧ numP x = match digP q 4611686018427387904 with
   | some n => if 0 < n then some (-(n : Int)) else none
   | none => none := by
 cases x with
 | nil => exact Or.inl ⟨rfl, rfl, rfl⟩
 | cons c q =>
  by_cases hc : c = 45
  ·
   subst hc
   exact Or.inr ⟨q, rfl, rfl⟩
  ·
   have hf : Lib.hasPrefix (ByteArray.mk (c :: q).toArray).data.toList (ByteArray.mk #[45]).data.toList = false := by
    show ([45] : List UInt8).isPrefixOf (c :: q) = false
    simp [List.isPrefixOf]
    exact fun h => hc h.symm
   refine Or.inl ⟨?_, hf, ?_⟩
   ·
    unfold Lib.trimPrefix
    rw [hf]
    rfl
   ·
    show (if c = 45 then _ else _) = _
    rw [if_neg hc]
theorem dig_none {l : List UInt8} {m : Nat} {w : World} (h9 : 9 ≤ m) (hm : m < 18446744073709551616) (hL : l.length ≤ 10000) (h : digP l m = none) :
  Calls Tryz.prog 75 #[.string ⟨l.toArray⟩, .int .u64 (m : Nat)] w fun e w' => e = thrown ∧ Below w.heap.size w w' := by
 have := scr_digits l m w h9 hm (by omega)
 rw [h] at this
 exact this
theorem dig_some {l : List UInt8} {m n : Nat} {w : World} (h9 : 9 ≤ m) (hm : m < 18446744073709551616) (hL : l.length ≤ 10000) (h : digP l m = some n) :
  Calls Tryz.prog 75 #[.string ⟨l.toArray⟩, .int .u64 (m : Nat)] w fun e w' => e = .returned (.int .u64 (n : Nat)) ∧ Below w.heap.size w w' := by
 have := scr_digits l m w h9 hm (by omega)
 rw [h] at this
 exact this
set_option maxRecDepth 100000 in
theorem reads_draw : CReads 56 (fun x => digP x 18446744073709551615) (fun n => .int .u64 ((n : Nat) : Int)) := by
 refine reads_of ?_ ?_ ?_
 ·
  intro g w hw hc hs
  have C := Lib.hid (cur_done g w hc)
  go_enter Tryz.func56, Tryz.ntmps56
  go_wp2_with (go_at_call 73; (refine C.out.mono ?_); rintro e w1 ⟨rfl, rfl⟩)
  exact ⟨rfl, rfl, Chg.refl _ _⟩
 ·
  intro g x r w hw hc hx hl hxl hs hp
  have C := Lib.hid (cur_word g x r w hw hc hx (by omega))
  have G := Lib.hid (fun W => dig_none (w := W) (l := x) (m := 18446744073709551615) (by decide) (by decide) hxl hp)
  go_enter Tryz.func56, Tryz.ntmps56
  go_wp2_with (first
   | (go_at_call 73; (refine C.out.mono ?_); rintro e w1 ⟨rfl, hc1, hk1⟩)
   | (go_at_call 75; (refine (G.out _).mono ?_); rintro e w2 ⟨rfl, hb2⟩))
  exact ⟨rfl, rfl, chg_below hk1 hb2⟩
 ·
  intro g x r w v hw hc hx hl hxl hs hp
  have C := Lib.hid (cur_word g x r w hw hc hx (by omega))
  have G := Lib.hid (fun W => dig_some (w := W) (l := x) (m := 18446744073709551615) (by decide) (by decide) hxl hp)
  go_enter Tryz.func56, Tryz.ntmps56
  go_wp2_with (first
   | (go_at_call 73; (refine C.out.mono ?_); rintro e w1 ⟨rfl, hc1, hk1⟩)
   | (go_at_call 75; (refine (G.out _).mono ?_); rintro e w2 ⟨rfl, hb2⟩))
  go_ret
  exact ⟨rfl, Blk.call hc1 hb2, chg_below hk1 hb2⟩
set_option maxRecDepth 100000 in
theorem reads_number : CReads 55 numP (fun n => .int .i64 n) := by
 refine reads_of ?_ ?_ ?_
 ·
  intro g w hw hc hs
  have C := Lib.hid (cur_done g w hc)
  go_enter Tryz.func55, Tryz.ntmps55
  go_wp2_with (go_at_call 73; (refine C.out.mono ?_); rintro e w1 ⟨rfl, rfl⟩)
  exact ⟨rfl, rfl, Chg.refl _ _⟩
 ·
  intro g x r w hw hc hx hl hxl hs hp
  have C := Lib.hid (cur_word g x r w hw hc hx (by omega))
  have P := fun W => Tryz.strings_CutPrefix ⟨x.toArray⟩ ⟨#[45]⟩ W
  have MT := Lib.hid must_true
  have MF := Lib.hid must_false
  rcases num_cases x with ⟨hf, hne, hnum⟩ | ⟨q, rfl, hnum⟩
  ·
   rw [hf, hne] at P
   rw [hnum] at hp
   have hd : digP x 4611686018427387904 = none := by
    cases h : digP x 4611686018427387904 with
    | none => rfl
    | some n => rw [h] at hp; cases hp
   have G := Lib.hid (fun W => dig_none (w := W) (l := x) (m := 4611686018427387904) (by decide) (by decide) hxl hd)
   replace P := Lib.hid P
   clear hp hnum hd hf hne hc
   go_enter Tryz.func55, Tryz.ntmps55
   go_wp2_with (first
    | (go_at_call 73; (refine C.out.mono ?_); rintro e w1 ⟨rfl, hc1, hk1⟩)
    | (go_at_call 74; (refine (P.out _).mono ?_); rintro e w5 ⟨rfl, rfl⟩)
    | (go_at_call 75; (refine (G.out _).mono ?_); rintro e w2 ⟨rfl, hb2⟩))
   exact ⟨rfl, rfl, chg_below hk1 hb2⟩
  ·
   rw [pre_hit, pre_trim] at P
   rw [hnum] at hp
   have hql : q.length ≤ 10000 := by simp at hxl; omega
   cases hd : digP q 4611686018427387904 with
   | none =>
    have G := Lib.hid (fun W => dig_none (w := W) (l := q) (m := 4611686018427387904) (by decide) (by decide) hql hd)
    replace P := Lib.hid P
    clear hp hnum hd hc
    go_enter Tryz.func55, Tryz.ntmps55
    go_wp2_with (first
     | (go_at_call 73; (refine C.out.mono ?_); rintro e w1 ⟨rfl, hc1, hk1⟩)
     | (go_at_call 74; (refine (P.out _).mono ?_); rintro e w5 ⟨rfl, rfl⟩)
     | (go_at_call 75; (refine (G.out _).mono ?_); rintro e w2 ⟨rfl, hb2⟩))
    exact ⟨rfl, rfl, chg_below hk1 hb2⟩
   | some n =>
    rw [hd] at hp
    have hn : ¬ 0 < n := fun h => by simp [h] at hp
    obtain rfl : n = 0 := by omega
    have G := Lib.hid (fun W => dig_some (w := W) (l := q) (m := 4611686018427387904) (by decide) (by decide) hql hd)
    replace P := Lib.hid P
    clear hp hnum hd hc
    go_enter Tryz.func55, Tryz.ntmps55
    go_wp2_with (first
     | (go_at_call 73; (refine C.out.mono ?_); rintro e w1 ⟨rfl, hc1, hk1⟩)
     | (go_at_call 74; (refine (P.out _).mono ?_); rintro e w5 ⟨rfl, rfl⟩)
     | (go_at_call 60; (refine (MF.out _).mono ?_); rintro e w6 ⟨rfl, rfl⟩)
     | (go_at_call 75; (refine (G.out _).mono ?_); rintro e w2 ⟨rfl, hb2⟩))
    exact ⟨rfl, rfl, chg_below hk1 hb2⟩
 ·
  intro g x r w v hw hc hx hl hxl hs hp
  have C := Lib.hid (cur_word g x r w hw hc hx (by omega))
  have P := fun W => Tryz.strings_CutPrefix ⟨x.toArray⟩ ⟨#[45]⟩ W
  have MT := Lib.hid must_true
  rcases num_cases x with ⟨hf, hne, hnum⟩ | ⟨q, rfl, hnum⟩
  ·
   rw [hf, hne] at P
   rw [hnum] at hp
   obtain ⟨n, hd, rfl⟩ := Option.map_eq_some_iff.1 hp
   have hn := ((digP_iff _ _ _).1 hd).1
   have G := Lib.hid (fun W => dig_some (w := W) (l := x) (m := 4611686018427387904) (by decide) (by decide) hxl hd)
   have hwi : IntKind.i64.wrap ((n : Nat) : Int) = ((n : Nat) : Int) := by rw [IntKind.wrap_i64]; omega
   replace P := Lib.hid P
   clear hp hnum hd hf hne hc
   go_enter Tryz.func55, Tryz.ntmps55
   go_wp2_with (first
    | (go_at_call 73; (refine C.out.mono ?_); rintro e w1 ⟨rfl, hc1, hk1⟩)
    | (go_at_call 74; (refine (P.out _).mono ?_); rintro e w5 ⟨rfl, rfl⟩)
    | (go_at_call 75; (refine (G.out _).mono ?_); rintro e w2 ⟨rfl, hb2⟩))
   go_ret
   exact ⟨rfl, Blk.call hc1 hb2, chg_below hk1 hb2⟩
  ·
   rw [pre_hit, pre_trim] at P
   rw [hnum] at hp
   have hql : q.length ≤ 10000 := by simp at hxl; omega
   cases hd : digP q 4611686018427387904 with
   | none => rw [hd] at hp; cases hp
   | some n =>
    rw [hd] at hp
    have hn : 0 < n := Classical.byContradiction fun h => by simp [h] at hp
    have hv : v = -((n : Nat) : Int) := by simp [hn] at hp; exact hp.symm
    subst hv
    have hn2 := ((digP_iff _ _ _).1 hd).1
    have hd0 : (0 : Int) < (n : Int) := by omega
    have G := Lib.hid (fun W => dig_some (w := W) (l := q) (m := 4611686018427387904) (by decide) (by decide) hql hd)
    have hwi : IntKind.i64.wrap ((n : Nat) : Int) = ((n : Nat) : Int) := by rw [IntKind.wrap_i64]; omega
    have hwn : IntKind.i64.wrap (-((n : Nat) : Int)) = -((n : Nat) : Int) := by rw [IntKind.wrap_i64]; omega
    replace P := Lib.hid P
    clear hp hnum hd hc
    go_enter Tryz.func55, Tryz.ntmps55
    go_wp2_with (first
     | (go_at_call 73; (refine C.out.mono ?_); rintro e w1 ⟨rfl, hc1, hk1⟩)
     | (go_at_call 74; (refine (P.out _).mono ?_); rintro e w5 ⟨rfl, rfl⟩)
     | (go_at_call 60; (refine (MT.out _).mono ?_); rintro e w6 ⟨rfl, rfl⟩)
     | (go_at_call 75; (refine (G.out _).mono ?_); rintro e w2 ⟨rfl, hb2⟩))
    go_ret
    exact ⟨rfl, Blk.call hc1 hb2, chg_below hk1 hb2⟩
set_option maxRecDepth 100000 in
theorem reads_bytes : CReads 57 bytesP (fun s => .string ⟨s.toArray⟩) := by
 refine reads_of ?_ ?_ ?_
 ·
  intro g w hw hc hs
  have C := Lib.hid (cur_done g w hc)
  go_enter Tryz.func57, Tryz.ntmps57
  go_wp2_with (go_at_call 73; (refine C.out.mono ?_); rintro e w1 ⟨rfl, rfl⟩)
  exact ⟨rfl, rfl, Chg.refl _ _⟩
 ·
  intro g x r w hw hc hx hl hxl hs hp
  have C := Lib.hid (cur_word g x r w hw hc hx (by omega))
  have MF := Lib.hid must_false
  have U := fun W => oct_unhex x W (by omega)
  unfold bytesP at hp
  by_cases hd : x = [45]
  · rw [if_pos hd] at hp; cases hp
  rw [if_neg hd] at hp
  have he : (x == [45]) = false := by simpa using hd
  have e2 : (([] : List UInt8) != []) = false := rfl
  cases hu : unhexL x with
  | none =>
   unfold unhexV at U
   rw [hu] at U
   replace U := Lib.hid U
   clear hp hu hd hc
   go_enter Tryz.func57, Tryz.ntmps57
   go_wp2_with (first
    | (go_at_call 73; (refine C.out.mono ?_); rintro e w1 ⟨rfl, hc1, hk1⟩)
    | (go_at_call 60; (refine (MF.out _).mono ?_); rintro e w6 ⟨rfl, rfl⟩)
    | (go_at_call 76; (refine (U.out _).mono ?_); rintro e w2 ⟨rfl, hb2⟩))
   exact ⟨rfl, rfl, chg_below hk1 hb2⟩
  | some s =>
   rw [hu] at hp
   have hs0 : s = [] := Classical.byContradiction fun h => by simp [h] at hp
   subst hs0
   unfold unhexV at U
   rw [hu] at U
   replace U := Lib.hid U
   clear hp hu hd hc
   go_enter Tryz.func57, Tryz.ntmps57
   go_wp2_with (first
    | (go_at_call 73; (refine C.out.mono ?_); rintro e w1 ⟨rfl, hc1, hk1⟩)
    | (go_at_call 60; (refine (MF.out _).mono ?_); rintro e w6 ⟨rfl, rfl⟩)
    | (go_at_call 76; (refine (U.out _).mono ?_); rintro e w2 ⟨rfl, hb2⟩))
   exact ⟨rfl, rfl, chg_below hk1 hb2⟩
 ·
  intro g x r w v hw hc hx hl hxl hs hp
  have C := Lib.hid (cur_word g x r w hw hc hx (by omega))
  have MT := Lib.hid must_true
  have U := fun W => oct_unhex x W (by omega)
  unfold bytesP at hp
  by_cases hd : x = [45]
  ·
   rw [if_pos hd] at hp
   cases hp
   have he : (x == [45]) = true := by simpa using hd
   replace hd := Lib.hid hd
   clear U hc
   go_enter Tryz.func57, Tryz.ntmps57
   go_wp2_with (first
    | (go_at_call 73; (refine C.out.mono ?_); rintro e w1 ⟨rfl, hc1, hk1⟩))
   go_ret
   exact ⟨rfl, hc1, hk1⟩
  rw [if_neg hd] at hp
  have he : (x == [45]) = false := by simpa using hd
  cases hu : unhexL x with
  | none => rw [hu] at hp; cases hp
  | some s =>
   rw [hu] at hp
   have hs0 : ¬ s = [] := fun h => by simp [h] at hp
   have hv : s = v := by simpa [hs0] using hp
   subst hv
   have e2 : s.isEmpty = false := by cases s; exact absurd rfl hs0; rfl
   unfold unhexV at U
   rw [hu] at U
   replace U := Lib.hid U
   clear hp hu hd hc hs0
   go_enter Tryz.func57, Tryz.ntmps57
   go_wp2_with (first
    | (go_at_call 73; (refine C.out.mono ?_); rintro e w1 ⟨rfl, hc1, hk1⟩)
    | (go_at_call 60; (refine (MT.out _).mono ?_); rintro e w6 ⟨rfl, rfl⟩)
    | (go_at_call 76; (refine (U.out _).mono ?_); rintro e w2 ⟨rfl, hb2⟩))
   go_ret
   exact ⟨rfl, Blk.call hc1 hb2, chg_below hk1 hb2⟩
set_option maxRecDepth 100000 in
theorem reads_on : CReads 59 onP (fun b => .bool b) := by
 refine reads_of ?_ ?_ ?_
 ·
  intro g w hw hc hs
  have C := Lib.hid (cur_done g w hc)
  go_enter Tryz.func59, Tryz.ntmps59
  go_wp2_with (go_at_call 73; (refine C.out.mono ?_); rintro e w1 ⟨rfl, rfl⟩)
  exact ⟨rfl, rfl, Chg.refl _ _⟩
 ·
  intro g x r w hw hc hx hl hxl hs hp
  have C := Lib.hid (cur_word g x r w hw hc hx (by omega))
  have MF := Lib.hid must_false
  unfold onP at hp
  by_cases h1 : x = [111, 110]
  · rw [if_pos h1] at hp; cases hp
  rw [if_neg h1] at hp
  by_cases h2 : x = [111, 102, 102]
  · rw [if_pos h2] at hp; cases hp
  have e1 : (x == [111, 110]) = false := by simpa using h1
  have e2 : (x == [111, 102, 102]) = false := by simpa using h2
  clear h1 h2 hp hc
  go_enter Tryz.func59, Tryz.ntmps59
  go_wp2_with (first
   | (go_at_call 73; (refine C.out.mono ?_); rintro e w1 ⟨rfl, hc1, hk1⟩)
   | (go_at_call 60; (refine (MF.out _).mono ?_); rintro e w6 ⟨rfl, rfl⟩))
  exact ⟨rfl, rfl, hk1⟩
 ·
  intro g x r w v hw hc hx hl hxl hs hp
  have C := Lib.hid (cur_word g x r w hw hc hx (by omega))
  have MT := Lib.hid must_true
  have hv := (onP_iff _ _).1 hp
  clear hp hc
  cases v
  ·
   obtain rfl : x = [111, 102, 102] := hv
   have e1 : (([111, 102, 102] : List UInt8) == [111, 110]) = false := rfl
   have e2 : (([111, 102, 102] : List UInt8) == [111, 102, 102]) = true := rfl
   go_enter Tryz.func59, Tryz.ntmps59
   go_wp2_with (first
    | (go_at_call 73; (refine C.out.mono ?_); rintro e w1 ⟨rfl, hc1, hk1⟩)
    | (go_at_call 60; (refine (MT.out _).mono ?_); rintro e w6 ⟨rfl, rfl⟩))
   go_ret
   exact ⟨rfl, hc1, hk1⟩
  ·
   have e1 : (x == [111, 110]) = true := by rw [hv]; rfl
   clear hv
   go_enter Tryz.func59, Tryz.ntmps59
   go_wp2_with (first
    | (go_at_call 73; (refine C.out.mono ?_); rintro e w1 ⟨rfl, hc1, hk1⟩)
    | (go_at_call 60; (refine (MT.out _).mono ?_); rintro e w6 ⟨rfl, rfl⟩))
   go_ret
   exact ⟨rfl, hc1, hk1⟩
set_option maxRecDepth 100000 in
theorem reads_address : CReads 58 readA (fun a => .agg #[.bool a.1, .int .u64 ((a.2.1 : Nat) : Int), .int .u64 ((a.2.2 : Nat) : Int)]) := by
 refine reads_of ?_ ?_ ?_
 ·
  intro g w hw hc hs
  have hb0 : Chg (· = g) w (w.alloc (.cells #[.bool false, .int .u64 0, .int .u64 0] 24)) := (Chg.refl _ _).alloc _
  have C := Lib.hid (cur_done g _ (hc.alloc (.cells #[.bool false, .int .u64 0, .int .u64 0] 24)))
  go_enter Tryz.func58, Tryz.ntmps58
  go_wp2_with (go_at_call 73; (refine C.out.mono ?_); rintro e w1 ⟨rfl, rfl⟩)
  exact ⟨rfl, rfl, hb0⟩
 ·
  intro g x r w hw hc hx hl hxl hs hp
  have hb0 : Chg (· = g) w (w.alloc (.cells #[.bool false, .int .u64 0, .int .u64 0] 24)) := (Chg.refl _ _).alloc _
  have C := Lib.hid (cur_word g x r _ (hs _ hb0) (hc.alloc (.cells #[.bool false, .int .u64 0, .int .u64 0] 24)) hx (by omega))
  have MF := Lib.hid must_false
  have RD := fun W hW => addr_read x W hW hxl
  rw [hp] at RD
  replace RD := Lib.hid (show ∀ W, Std W → Calls Tryz.prog 77 #[.string ⟨x.toArray⟩] W fun e w' => e = .returned (.tuple #[.agg #[.bool false, .int .u64 0, .int .u64 0], .bool false]) ∧ Below W.heap.size W w' from RD)
  clear hp hc
  go_enter Tryz.func58, Tryz.ntmps58
  go_wp2_with (first
   | (go_at_call 73; (refine C.out.mono ?_); rintro e w1 ⟨rfl, hc1, hk1⟩; have hk1' := hb0.trans hk1 (fun _ _ h => h))
   | (go_at_call 60; (refine (MF.out _).mono ?_); rintro e w6 ⟨rfl, rfl⟩)
   | (go_at_call 77; (refine (RD.out _ (hs _ hk1')).mono ?_); rintro e w2 ⟨rfl, hb2⟩))
  exact ⟨rfl, rfl, (chg_below hk1' hb2).alloc _⟩
 ·
  intro g x r w v hw hc hx hl hxl hs hp
  obtain ⟨v6, hi, lo⟩ := v
  have hb0 : Chg (· = g) w (w.alloc (.cells #[.bool false, .int .u64 0, .int .u64 0] 24)) := (Chg.refl _ _).alloc _
  have C := Lib.hid (cur_word g x r _ (hs _ hb0) (hc.alloc (.cells #[.bool false, .int .u64 0, .int .u64 0] 24)) hx (by omega))
  have K := Blk.new w 24 #[.bool false, .int .u64 0, .int .u64 0]
  have hgl : g < w.heap.size := Blk.lt hc
  have hgn : ¬ w.heap.size = g := by omega
  have MT := Lib.hid must_true
  have RD := fun W hW => addr_read x W hW hxl
  rw [hp] at RD
  replace RD := Lib.hid (show ∀ W, Std W → Calls Tryz.prog 77 #[.string ⟨x.toArray⟩] W fun e w' => e = .returned (.tuple #[.agg #[.bool v6, .int .u64 ((hi : Nat) : Int), .int .u64 ((lo : Nat) : Int)], .bool true]) ∧ Below W.heap.size W w' from RD)
  clear hp hc
  go_enter Tryz.func58, Tryz.ntmps58
  go_upto_region 2 with (first
   | (go_at_call 73; (refine C.out.mono ?_); rintro e w1 ⟨rfl, hc1, hk1⟩; have hk1' := hb0.trans hk1 (fun _ _ h => h))
   | (go_at_call 77; (refine (RD.out _ (hs _ hk1')).mono ?_); rintro e w2 ⟨rfl, hb2⟩))
  have K2 := ((K.chg hk1 hgn).call hb2).alloc (.cells #[.bool v6, .int .u64 ((hi : Nat) : Int), .int .u64 ((lo : Nat) : Int)] 24)
  have K3 := Blk.new w2 24 #[.bool v6, .int .u64 ((hi : Nat) : Int), .int .u64 ((lo : Nat) : Int)]
  have hC2 : Cur (w2.alloc (.cells #[.bool v6, .int .u64 ((hi : Nat) : Int), .int .u64 ((lo : Nat) : Int)] 24)) g r := Blk.alloc (Blk.call hc1 hb2) _
  have hkA := (chg_below hk1' hb2).alloc (.cells #[.bool v6, .int .u64 ((hi : Nat) : Int), .int .u64 ((lo : Nat) : Int)] 24)
  generalize w2.alloc (.cells #[.bool v6, .int .u64 ((hi : Nat) : Int), .int .u64 ((lo : Nat) : Int)] 24) = w3 at *
  clear hk1 hk1' hb2 hc1 K
  obtain ⟨⟨c0, c1, c2⟩, f0, f1, f2⟩ := blk3 K2
  obtain ⟨⟨d0, d1, d2⟩, -, -, -⟩ := blk3 K3
  replace K2 := Lib.hid K2
  replace K3 := Lib.hid K3
  replace hC2 := Lib.hid hC2
  go_wp2_with (go_at_call 60; (refine (MT.out _).mono ?_); rintro e w6 ⟨rfl, rfl⟩)
  have K4 := blk3_set K2.out (.bool v6) (.int .u64 ((hi : Nat) : Int)) (.int .u64 ((lo : Nat) : Int))
  have hkB : Chg (· = g) w (((w3.setCell ⟨w.heap.size, 0, none⟩ (.bool v6)).setCell ⟨w.heap.size, 1, none⟩ (.int .u64 ((hi : Nat) : Int))).setCell ⟨w.heap.size, 2, none⟩ (.int .u64 ((lo : Nat) : Int))) :=
   ((hkA.setCell (fun h => absurd h (by show ¬ w.heap.size < w.heap.size; omega)) _).setCell (fun h => absurd h (by show ¬ w.heap.size < w.heap.size; omega)) _).setCell (fun h => absurd h (by show ¬ w.heap.size < w.heap.size; omega)) _
  have hC4 : Cur (((w3.setCell ⟨w.heap.size, 0, none⟩ (.bool v6)).setCell ⟨w.heap.size, 1, none⟩ (.int .u64 ((hi : Nat) : Int))).setCell ⟨w.heap.size, 2, none⟩ (.int .u64 ((lo : Nat) : Int))) g r := cur_set3 hC2.out (by omega) _ _ _
  generalize (((w3.setCell ⟨w.heap.size, 0, none⟩ (.bool v6)).setCell ⟨w.heap.size, 1, none⟩ (.int .u64 ((hi : Nat) : Int))).setCell ⟨w.heap.size, 2, none⟩ (.int .u64 ((lo : Nat) : Int))) = w4 at *
  clear c0 c1 c2 f0 f1 f2 d0 d1 d2
  obtain ⟨⟨c0, c1, c2⟩, f0, f1, f2⟩ := blk3 K4
  clear K4
  refine bodyPost_ret (v := .agg #[.bool v6, .int .u64 ((hi : Nat) : Int), .int .u64 ((lo : Nat) : Int)]) (by simp [results, Tryz.results58, go_sem, *]) rfl ?_
  exact ⟨rfl, hC4, hkB⟩
set_option maxRecDepth 100000 in
theorem scr_words (w : World) : Calls Tryz.prog 21 #[] w fun e w' =>
  e = .returned (.slice (some ⟨w.heap.size, 0, none⟩) 12 12) ∧ Blk w' w.heap.size 9 (strs wordsL) ∧ Below w.heap.size w w' := by
 have K := Blk.new w 9 (strs wordsL)
 have hb : Below w.heap.size w (w.alloc (.cells (strs wordsL) 9)) := (Below.refl _ _).alloc (Nat.le_refl _) _
 go_enter Tryz.func21, Tryz.ntmps21
 go_wp2_with fail
 go_ret
 exact ⟨rfl, K, hb⟩
theorem kind_hit {x : List UInt8} {j : Nat} (hj : j < 12) (h : wordsL.getD j [] = x) : kindP x = some j := (kindP_iff x j).2 ⟨hj, h.symm⟩
theorem kind_miss {x : List UInt8} (h : ∀ t, t < 12 → wordsL.getD t [] ≠ x) : kindP x = none := by
 cases hk : kindP x with
 | none => rfl
 | some k =>
  obtain ⟨h1, h2⟩ := (kindP_iff x k).1 hk
  exact absurd h2.symm (h k h1)
def kindE : Option Nat → Ending
 | some k => .returned (.int .i64 ((k : Nat) : Int))
 | none => thrown
set_option maxRecDepth 100000 in
theorem kind_any (g : Nat) (x : List UInt8) (r : List (List UInt8)) (w : World) (hw : Std w) (hc : Cur w g (x :: r)) (hx : (32 : UInt8) ∉ x) (hl : (restL (x :: r)).length ≤ 10000) :
  Calls Tryz.prog 54 #[.pointer (some ⟨g, 0, none⟩)] w fun e w' => e = kindE (kindP x) ∧ Cur w' g r ∧ Chg (· = g) w w' := by
 have C := Lib.hid (cur_word g x r w hw hc hx (by omega))
 have MF := Lib.hid must_false
 have WS := Lib.hid scr_words
 obtain ⟨p, hp⟩ : ∃ p, kindP x = p := ⟨_, rfl⟩
 rw [hp]
 replace hp := Lib.hid hp
 clear hc
 go_enter Tryz.func54, Tryz.ntmps54
 go_wp2_with (first
  | (go_at_call 73; (refine C.out.mono ?_); rintro e w1 ⟨rfl, hc1, hk1⟩)
  | (go_at_call 21; (refine (WS.out _).mono ?_); rintro e w2 ⟨rfl, hK2, hb2⟩))
 have hc2 : Cur w2 g r := Blk.call hc1 hb2
 have hk2 := chg_below hk1 hb2
 generalize w1.heap.size = b at *
 clear hc1 hk1 hb2
 go_loopw [10] (fun i wr => ∃ j : Nat, j ≤ 12 ∧ i = .int .i64 (j : Nat) ∧ (∀ t, t < j → wordsL.getD t [] ≠ x) ∧ Below w2.heap.size w2 wr) (fun i _ => 12 - (intOf i).toNat)
 case atStart => exact ⟨0, by omega, rfl, fun t h => absurd h (by omega), Below.refl _ _⟩
 case round =>
  obtain ⟨j, hj, rfl, hm, hb⟩ := hrel
  by_cases hlt : j < 12
  ·
   have hlti : (j : Int) < 12 := by omega
   have c0 : wr.cell? ⟨b, j, none⟩ = some (.string ⟨(wordsL.getD j []).toArray⟩) := by
    have := (hK2.below hb hK2.lt).cell j
    rw [this]
    have hlen : wordsL.length = 12 := rfl
    unfold strs
    rw [List.getElem?_toArray, List.getElem?_map, List.getD_eq_getElem?_getD, List.getElem?_eq_getElem (by omega)]
    rfl
   obtain ⟨y, hy⟩ : ∃ y, wordsL.getD j [] = y := ⟨_, rfl⟩
   rw [hy] at c0
   by_cases hyx : y = x
   ·
    subst hyx
    have hq := hp.out
    rw [kind_hit hlt hy] at hq
    subst hq
    have e1 : (y == y) = true := by simp
    replace hm := Lib.hid hm
    clear hlt hy
    go_wp2_with fail
    go_ret
    exact ⟨rfl, Blk.call hc2 hb, chg_below hk2 hb⟩
   ·
    have e1 : (y == x) = false := by simpa using hyx
    replace hm := Lib.hid hm
    replace hy := Lib.hid hy
    clear hlt
    go_wp2_with fail
    go_roundw
    case rel => exact ⟨j + 1, by omega, by go_num, fun t ht => by
     rcases Nat.lt_or_ge t j with h | h
     · exact hm.out t h
     ·
      obtain rfl : t = j := by omega
      rw [hy.out]; exact hyx, hb⟩
    case measure => simp [intOf]; omega
  ·
   have hlti : ¬ (j : Int) < 12 := by omega
   obtain rfl : j = 12 := by omega
   have hq := hp.out
   rw [kind_miss hm] at hq
   subst hq
   clear hm hlt
   go_wp2_with (go_at_call 60; (refine (MF.out _).mono ?_); rintro e w6 ⟨rfl, rfl⟩)
   exact ⟨rfl, rfl, Blk.call hc2 hb, chg_below hk2 hb⟩
theorem reads_kind : CReads 54 kindP (fun k => .int .i64 ((k : Nat) : Int)) := by
 refine reads_of ?_ ?_ ?_
 ·
  intro g w hw hc hs
  have C := Lib.hid (cur_done g w hc)
  go_enter Tryz.func54, Tryz.ntmps54
  go_wp2_with (go_at_call 73; (refine C.out.mono ?_); rintro e w1 ⟨rfl, rfl⟩)
  exact ⟨rfl, rfl, Chg.refl _ _⟩
 ·
  intro g x r w hw hc hx hl hxl hs hp
  have := kind_any g x r w hw hc hx hl
  rw [hp] at this
  exact this.mono fun e w' ⟨h1, h2, h3⟩ => ⟨h1, h3⟩
 ·
  intro g x r w v hw hc hx hl hxl hs hp
  have := kind_any g x r w hw hc hx hl
  rw [hp] at this
  exact this
set_option maxRecDepth 100000 in
theorem rs_number (n : Int) (w : World) : Calls Tryz.prog 40 #[.int .i64 n] w fun e w' => e = .returned (.bool (numOk n)) ∧ w = w' := by
 by_cases h1 : -4611686018427387904 ≤ n
 ·
  by_cases h2 : n ≤ 4611686018427387904
  ·
   have e1 : numOk n = true := numOk_iff.2 ⟨h1, h2⟩
   rw [e1]
   go_enter Tryz.func40, Tryz.ntmps40
   go_wp2_with fail
   go_ret
   exact ⟨rfl, rfl⟩
  ·
   have e1 : numOk n = false := by
    cases h : numOk n
    · rfl
    · exact absurd (numOk_iff.1 h).2 h2
   rw [e1]
   go_enter Tryz.func40, Tryz.ntmps40
   go_wp2_with fail
   go_ret
   exact ⟨rfl, rfl⟩
 ·
  have e1 : numOk n = false := by
   cases h : numOk n
   · rfl
   · exact absurd (numOk_iff.1 h).1 h1
  rw [e1]
  go_enter Tryz.func40, Tryz.ntmps40
  go_wp2_with fail
  go_ret
  exact ⟨rfl, rfl⟩
theorem rs_words (w : World) : Calls Tryz.prog 23 #[] w fun e w' =>
  e = .returned (.slice (some ⟨w.heap.size, 0, none⟩) 12 12) ∧ Blk w' w.heap.size 9 (strs wordsL) ∧ Below w.heap.size w w' := by
 have K := Blk.new w 9 (strs wordsL)
 have hb : Below w.heap.size w (w.alloc (.cells (strs wordsL) 9)) := (Below.refl _ _).alloc (Nat.le_refl _) _
 go_enter Tryz.func23, Tryz.ntmps23
 go_wp2_with fail
 go_ret
 exact ⟨rfl, K, hb⟩
theorem rs_on (b : Bool) (w : World) : Calls Tryz.prog 28 #[.bool b] w fun e w' => e = .returned (.string ⟨(onL b).toArray⟩) ∧ w = w' := by
 cases b
 ·
  go_enter Tryz.func28, Tryz.ntmps28
  go_wp2_with fail
  go_ret
  exact ⟨rfl, rfl⟩
 ·
  go_enter Tryz.func28, Tryz.ntmps28
  go_wp2_with fail
  go_ret
  exact ⟨rfl, rfl⟩
theorem rs_bytes (s : List UInt8) (w : World) (hL : s.length ≤ 1000000) : Calls Tryz.prog 26 #[.string ⟨s.toArray⟩] w fun e w' => e = .returned (.string ⟨(textL s).toArray⟩) ∧ Below w.heap.size w w' := by
 have H := Lib.hid (fun W => ref_hex s W (by omega))
 unfold textL
 by_cases h : s = []
 ·
  subst h
  go_enter Tryz.func26, Tryz.ntmps26
  go_wp2_with fail
  go_ret
  exact ⟨rfl, Below.refl _ _⟩
 ·
  rw [if_neg h]
  have e2 : s.isEmpty = false := by cases s; exact absurd rfl h; rfl
  have e3 : (s == ([] : List UInt8)) = false := by cases s; exact absurd rfl h; rfl
  clear h
  go_enter Tryz.func26, Tryz.ntmps26
  go_wp2_with (go_at_call 52; (refine (H.out _).mono ?_); rintro e w1 ⟨rfl, hb⟩)
  go_ret
  exact ⟨rfl, hb⟩
set_option maxRecDepth 100000 in
set_option maxHeartbeats 4000000 in
theorem rs_big : ∀ (n : Nat) (w : World), n < 18446744073709551616 → Calls Tryz.prog 25 #[.int .u64 (n : Nat)] w fun e w' => e = .returned (.string ⟨(Lib.decDigits n).toArray⟩) ∧ Below w.heap.size w w' := by
 intro n
 induction n using Nat.strongRecOn with
 | _ n ih =>
  intro w hn
  by_cases h : n < 10
  ·
   have g : (n : Int) < 10 := by omega
   have g2 : IntKind.i64.wrap (n : Int) = (n : Int) := by rw [IntKind.wrap_i64]; omega
   have D := Lib.hid fun W => ref_digits_nat n W (by omega)
   clear ih
   go_enter Tryz.func25, Tryz.ntmps25
   go_wp2_with (go_at_call 24; (with_reducible refine (D.out _).mono ?_); rintro e w2 ⟨rfl, hb2⟩)
   go_ret
   exact ⟨rfl, hb2⟩
  ·
   have g : ¬ (n : Int) < 10 := by omega
   obtain ⟨q, hq⟩ : ∃ q, n / 10 = q := ⟨_, rfl⟩
   obtain ⟨r, hr⟩ : ∃ r, n % 10 = r := ⟨_, rfl⟩
   have t2 : (n : Int).tdiv 10 = (q : Int) := by rw [← hq]; simp [Int.tdiv]
   have t3 : (n : Int).tmod 10 = (r : Int) := by rw [← hr]; simp [Int.tmod]
   have hu1 : IntKind.u64.wrap (q : Int) = (q : Int) := by rw [IntKind.wrap_u64]; omega
   have hu2 : IntKind.u64.wrap (r : Int) = (r : Int) := by rw [IntKind.wrap_u64]; omega
   have hu3 : IntKind.i64.wrap (r : Int) = (r : Int) := by rw [IntKind.wrap_i64]; omega
   have B := Lib.hid (fun W => ih q (by omega) W (by omega))
   have D := Lib.hid fun W => ref_digits_nat r W (by omega)
   obtain ⟨R, hR⟩ : ∃ R, Lib.decDigits n = R := ⟨_, rfl⟩
   have hR2 : R = Lib.decDigits q ++ Lib.decDigits r := by rw [← hR, decDigits_big h, hq, hr, Lib.decDigits_one (i := r) (by omega)]
   rw [hR]
   have hl1 : (Lib.decDigits q).length ≤ 20 := dec_len64 (by omega)
   have hl2 : (Lib.decDigits r).length ≤ 20 := dec_len64 (by omega)
   have hcat : (ByteArray.mk (Lib.decDigits q).toArray) ++ ⟨(Lib.decDigits r).toArray⟩ = ⟨R.toArray⟩ := by rw [hR2]; exact str_append _ _
   generalize Lib.decDigits q = Q at *
   generalize Lib.decDigits r = D2 at *
   have hss : ¬ 9223372036854775807 < Q.length + D2.length := by omega
   clear ih hR hR2 hl1 hl2
   replace hr := Lib.hid hr
   replace hq := Lib.hid hq
   go_enter Tryz.func25, Tryz.ntmps25
   go_wp2_with (first
    | (go_at_call 25; (with_reducible refine (B.out _).mono ?_); rintro e w2 ⟨rfl, hb2⟩)
    | (go_at_call 24; (with_reducible refine (D.out _).mono ?_); rintro e w3 ⟨rfl, hb3⟩))
   go_ret
   exact ⟨by first | rfl | rw [hcat], below_chain hb3 hb2⟩
theorem rs_word (A : Option Addr) (c : Nat) (ws : List (List UInt8)) (i : Nat) (base : Nat) (w : World) (h : OwnS w base A c ws) :
  Calls Tryz.prog 33 #[.slice A ws.length c, .int .i64 (i : Nat)] w fun e w' => e = .returned (.string ⟨(wAt ws i).toArray⟩) ∧ w = w' := by
 unfold wAt
 by_cases hi : i < ws.length
 ·
  have hii : ¬ (ws.length : Int) ≤ (i : Int) := by omega
  have hii2 : (i : Int) < (ws.length : Int) := by omega
  have hi0 : (0 : Int) ≤ (i : Int) := by omega
  obtain ⟨ad, rfl, -, c0⟩ := own_at h hi
  replace h := Lib.hid h
  go_enter Tryz.func33, Tryz.ntmps33
  go_wp2_with fail
  go_ret
  exact ⟨rfl, rfl⟩
 ·
  have hii : (ws.length : Int) ≤ (i : Int) := by omega
  have e1 : ws.getD i [] = [] := by rw [List.getD_eq_getElem?_getD, List.getElem?_eq_none (by omega)]; rfl
  rw [e1]
  replace h := Lib.hid h
  go_enter Tryz.func33, Tryz.ntmps33
  go_wp2_with fail
  go_ret
  exact ⟨rfl, rfl⟩
set_option maxRecDepth 100000 in
set_option maxHeartbeats 4000000 in
theorem rs_wide (l : List UInt8) (w : World) (hL : l.length ≤ 1000000) : Calls Tryz.prog 35 #[.string ⟨l.toArray⟩] w fun e w' => e = .returned (.int .u64 (wideL l : Nat)) ∧ Below w.heap.size w w' := by
 by_cases h20 : l.length ≤ 20
 ·
  have g20 : (l.length : Int) ≤ 20 := by omega
  have hres : wideL l = l.foldl wideS 0 := by unfold wideL; rw [if_pos h20]
  rw [hres]
  clear hres
  go_enter Tryz.func35, Tryz.ntmps35
  go_wp2_with fail
  go_loopw [3, 4] (fun n i wr => ∃ j : Nat, j ≤ l.length ∧ i = .int .i64 (j : Nat) ∧ n = .int .u64 (((l.take j).foldl wideS 0 : Nat) : Int) ∧ Below w.heap.size w wr) (fun _ i _ => l.length - (intOf i).toNat)
  case atStart => exact ⟨0, by omega, rfl, by simp, Below.refl _ _⟩
  case round =>
   obtain ⟨j, hj, rfl, rfl, hb⟩ := hrel
   by_cases hlt : j < l.length
   ·
    have hlti : (j : Int) < (l.length : Int) := by omega
    have hi0 := fun W => idx_str l j W hlt
    have htk : l.take (j + 1) = l.take j ++ [l.getD j 0] := by
     rw [List.take_add_one, List.getElem?_eq_getElem hlt, List.getD_eq_getElem?_getD, List.getElem?_eq_getElem hlt]
     rfl
    obtain ⟨d, hd⟩ : ∃ d, l.getD j 0 = d := ⟨_, rfl⟩
    rw [hd] at hi0 htk
    have hfd : (l.take (j + 1)).foldl wideS 0 = wideS ((l.take j).foldl wideS 0) d := by rw [htk, List.foldl_append]; rfl
    have hlt64 := wideFold_lt (l.take j) 0 (by omega)
    generalize hn : (l.take j).foldl wideS 0 = n at *
    have hdl : d.toNat < 256 := UInt8.toNat_lt d
    have q1 : IntKind.u64.wrap (IntKind.u64.wrap (10 * (n : Int)) + IntKind.u64.wrap (IntKind.u8.wrap ((d.toNat : Int) - 48))) = ((wideS n d : Nat) : Int) := by
     rw [IntKind.wrap_u64, IntKind.wrap_u64, IntKind.wrap_u64, IntKind.wrap_u8]
     unfold wideS
     omega
    have q2 : IntKind.u64.wrap (IntKind.u64.wrap (10 * (n : Int)) + ((d.toNat : Int) - 48) % 256) = ((wideS n d : Nat) : Int) := by
     rw [IntKind.wrap_u64, IntKind.wrap_u64]
     unfold wideS
     omega
    generalize wideS n d = n2 at *
    replace hfd := Lib.hid hfd
    clear htk
    replace hn := Lib.hid hn
    replace hd := Lib.hid hd
    go_wp2_with fail
    go_roundw
    case rel => exact ⟨j + 1, by omega, by go_num, by rw [hfd.out], hb⟩
    case measure => simp [intOf]; omega
   ·
    have hlti : ¬ (j : Int) < (l.length : Int) := by omega
    obtain rfl : j = l.length := by omega
    rw [List.take_length]
    go_wp2_with fail
    go_ret
    exact ⟨rfl, hb⟩
 ·
  have g20 : ¬ (l.length : Int) ≤ 20 := by omega
  have hres : wideL l = 0 := by unfold wideL; rw [if_neg h20]
  rw [hres]
  have hlti : (0 : Int) < (l.length : Int) := by omega
  clear hres
  go_enter Tryz.func35, Tryz.ntmps35
  go_wp2_with fail
  go_loopw [3, 4] (fun n i wr => i = .int .i64 0 ∧ n = .int .u64 0 ∧ Below w.heap.size w wr) (fun _ _ _ => 0)
  case atStart => exact ⟨rfl, rfl, Below.refl _ _⟩
  case round =>
   obtain ⟨rfl, rfl, hb⟩ := hrel
   go_wp2_with fail
   go_ret
   exact ⟨rfl, hb⟩
set_option maxRecDepth 100000 in
theorem rs_value (l : List UInt8) (w : World) (hL : l.length ≤ 1000000) : Calls Tryz.prog 32 #[.string ⟨l.toArray⟩] w fun e w' => e = .returned (.int .i64 (valL l)) ∧ Below w.heap.size w w' := by
 have hb : ∀ s : List UInt8, (numL s : Int) ≤ 5764607523034234890 := fun s => by
  unfold numL
  split
  · have := numFold_lt s 0 (by omega); omega
  · omega
 unfold valL
 cases l with
 | nil =>
  have N := Lib.hid fun W => ref_number [] W (by simp)
  go_enter Tryz.func32, Tryz.ntmps32
  go_wp2_with (go_at_call 61; (refine (N.out _).mono ?_); rintro e w2 ⟨rfl, hb2⟩)
  go_ret
  exact ⟨rfl, hb2⟩
 | cons c r =>
  have hi0 := fun W => idx_str (c :: r) 0 W (by simp)
  have hi1 : ∀ W, (Instr.index 9 (.string ⟨(c :: r).toArray⟩) (.int .i64 0)).run Tryz.prog W = .ok (.int .u8 (c.toNat : Nat)) W := fun W => hi0 W
  have hl : (0 : Int) < ((c :: r).length : Int) := by rw [List.length_cons]; omega
  rw [List.headD_cons, List.tail_cons]
  by_cases h : c = 45
  ·
   rw [if_pos h]
   have hbq : ((c.toNat : Int) == 45) = true := by rw [h]; rfl
   have sl : ∀ W, (Instr.slice 9 (.string ⟨(c :: r).toArray⟩) (some (.int .i64 1)) none none).run Tryz.prog W = .ok (.string ⟨r.toArray⟩) W := fun W => slice_from (c :: r) 1 W (by simp)
   have N := Lib.hid fun W => ref_number r W (by simp at hL; omega)
   have hbr := hb r
   generalize numL r = m at *
   have hw : IntKind.i64.wrap (-(m : Int)) = -(m : Int) := by rw [IntKind.wrap_i64]; omega
   generalize hS : (c :: r) = S at *
   clear h hi0 hb
   replace hS := Lib.hid hS
   go_enter Tryz.func32, Tryz.ntmps32
   go_wp2_with (go_at_call 61; (refine (N.out _).mono ?_); rintro e w2 ⟨rfl, hb2⟩)
   go_ret
   exact ⟨rfl, hb2⟩
  ·
   rw [if_neg h]
   have hbq : ((c.toNat : Int) == 45) = false := by
    rw [beq_eq_false_iff_ne]
    intro e
    exact h (UInt8.toNat_inj.1 (by have : (45 : UInt8).toNat = 45 := rfl; omega))
   have N := Lib.hid fun W => ref_number (c :: r) W hL
   generalize hS : (c :: r) = S at *
   clear h hi0 hb
   replace hS := Lib.hid hS
   go_enter Tryz.func32, Tryz.ntmps32
   go_wp2_with (go_at_call 61; (refine (N.out _).mono ?_); rintro e w2 ⟨rfl, hb2⟩)
   go_ret
   exact ⟨rfl, hb2⟩
end Go.Proofs.YtodbgjnccngljaaGreatDoor
