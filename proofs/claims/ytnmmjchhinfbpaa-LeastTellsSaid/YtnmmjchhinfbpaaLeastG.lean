/- numbers with points: their order is that of their bits. -/
import Derived.Test.YtnmmjchhinfbpaaBase
import Ieee.Arith
namespace Go.Proofs.Ytnmmjchhinfbpaa
open Go Ieee

/-- A number's bits without the sign, with the sign as an integer's. -/
def srF (b : Nat) : Int := if b < 9223372036854775808 then (b : Int) else -((b : Int) - 9223372036854775808)
def rgF (b : Nat) : Nat := b % 9223372036854775808
/-- Is it a number, an infinity too? -/
def okF (b : Nat) : Prop := b < 18446744073709551616 ∧ rgF b ≤ 9218868437227405312
/-- Is it a number, and no infinity? -/
def finF (b : Nat) : Prop := b < 18446744073709551616 ∧ rgF b < 9218868437227405312
theorem finF.ok {b : Nat} (h : finF b) : okF b := ⟨h.1, Nat.le_of_lt h.2⟩
def upF (r : Nat) : Nat := if r < 4503599627370496 then 0 else r / 4503599627370496 - 1
def maF (r : Nat) : Nat := if r < 4503599627370496 then r else 4503599627370496 + r % 4503599627370496
def mgF (r : Nat) : Nat := maF r * 2 ^ upF r
theorem mgF_step (r : Nat) : mgF r < mgF (r + 1) := by
  unfold mgF maF upF
  by_cases h : r + 1 < 4503599627370496
  · rw [if_pos (show r < 4503599627370496 by omega), if_pos (show r < 4503599627370496 by omega), if_pos h, if_pos h]
    simp
  · by_cases h2 : r < 4503599627370496
    · have e : r = 4503599627370495 := by omega
      subst e
      decide
    · rw [if_neg h2, if_neg h2, if_neg h, if_neg h]
      by_cases h3 : r % 4503599627370496 = 4503599627370495
      · have e1 : (r + 1) % 4503599627370496 = 0 := by omega
        have e2 : (r + 1) / 4503599627370496 - 1 = (r / 4503599627370496 - 1) + 1 := by omega
        rw [h3, e1, e2, Nat.pow_succ]
        have := Nat.two_pow_pos (r / 4503599627370496 - 1)
        omega
      · have e1 : (r + 1) % 4503599627370496 = r % 4503599627370496 + 1 := by omega
        have e2 : (r + 1) / 4503599627370496 = r / 4503599627370496 := by omega
        rw [e1, e2]
        exact Nat.mul_lt_mul_of_pos_right (by omega) (Nat.two_pow_pos _)
theorem mgF_lt {a : Nat} : ∀ {b : Nat}, a < b → mgF a < mgF b
  | 0, h => by omega
  | b + 1, h => by
    by_cases e : a = b
    · subst e; exact mgF_step a
    · exact Nat.lt_trans (mgF_lt (show a < b by omega)) (mgF_step b)
theorem mgF_zero : mgF 0 = 0 := rfl
theorem read_fin {b : Nat} (h : finF b) : double.read b = .number (decide (9223372036854775808 ≤ b)) (maF (rgF b)) (-1074 + (upF (rgF b) : Nat)) := by
  obtain ⟨h1, h2⟩ := h
  unfold Format.read
  have e1 : double.signWeight = 9223372036854775808 := rfl
  have e2 : double.binade = 4503599627370496 := rfl
  have e3 : double.infRung = 9218868437227405312 := rfl
  have e4 : double.leastPlace = -1074 := rfl
  rw [e1, e2, e3, e4]
  dsimp only
  have en : (b / 9223372036854775808 % 2 == 1) = decide (9223372036854775808 ≤ b) := by
    by_cases e : 9223372036854775808 ≤ b
    · rw [decide_eq_true e, beq_iff_eq]; omega
    · rw [decide_eq_false e, beq_eq_false_iff_ne]; omega
  unfold rgF at h2
  rw [en]
  unfold maF upF rgF
  by_cases h3 : b % 9223372036854775808 < 4503599627370496
  · rw [if_pos h3, if_pos h3, if_pos h3]
    rfl
  · rw [if_neg h3, if_neg h3, if_neg h3, if_pos h2]
theorem read_inf {b : Nat} (h1 : b < 18446744073709551616) (h2 : rgF b = 9218868437227405312) : double.read b = .infinity (decide (9223372036854775808 ≤ b)) := by
  unfold Format.read
  have e1 : double.signWeight = 9223372036854775808 := rfl
  have e2 : double.binade = 4503599627370496 := rfl
  have e3 : double.infRung = 9218868437227405312 := rfl
  rw [e1, e2, e3]
  dsimp only
  have en : (b / 9223372036854775808 % 2 == 1) = decide (9223372036854775808 ≤ b) := by
    by_cases e : 9223372036854775808 ≤ b
    · rw [decide_eq_true e, beq_iff_eq]; omega
    · rw [decide_eq_false e, beq_eq_false_iff_ne]; omega
  unfold rgF at h2
  rw [en, h2]
  rfl
theorem read_nan {b : Nat} (h2 : 9218868437227405312 < rgF b) : ∃ s f, double.read b = .nan s f := by
  unfold Format.read
  have e1 : double.signWeight = 9223372036854775808 := rfl
  have e2 : double.binade = 4503599627370496 := rfl
  have e3 : double.infRung = 9218868437227405312 := rfl
  rw [e1, e2, e3]
  dsimp only
  unfold rgF at h2
  rw [if_neg (by omega), if_neg (by omega), if_neg (by omega)]
  exact ⟨_, _, rfl⟩
theorem signed_up (s : Bool) (m a k : Nat) (h : k ≤ a) : signed s m a = signed s m (a - k) * (2 ^ k : Nat) := by
  unfold signed
  have e : m <<< a = m <<< (a - k) * 2 ^ k := by
    rw [Nat.shiftLeft_eq, Nat.shiftLeft_eq, Nat.mul_assoc, ← Nat.pow_add, Nat.sub_add_cancel h]
  rw [e]
  split
  · rw [Int.natCast_mul, Int.neg_mul]
  · rw [Int.natCast_mul]
theorem cmp_mul (x y : Int) (p : Nat) (hp : 0 < p) : compare (x * (p : Int)) (y * (p : Int)) = compare x y := by
  have hp' : (0 : Int) < (p : Int) := by omega
  show compareOfLessAndEq _ _ = compareOfLessAndEq _ _
  unfold compareOfLessAndEq
  have e1 : (x * (p : Int) < y * (p : Int)) ↔ x < y := ⟨fun h => Int.lt_of_mul_lt_mul_right h (Int.le_of_lt hp'), fun h => Int.mul_lt_mul_of_pos_right h hp'⟩
  have e2 : (x * (p : Int) = y * (p : Int)) ↔ x = y := ⟨fun h => Int.eq_of_mul_eq_mul_right (Int.ne_of_gt hp') h, fun h => by rw [h]⟩
  simp only [e1, e2]
theorem sg_mag (b : Nat) (s : Bool) (hs : s = decide (9223372036854775808 ≤ b)) : signed s (maF (rgF b)) (upF (rgF b)) = if 9223372036854775808 ≤ b then -(mgF (rgF b) : Int) else (mgF (rgF b) : Int) := by
  unfold signed mgF
  subst hs
  rw [Nat.shiftLeft_eq]
  by_cases h : 9223372036854775808 ≤ b
  · simp [h]
  · simp [h]
theorem srF_rg {b : Nat} (h : b < 18446744073709551616) : srF b = if 9223372036854775808 ≤ b then -(rgF b : Int) else (rgF b : Int) := by
  unfold srF rgF
  by_cases e : 9223372036854775808 ≤ b
  · rw [if_neg (by omega), if_pos e]
    omega
  · rw [if_pos (by omega), if_neg e]
    omega
theorem cmp_mag {b c : Nat} (hb : b < 18446744073709551616) (hc : c < 18446744073709551616) :
    compare (if 9223372036854775808 ≤ b then -(mgF (rgF b) : Int) else (mgF (rgF b) : Int)) (if 9223372036854775808 ≤ c then -(mgF (rgF c) : Int) else (mgF (rgF c) : Int)) = compare (srF b) (srF c) := by
  rw [srF_rg hb, srF_rg hc]
  show compareOfLessAndEq _ _ = compareOfLessAndEq _ _
  unfold compareOfLessAndEq
  have m1 : ∀ {x y : Nat}, mgF x < mgF y ↔ x < y := fun {x y} => ⟨fun h => by
    rcases Nat.lt_or_ge x y with h2 | h2
    · exact h2
    · by_cases e : x = y
      · subst e; omega
      · have := mgF_lt (show y < x by omega); omega, fun h => mgF_lt h⟩
  have m2 : ∀ {x y : Nat}, mgF x = mgF y ↔ x = y := fun {x y} => ⟨fun h => by
    rcases Nat.lt_trichotomy x y with h2 | h2 | h2
    · have := m1.2 h2; omega
    · exact h2
    · have := m1.2 h2; omega, fun h => by rw [h]⟩
  have z1 : ∀ x, mgF x = 0 ↔ x = 0 := fun x => by rw [← mgF_zero]; exact m2
  have a1 := m1 (x := rgF b) (y := rgF c)
  have a2 := m1 (x := rgF c) (y := rgF b)
  have a3 := m2 (x := rgF b) (y := rgF c)
  have a4 := z1 (rgF b)
  have a5 := z1 (rgF c)
  generalize mgF (rgF b) = p at *
  generalize mgF (rgF c) = q at *
  generalize rgF b = x at *
  generalize rgF c = y at *
  clear m1 m2 z1
  congr 1
  · split <;> split <;> simp only [eq_iff_iff] <;> omega
  · congr 1
    split <;> split <;> simp only [eq_iff_iff] <;> omega
theorem order_fin {b c : Nat} (hb : finF b) (hc : finF c) : double.order b c = some (compare (srF b) (srF c)) := by
  unfold Format.order
  rw [read_fin hb, read_fin hc]
  show some (compare (signed _ _ _) (signed _ _ _)) = _
  congr 1
  rw [← cmp_mag hb.1 hc.1, ← sg_mag b _ rfl, ← sg_mag c _ rfl]
  obtain ⟨k, hk⟩ : ∃ k, k = min (upF (rgF b)) (upF (rgF c)) := ⟨_, rfl⟩
  have e1 : (((-1074 : Int) + ((upF (rgF b) : Nat) : Int)) - min ((-1074 : Int) + ((upF (rgF b) : Nat) : Int)) ((-1074 : Int) + ((upF (rgF c) : Nat) : Int))).toNat = upF (rgF b) - k := by omega
  have e2 : (((-1074 : Int) + ((upF (rgF c) : Nat) : Int)) - min ((-1074 : Int) + ((upF (rgF b) : Nat) : Int)) ((-1074 : Int) + ((upF (rgF c) : Nat) : Int))).toNat = upF (rgF c) - k := by omega
  rw [e1, e2, signed_up _ _ (upF (rgF b)) k (by omega), signed_up _ _ (upF (rgF c)) k (by omega), cmp_mul _ _ _ (Nat.two_pow_pos k)]
theorem sr_fin {b : Nat} (h : finF b) : -9218868437227405312 < srF b ∧ srF b < 9218868437227405312 := by
  rw [srF_rg h.1]
  have := h.2
  split <;> omega
theorem sr_inf {b : Nat} (h1 : b < 18446744073709551616) (h2 : rgF b = 9218868437227405312) : srF b = if 9223372036854775808 ≤ b then -9218868437227405312 else 9218868437227405312 := by
  rw [srF_rg h1, h2]
  rfl
theorem cmp_lt {x y : Int} (h : x < y) : compare x y = .lt := by
  show compareOfLessAndEq _ _ = _
  unfold compareOfLessAndEq
  rw [if_pos h]
theorem cmp_gt {x y : Int} (h : y < x) : compare x y = .gt := by
  show compareOfLessAndEq _ _ = _
  unfold compareOfLessAndEq
  rw [if_neg (by omega), if_neg (by omega)]
theorem cmp_eq (x : Int) : compare x x = .eq := by
  show compareOfLessAndEq _ _ = _
  unfold compareOfLessAndEq
  rw [if_neg (by omega), if_pos rfl]
/-- The order of numbers that are none is that of their bits. -/
theorem order_ok {b c : Nat} (hb : okF b) (hc : okF c) : double.order b c = some (compare (srF b) (srF c)) := by
  by_cases h1 : rgF b = 9218868437227405312
  · have r1 := read_inf hb.1 h1
    have s1 := sr_inf hb.1 h1
    by_cases h2 : rgF c = 9218868437227405312
    · have r2 := read_inf hc.1 h2
      have s2 := sr_inf hc.1 h2
      unfold Format.order
      rw [r1, r2, s1, s2]
      show some (compare (Bool.toNat _) (Bool.toNat _)) = _
      by_cases e1 : 9223372036854775808 ≤ b <;> by_cases e2 : 9223372036854775808 ≤ c <;> simp only [e1, e2, if_true, if_false, decide_true, decide_false] <;> rfl
    · have hf : finF c := ⟨hc.1, by have := hc.2; omega⟩
      have hr := sr_fin hf
      unfold Format.order
      rw [r1, read_fin hf, s1]
      show some (if _ then _ else _) = _
      by_cases e1 : 9223372036854775808 ≤ b
      · simp only [e1, decide_true, if_true]
        rw [cmp_lt hr.1]
      · simp only [e1, decide_false, if_false]
        rw [cmp_gt hr.2]
        rfl
  · have hfb : finF b := ⟨hb.1, by have := hb.2; omega⟩
    have hr := sr_fin hfb
    by_cases h2 : rgF c = 9218868437227405312
    · have r2 := read_inf hc.1 h2
      have s2 := sr_inf hc.1 h2
      unfold Format.order
      rw [r2, read_fin hfb, s2]
      show some (if _ then _ else _) = _
      by_cases e2 : 9223372036854775808 ≤ c
      · simp only [e2, decide_true, if_true]
        rw [cmp_gt hr.1]
      · simp only [e2, decide_false, if_false]
        rw [cmp_lt hr.2]
        rfl
    · exact order_fin hfb ⟨hc.1, by have := hc.2; omega⟩
theorem order_nan {b c : Nat} (h : 9218868437227405312 < rgF b ∨ 9218868437227405312 < rgF c) : double.order b c = none := by
  unfold Format.order
  rcases h with h | h
  · obtain ⟨s, f, e⟩ := read_nan h
    rw [e]
    rfl
  · obtain ⟨s, f, e⟩ := read_nan h
    rw [e]
    cases double.read b <;> rfl
theorem feq {b c : Nat} (hb : okF b) (hc : okF c) : (double.order b c == some Ordering.eq) = decide (srF b = srF c) := by
  rw [order_ok hb hc]
  rcases Int.lt_trichotomy (srF b) (srF c) with h | h | h
  · rw [cmp_lt h, decide_eq_false (by omega)]; rfl
  · rw [h, cmp_eq, decide_eq_true rfl]; rfl
  · rw [cmp_gt h, decide_eq_false (by omega)]; rfl
theorem fne {b c : Nat} (hb : okF b) (hc : okF c) : (double.order b c != some Ordering.eq) = decide (srF b ≠ srF c) := by
  have := feq hb hc
  unfold bne
  rw [this]
  simp
theorem flt {b c : Nat} (hb : okF b) (hc : okF c) : (double.order b c == some Ordering.lt) = decide (srF b < srF c) := by
  rw [order_ok hb hc]
  rcases Int.lt_trichotomy (srF b) (srF c) with h | h | h
  · rw [cmp_lt h, decide_eq_true h]; rfl
  · rw [h, cmp_eq, decide_eq_false (by omega)]; rfl
  · rw [cmp_gt h, decide_eq_false (by omega)]; rfl
theorem fgt {b c : Nat} (hb : okF b) (hc : okF c) : (double.order b c == some Ordering.gt) = decide (srF c < srF b) := by
  rw [order_ok hb hc]
  rcases Int.lt_trichotomy (srF b) (srF c) with h | h | h
  · rw [cmp_lt h, decide_eq_false (by omega)]; rfl
  · rw [h, cmp_eq, decide_eq_false (by omega)]; rfl
  · rw [cmp_gt h, decide_eq_true h]; rfl
/-! Numbers made clean. -/
def cleanB (b : Nat) : Nat := if 9218868437227405312 < rgF b ∨ rgF b = 0 then 0 else if rgF b = 9218868437227405312 then (if 9223372036854775808 ≤ b then 18442240474082181119 else 9218868437227405311) else b
theorem cleanB_fin {b : Nat} (h : b < 18446744073709551616) : finF (cleanB b) := by
  unfold cleanB
  split
  · exact ⟨by omega, by decide⟩
  · split
    · split
      · exact ⟨by omega, by decide⟩
      · exact ⟨by omega, by decide⟩
    · exact ⟨h, by omega⟩
theorem cleanB_zero {b : Nat} (h : b < 18446744073709551616) : srF (cleanB b) = 0 ↔ cleanB b = 0 := by
  unfold cleanB
  split
  · exact ⟨fun _ => rfl, fun _ => rfl⟩
  · rename_i h1
    split
    · split
      · exact ⟨fun h => by revert h; decide, fun h => by omega⟩
      · exact ⟨fun h => by revert h; decide, fun h => by omega⟩
    · rw [srF_rg h]
      unfold rgF at h1
      refine ⟨fun h2 => ?_, fun h2 => ?_⟩
      · exfalso
        revert h2
        unfold rgF
        split <;> omega
      · exact absurd (show b % 9223372036854775808 = 0 by rw [h2]) (by omega)
/-- A clean number's key. -/
def keyB (b : Nat) : Int := if b < 9223372036854775808 then (b : Int) + 9223372036854775808 else 18446744073709551615 - (b : Int)
theorem keyB_lt {b c : Nat} (hb : b < 18446744073709551616) (hc : c < 18446744073709551616) (zb : srF b = 0 ↔ b = 0) (zc : srF c = 0 ↔ c = 0) : (keyB b < keyB c ↔ srF b < srF c) ∧ (keyB b = keyB c ↔ srF b = srF c) := by
  unfold keyB srF at *
  split <;> split <;> simp_all <;> omega
end Go.Proofs.Ytnmmjchhinfbpaa
