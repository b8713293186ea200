/- verdict: the laws of boards. -/
import Derived.Test.YtdkcjfcjckpjcaaVerdictC
namespace Go.Proofs.Ytdkcjfcjckpjcaa
open Go Go.RowKit Go.Deep

theorem vRight_cases {v : Vd} (h : vRight v = true) : (v.k = 1 ∧ v.e = 0) ∨ ((v.k = 2 ∨ v.k = 3) ∧ 1 ≤ v.e ∧ v.e ≤ 16 ∧ v.f = false) := by
  unfold vRight at h
  split at h
  · simp at *; omega
  · split at h
    · simp at *; right; refine ⟨by omega, by omega, by omega, h.1.1.2⟩
    · cases h

def InvW (f : Nat → Int) (n : Int) : Prop :=
  f 1 + f 2 + f 3 = n ∧ f 4 + f 5 + f 6 + f 7 + f 8 + f 9 + f 10 + f 11 + f 12 + f 13 + f 14 + f 15 + f 16 + f 17 + f 18 + f 19 + f 20 = n ∧ f 4 = f 1 ∧ f 21 ≤ f 1
def stepN (n : Int) (v : Vd) : Int := if vRight v then n + 1 else n
def cntOf (l : List Vd) : Int := l.foldl stepN 0
theorem cntOf_succ {l : List Vd} {k : Nat} {v : Vd} (h : l[k]? = some v) : cntOf (l.take (k + 1)) = stepN (cntOf (l.take k)) v := by
  rw [List.take_add_one, h]
  simp [cntOf, List.foldl_append]
theorem cntOf_bd : ∀ (l : List Vd) (n : Int), n ≤ l.foldl stepN n ∧ l.foldl stepN n ≤ n + l.length
  | [], n => by simp
  | v :: l, n => by
    have := cntOf_bd l (stepN n v)
    have h2 : stepN n v = n ∨ stepN n v = n + 1 := by unfold stepN; split <;> simp
    simp only [List.foldl_cons, List.length_cons]
    omega
theorem at22 (f : Nat → Int) (d : Int) (i : Nat) (h : i ≠ 22) : bump f 22 d i = f i := by unfold bump; rw [if_neg h]
theorem invW_step {f : Nat → Int} {n : Int} {v : Vd} (h : InvW f n) : InvW (stepB f v) (stepN n v) := by
  unfold stepB stepN
  cases hR : vRight v
  · simpa using h
  · simp only [if_true]
    obtain ⟨k, e, b, c, fi, s⟩ := v
    have hc := vRight_cases hR
    clear hR
    simp only at hc
    unfold InvW at h
    rcases hc with ⟨rfl, rfl⟩ | ⟨hk, he, he2, rfl⟩
    · cases fi <;> (simp [InvW, putB, bump]; omega)
    · obtain ⟨m, rfl⟩ : ∃ m : Nat, e = m := ⟨e.toNat, by omega⟩
      have hm : m = 1 ∨ m = 2 ∨ m = 3 ∨ m = 4 ∨ m = 5 ∨ m = 6 ∨ m = 7 ∨ m = 8 ∨ m = 9 ∨ m = 10 ∨ m = 11 ∨ m = 12 ∨ m = 13 ∨ m = 14 ∨ m = 15 ∨ m = 16 := by omega
      rcases hk with rfl | rfl
      · rcases hm with rfl | rfl | rfl | rfl | rfl | rfl | rfl | rfl | rfl | rfl | rfl | rfl | rfl | rfl | rfl | rfl <;> (simp [InvW, putB, bump]; omega)
      · rcases hm with rfl | rfl | rfl | rfl | rfl | rfl | rfl | rfl | rfl | rfl | rfl | rfl | rfl | rfl | rfl | rfl <;> (simp [InvW, putB, bump]; omega)
theorem invW_all : ∀ (l : List Vd) (f : Nat → Int) (n : Int), InvW f n → InvW (l.foldl stepB f) (l.foldl stepN n)
  | [], _, _, h => h
  | _ :: l, _, _, h => invW_all l _ _ (invW_step h)
theorem invW_board (l : List Vd) : InvW (boardOf l) (cntOf l) := invW_all l _ _ (by simp [InvW])
end Go.Proofs.Ytdkcjfcjckpjcaa
