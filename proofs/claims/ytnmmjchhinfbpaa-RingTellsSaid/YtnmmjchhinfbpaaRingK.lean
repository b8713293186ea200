/- ring: the document's At. -/
import Derived.Test.YtnmmjchhinfbpaaRingJ
import Derived.Deep.QuietTactic
namespace Go.Proofs.Ytnmmjchhinfbpaa
open Go Go.RowKit Go.Deep

theorem qt_at {w : World} {B : Nat} {A : Option Addr} {P : List Pt} (h : Reads w B 2 A P.length (P.flatMap qcell)) {k : Nat} (hk : k < P.length) :
    ∃ ad, A = some ad ∧ ad.block < B ∧ w.cell? (ad.add (k * 2)) = some (.int .u64 (P.getD k (0, 0)).2) ∧ w.cell? ⟨(ad.add (k * 2)).block, (ad.add (k * 2)).off + 1, none⟩ = some (.int .i64 (P.getD k (0, 0)).1) := by
  obtain ⟨ad, rfl, hb, hc⟩ := h.rec_at qcell (fun _ => rfl) hk
  rw [List.getD_eq_getElem?_getD, List.getElem?_eq_getElem hk]
  exact ⟨ad, rfl, hb, hc 0 _ rfl, hc 1 _ rfl⟩
theorem minP_snoc (L : List Pt) (x : Pt) : minP (L ++ [x]) = if L = [] then x else if ptLt x (minP L) then x else minP L := by
  cases L with
  | nil => rfl
  | cons y r =>
    rw [if_neg (by simp)]
    unfold minP
    simp only [List.cons_append, List.foldl_append, List.foldl_cons, List.foldl_nil]
theorem take_snoc (P : List Pt) (k : Nat) (hk : k < P.length) : P.take (k + 1) = P.take k ++ [P.getD k (0, 0)] := by
  rw [List.take_succ_eq_append_getElem hk, List.getD_eq_getElem?_getD, List.getElem?_eq_getElem hk]
  rfl
theorem upP_snoc (L : List Pt) (x : Pt) (n : Int) : upP (L ++ [x]) n = if n ≤ x.2 then upP L n ++ [x] else upP L n := by
  unfold upP
  rw [List.filter_append]
  split
  · rename_i h
    rw [List.filter_cons_of_pos (by simpa using h)]
    rfl
  · rename_i h
    rw [List.filter_cons_of_neg (by simpa using h), List.filter_nil, List.append_nil]
/-- What the document's search knows after k points. -/
structure AtSt (P : List Pt) (n : Int) (k : Nat) (be : Int) (f : Nat) : Prop where
  fl : f < P.length
  fm : 0 < k → P.getD f (0, 0) = minP (P.take k)
  bm : (be = -1 ∧ upP (P.take k) n = []) ∨ ∃ b : Nat, be = (b : Int) ∧ b < P.length ∧ upP (P.take k) n ≠ [] ∧ P.getD b (0, 0) = minP (upP (P.take k) n)
theorem AtSt.first {P : List Pt} {n : Int} {k : Nat} {be : Int} {f : Nat} (h : AtSt P n k be f) (hk : k < P.length) (h0 : k = 0 → f = 0) :
    P.getD (if ptLt (P.getD k (0, 0)) (P.getD f (0, 0)) then k else f) (0, 0) = minP (P.take (k + 1)) := by
  rw [take_snoc P k hk, minP_snoc]
  by_cases e : k = 0
  · subst e
    have e0 : f = 0 := h0 rfl
    subst e0
    rw [if_pos (show P.take 0 = [] from rfl)]
    split <;> rfl
  · have hne : P.take k ≠ [] := fun e2 => by
      have := congrArg List.length e2
      rw [List.length_take, List.length_nil] at this
      omega
    rw [if_neg hne, ← h.fm (by omega)]
    split <;> rfl
theorem AtSt.done {P : List Pt} {n : Int} {be : Int} {f : Nat} (h : AtSt P n P.length be f) (h0 : 0 < P.length) : (be = -1 → P.getD f (0, 0) = ownP P n) ∧ ∀ b : Nat, be = (b : Int) → b < P.length ∧ P.getD b (0, 0) = ownP P n := by
  have hf := h.fm h0
  have hb := h.bm
  rw [List.take_length] at hf hb
  unfold ownP
  constructor
  · intro e
    rcases hb with ⟨-, h2⟩ | ⟨b, h1, -⟩
    · rw [if_pos h2]
      exact hf
    · omega
  · intro b e
    rcases hb with ⟨h1, -⟩ | ⟨b', h1, h2, h3, h4⟩
    · omega
    · obtain rfl : b = b' := by omega
      rw [if_neg h3]
      exact ⟨h2, h4⟩
end Go.Proofs.Ytnmmjchhinfbpaa
