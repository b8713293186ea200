/- conn: contracts. -/
import Derived.Test.YtdkcjfcjckpjcaaInts
namespace Go.Proofs.Ytdkcjfcjckpjcaa
open Go Go.RowKit

def hasB (f s : Int) : Bool := bits BinOp.and IntKind.i64 f s == s
def nextS (st b : Int) : Int := if st < 1 ∨ 3 < st then st else if hasB b 4 then 4 else if hasB b 1 then 3 else if hasB b 16 then max st 2 else st
def firstB (p b : Int) : Bool := p == 6 && hasB b 2 && !(bits BinOp.and IntKind.i64 b 21 != 0)
def beginS (p b : Int) : Int := if p == 17 then 5 else if firstB p b then 1 else 0
def stepsS : Int → List Int → List Int
  | _, [] => []
  | s, b :: r => nextS s b :: stepsS (nextS s b) r
def runS (p : Int) : List Int → List Int
  | [] => []
  | b :: r => beginS p b :: stepsS (beginS p b) r

theorem next_any (f s : Int) (w : World) : Calls Try.prog 40 #[.int .i64 f, .int .i64 s] w fun e w' => e = .returned (.int .i64 (nextS f s)) ∧ w = w' := by
  go_enter Try.func40, Try.ntmps40
  go_wp2
  all_goals go_ret
  all_goals refine ⟨ret_int ?_, rfl⟩
  all_goals (simp only [nextS, hasB]; repeat' split)
  all_goals (try simp_all)
  all_goals (try omega)
theorem first_any (f s : Int) (w : World) : Calls Try.prog 36 #[.int .i64 f, .int .i64 s] w fun e w' => e = .returned (.bool (firstB f s)) ∧ w = w' := by
  go_enter Try.func36, Try.ntmps36
  go_wp2
  all_goals go_ret
  all_goals refine ⟨ret_bool ?_, rfl⟩
  all_goals simp [firstB, hasB, *]
theorem begin_any (f s : Int) (w : World) : Calls Try.prog 38 #[.int .i64 f, .int .i64 s] w fun e w' => e = .returned (.int .i64 (beginS f s)) ∧ w = w' := by
  go_enter Try.func38, Try.ntmps38
  go_wp2_with (go_at_call 36; refine (first_any _ _ _).mono ?_; rintro e w' ⟨rfl, rfl⟩)
  all_goals go_ret
  all_goals refine ⟨ret_int ?_, rfl⟩
  all_goals simp [beginS, *]

theorem stepsS_length (s : Int) (l : List Int) : (stepsS s l).length = l.length := by
  induction l generalizing s with
  | nil => rfl
  | cons b r ih => simp [stepsS, ih]
theorem runS_length (p : Int) (l : List Int) : (runS p l).length = l.length := by
  cases l with
  | nil => rfl
  | cons b r => simp [runS, stepsS_length]
theorem stepsS_succ (s : Int) (l : List Int) (k : Nat) (hk : k + 1 < l.length) : (stepsS s l).getD (k + 1) 0 = nextS ((stepsS s l).getD k 0) (l.getD (k + 1) 0) := by
  induction l generalizing s k with
  | nil => simp at hk
  | cons b r ih =>
    cases k with
    | zero =>
      cases r with
      | nil => simp at hk
      | cons c r => simp [stepsS]
    | succ k =>
      have := ih (nextS s b) k (by simpa using hk)
      simpa [stepsS] using this
theorem runS_succ (p : Int) (l : List Int) (k : Nat) (hk : k + 1 < l.length) : (runS p l).getD (k + 1) 0 = nextS ((runS p l).getD k 0) (l.getD (k + 1) 0) := by
  cases l with
  | nil => simp at hk
  | cons b r =>
    cases k with
    | zero =>
      cases r with
      | nil => simp at hk
      | cons c r => simp [runS, stepsS]
    | succ k =>
      have := stepsS_succ (beginS p b) r k (by simpa using hk)
      simpa [runS] using this
theorem runS_zero (p : Int) (l : List Int) (hk : 0 < l.length) : (runS p l).getD 0 0 = beginS p (l.getD 0 0) := by
  cases l with
  | nil => simp at hk
  | cons b r => simp [runS]

end Go.Proofs.Ytdkcjfcjckpjcaa
