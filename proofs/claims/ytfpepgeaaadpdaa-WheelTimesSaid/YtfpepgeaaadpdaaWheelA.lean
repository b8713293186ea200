/- wheel: the struct of many cells. -/
import Derived.Test.YtfpepgeaaadpdaaKit
import Derived.Test.YtfpepgeaaadpdaaLoadB
namespace Go.Proofs.Ytfpepgeaaadpdaa
open Go Go.RowKit Go.Deep

/-! The cells of a wheel that nobody made: told one by one by a check that the kernel walks. -/
def isNilSl : Value → Bool | .slice none 0 0 => true | _ => false
def isZ32 : Value → Bool | .int .i32 0 => true | _ => false
def isZ64 : Value → Bool | .int .i64 0 => true | _ => false
def isNilM : Value → Bool | .map none => true | _ => false
theorem isNilSl_eq {v : Value} (h : isNilSl v = true) : v = .slice none 0 0 := by
  unfold isNilSl at h
  split at h
  · rfl
  · cases h
theorem isZ32_eq {v : Value} (h : isZ32 v = true) : v = .int .i32 0 := by
  unfold isZ32 at h
  split at h
  · rfl
  · cases h
theorem isZ64_eq {v : Value} (h : isZ64 v = true) : v = .int .i64 0 := by
  unfold isZ64 at h
  split at h
  · rfl
  · cases h
theorem isNilM_eq {v : Value} (h : isNilM v = true) : v = .map none := by
  unfold isNilM at h
  split at h
  · rfl
  · cases h
def runOf (p : Value → Bool) (k : List Value → Bool) : Nat → List Value → Bool
  | 0, r => k r
  | _ + 1, [] => false
  | n + 1, x :: r => p x && runOf p k n r
theorem runOf_eq {p : Value → Bool} {k : List Value → Bool} {z : Value} (hp : ∀ v, p v = true → v = z) : ∀ (n : Nat) (l : List Value), runOf p k n l = true → ∃ r, l = List.replicate n z ++ r ∧ k r = true
  | 0, l, h => ⟨l, rfl, h⟩
  | n + 1, [], h => by cases h
  | n + 1, x :: r, h => by
    unfold runOf at h
    rw [Bool.and_eq_true] at h
    obtain ⟨q, e, hq⟩ := runOf_eq hp n r h.2
    refine ⟨q, ?_, hq⟩
    rw [hp x h.1, e, List.replicate_succ]
    rfl
def isEnd : List Value → Bool | [] => true | _ => false
def isWheel (l : List Value) : Bool := match l with
  | a :: b :: c :: r => isZ64 a && (isZ64 b && (isNilM c && runOf isNilSl (runOf isZ32 isEnd 4096) 64 r))
  | _ => false
def zcells (i : TypeInfo) : List Value := match i.zero with | some (.agg a) => a.toList | _ => []
set_option maxRecDepth 100000 in
theorem wheel_chk : isWheel (zcells Try.t50) = true := by kernel_rfl
/-- The cells of a wheel that nobody made. -/
def wzL : List Value := .int .i64 0 :: .int .i64 0 :: .map none :: (List.replicate 64 (.slice none 0 0) ++ List.replicate 4096 (.int .i32 0))
theorem wheel_cells : zcells Try.t50 = wzL := by
  have h := wheel_chk
  generalize zcells Try.t50 = l at *
  match l, h with
  | a :: b :: c :: r, h =>
    unfold isWheel at h
    simp only [Bool.and_eq_true] at h
    obtain ⟨h1, h2, h3, h4⟩ := h
    obtain ⟨q, e, h5⟩ := runOf_eq (fun v => isNilSl_eq) 64 r h4
    obtain ⟨q2, e2, h6⟩ := runOf_eq (fun v => isZ32_eq) 4096 q h5
    have e3 : q2 = [] := by
      cases q2 with
      | nil => rfl
      | cons x y => cases h6
    rw [isZ64_eq h1, isZ64_eq h2, isNilM_eq h3, e, e2, e3, List.append_nil]
    rfl
theorem wheel_zero : (Try.t50).zero = some (.agg wzL.toArray) := by
  have h := wheel_cells
  unfold zcells at h
  split at h
  · rename_i a ha
    rw [ha, ← h]
  · cases h
theorem wzL_len : wzL.length = 4163 := by
  unfold wzL
  simp only [List.length_cons, List.length_append, List.length_replicate]
theorem wzL_row {k : Nat} (hk : k < 64) : wzL[3 + k]? = some (.slice none 0 0) := by
  unfold wzL
  rw [show 3 + k = k + 1 + 1 + 1 by omega]
  simp only [List.getElem?_cons_succ]
  rw [List.getElem?_append_left (by rw [List.length_replicate]; exact hk), List.getElem?_replicate, if_pos hk]
theorem wzL_at {k : Nat} (hk : k < 4096) : wzL[67 + k]? = some (.int .i32 0) := by
  unfold wzL
  rw [show 67 + k = (64 + k) + 1 + 1 + 1 by omega]
  simp only [List.getElem?_cons_succ]
  rw [List.getElem?_append_right (by rw [List.length_replicate]; omega), List.length_replicate, Nat.add_sub_cancel_left, List.getElem?_replicate, if_pos hk]
theorem zero_wheel (w : World) : (zeroValue 50).run Try.prog w = .ok (.agg wzL.toArray) w := by
  have h := wheel_zero
  generalize wzL.toArray = Z at *
  simp only [zeroValue, Sem.run_bind, Try.typeInfo50, Result.andThen_ok, h, Sem.run_pure]
theorem wplaces : ∃ F : Array Field, Try.prog.underlying 50 = some (.struct F) ∧ ∀ w : World, (F.mapM fun (f : Field) => (do pure (f.offset, ← sizeOf f.type) : Sem (Nat × Nat))).run Try.prog w = .ok #[(0, 1), (1, 1), (2, 1), (3, 64), (67, 4096)] w :=
  ⟨_, Try.underlying50, fun w => by kernel_rfl⟩
theorem run_build_none (w : World) : (Instr.build 50 #[]).run Try.prog w = .ok (.agg wzL.toArray) w := by
  have hz := zero_wheel
  obtain ⟨F, hF, hp⟩ := wplaces
  have hu := fun w => run_underlying hF w
  generalize wzL.toArray = Z at *
  simp only [Instr.build, Sem.run_bind, hz, Result.andThen_ok, hu, hp, Instr.fill, Value.cells, Sem.run_pure]
theorem run_build_wheel (G : Int) (bm : Nat) (w : World) : (Instr.build 50 #[(0, .int .i64 G), (2, .map (some bm))]).run Try.prog w = .ok (.agg ((wzL.toArray.setIfInBounds 0 (.int .i64 G)).setIfInBounds 2 (.map (some bm)))) w := by
  have hz := zero_wheel
  obtain ⟨F, hF, hp⟩ := wplaces
  have hu := fun w => run_underlying hF w
  have hs : wzL.toArray.size = 4163 := by rw [List.size_toArray]; exact wzL_len
  generalize wzL.toArray = Z at *
  simp only [Instr.build, Sem.run_bind, hz, Result.andThen_ok, hu, hp]
  simp [Instr.fill, Value.cells, hs]
end Go.Proofs.Ytfpepgeaaadpdaa
