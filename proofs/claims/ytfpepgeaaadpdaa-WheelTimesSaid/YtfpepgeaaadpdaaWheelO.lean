/- wheel: the document's Set. -/
import Derived.Test.YtfpepgeaaadpdaaWheelN
namespace Go.Proofs.Ytfpepgeaaadpdaa
open Go Go.RowKit Go.Deep Go.Maps Go.ChangeMaps

theorem slice_from_int (A : Option Addr) (n c k : Nat) (hk : k ≤ n) (hc : n ≤ c) : ∃ A2 c2, (∀ W, (Instr.slice 34 (.slice A n c) (some (.int .i64 (k : Int))) none none).run Try.prog W = .ok (.slice A2 (n - k) c2) W) ∧ ∀ (W : World) (B : Nat) (xs : List Value), Reads W B 1 A n xs → Reads W B 1 A2 (n - k) (xs.drop k) := by
  refine ⟨if c = k then A else A.map (·.add (k * 1)), c - k, fun W => ?_, fun W B xs h => ?_⟩
  · rw [run_slice_l _ _ _ _ _ (by kernel_rfl) .i64 (k : Int) (by omega) (by omega)]
    have : (sizeOf (Try.prog.elem 34)).run Try.prog W = .ok 1 W := by
      first | rfl | exact Try.sizeOf3 W | simp [go_sem]
    rw [this]
    simp [Result.andThen, sliced]
  · have := h.cut (k := k) hk hc
    simpa using this
theorem own_cap {w : World} {base c : Nat} {A : Option Addr} {l : List Int} (h : OwnI w base A c l) : l.length ≤ c := by
  rcases h.2 with ⟨h2, h3⟩ | ⟨g', cap', cur, hv, hb, hh, hc, hm, hs, hx⟩
  · simp only [Value.slice.injEq] at h2
    omega
  · simp only [Value.slice.injEq] at hv
    rw [hv.2.2]
    exact hc
theorem lmIns_at {id due : Int} : ∀ (M : LM) (k : Nat), k ≤ M.length → (∀ j (_ : j < k) (h : j < M.length), M[j].1 < id) → (∀ h : k < M.length, id < M[k].1) → lmIns (id, due) M = M.take k ++ (id, due) :: M.drop k
  | [], 0, _, _, _ => rfl
  | [], k + 1, h, _, _ => absurd h (by simp)
  | y :: r, 0, _, _, h => by
    have h3 : id < y.1 := h (by simp)
    unfold lmIns
    rw [if_pos (show (id, due).1 < y.1 from h3)]
    rfl
  | y :: r, k + 1, hk, h1, h2 => by
    have h3 : y.1 < id := h1 0 (by omega) (by simp)
    unfold lmIns
    rw [if_neg (by show ¬ id < y.1; omega), lmIns_at r k (by simpa using hk) (fun j hj h => h1 (j + 1) (by omega) (by simpa using h)) (fun h => h2 (by simpa using h))]
    rfl
section
variable {w w' : World} {g : Nat} {G now : Int} {M : LM} {A : Option Addr} {c : Nat} {B : Option Addr} {d : Nat}
theorem refwheel_set_no (g : Nat) (w : World) (id due : Int) (hb : setOk id due = false) :
    Calls Try.prog 9 #[.pointer (some ⟨g, 0, none⟩), .int .i64 id, .int .i64 due] w fun e w' => e = .returned (.bool false) ∧ w = w' := by
  unfold setOk at hb
  rw [decide_eq_false_iff_not] at hb
  by_cases h1 : id < 0
  · have d1 : decide (id < 0) = true := by simpa using h1
    clear hb
    go_enter Try.func9, Try.ntmps9
    go_wp2_with fail
    go_ret
    exact ⟨rfl, rfl⟩
  have d1 : decide (id < 0) = false := by simpa using h1
  by_cases h2 : 4095 < id
  · have d2 : decide (4095 < id) = true := by simpa using h2
    clear hb
    go_enter Try.func9, Try.ntmps9
    go_wp2_with fail
    go_ret
    exact ⟨rfl, rfl⟩
  have d2 : decide (4095 < id) = false := by simpa using h2
  by_cases h3 : due < 0
  · have d3 : decide (due < 0) = true := by simpa using h3
    clear hb
    go_enter Try.func9, Try.ntmps9
    go_wp2_with fail
    go_ret
    exact ⟨rfl, rfl⟩
  have d3 : decide (due < 0) = false := by simpa using h3
  have h4 : 2199023255552 < due := by omega
  have d4 : decide (2199023255552 < due) = true := by simpa using h4
  clear hb
  go_enter Try.func9, Try.ntmps9
  go_wp2_with fail
  go_ret
  exact ⟨rfl, rfl⟩
end
end Go.Proofs.Ytfpepgeaaadpdaa
