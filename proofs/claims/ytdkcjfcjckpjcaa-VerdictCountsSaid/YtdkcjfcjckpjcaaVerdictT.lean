/- cloakroomref31: Name. -/
import Derived.Test.YtdkcjfcjckpjcaaVerdictN
namespace Go.Proofs.Ytdkcjfcjckpjcaa
open Go Go.RowKit Go.Deep

theorem refname_in (k : Nat) (h : k < 17) (w : World) : Calls Try.prog 61 #[.int .i64 k] w fun e w' => e = .returned (.string (vNames.getD k ⟨#[]⟩)) ∧ Below w.heap.size w w' := by
  obtain ⟨s, hs⟩ : ∃ s, vNames.getD k ⟨#[]⟩ = s := ⟨_, rfl⟩
  rw [hs]
  have hc : ∀ i, i < 17 → (vNames.map Value.string)[i]? = some (.string (vNames.getD i ⟨#[]⟩)) := fun i hi => by
    have : i < vNames.length := hi
    rw [List.getElem?_map, List.getElem?_eq_getElem this, List.getD_eq_getElem?_getD, List.getElem?_eq_getElem this]
    rfl
  have h2 := hc k h
  rw [hs] at h2
  have hk : ¬ 17 ≤ (k : Int) := by omega
  have hk0 : (k : Int) < 17 := by omega
  clear hc hs
  replace h2 := Lib.hid h2
  go_enter Try.func61, Try.ntmps61
  go_wp2_with fail
  go_ret
  exact ⟨congrArg Ending.returned (Option.some.inj ((List.getElem?_eq_getElem (l := vNames.map Value.string) _).symm.trans h2.out)), (by repeat (first | exact Below.refl _ _ | assumption | refine below_call2 (by assumption) ?_ (by first | omega | (simp; done) | (simp; omega) | (simp [World.setCell]; omega)) | refine below_drewN ?_ _ | refine Below.drew ?_ | refine Below.alloc ?_ (by first | omega | (simp; done) | (simp; omega) | (simp [World.setCell]; omega)) _ | refine Below.setCell ?_ (by first | omega | (simp; done) | (simp; omega) | (simp [World.setCell]; omega)) _))⟩
theorem refname_any (e : Int) (w : World) : Calls Try.prog 61 #[.int .i64 e] w fun x w' => x = .returned (.string (vName e)) ∧ Below w.heap.size w w' := by
  unfold vName
  by_cases h : 0 ≤ e ∧ e ≤ 16
  · rw [if_pos h]
    obtain ⟨k, rfl⟩ : ∃ k : Nat, e = k := ⟨e.toNat, by omega⟩
    exact refname_in k (by omega) w
  · rw [if_neg h]
    by_cases h0 : e < 0
    · clear h
      go_enter Try.func61, Try.ntmps61
      go_wp2_with fail
      go_ret
      exact ⟨rfl, (by repeat (first | exact Below.refl _ _ | assumption | refine below_call2 (by assumption) ?_ (by first | omega | (simp; done) | (simp; omega) | (simp [World.setCell]; omega)) | refine below_drewN ?_ _ | refine Below.drew ?_ | refine Below.alloc ?_ (by first | omega | (simp; done) | (simp; omega) | (simp [World.setCell]; omega)) _ | refine Below.setCell ?_ (by first | omega | (simp; done) | (simp; omega) | (simp [World.setCell]; omega)) _))⟩
    · have h17 : 17 ≤ e := by omega
      clear h
      go_enter Try.func61, Try.ntmps61
      go_wp2_with fail
      go_ret
      exact ⟨rfl, (by repeat (first | exact Below.refl _ _ | assumption | refine below_call2 (by assumption) ?_ (by first | omega | (simp; done) | (simp; omega) | (simp [World.setCell]; omega)) | refine below_drewN ?_ _ | refine Below.drew ?_ | refine Below.alloc ?_ (by first | omega | (simp; done) | (simp; omega) | (simp [World.setCell]; omega)) _ | refine Below.setCell ?_ (by first | omega | (simp; done) | (simp; omega) | (simp [World.setCell]; omega)) _))⟩
end Go.Proofs.Ytdkcjfcjckpjcaa
