/- For all numbers, cloakroomlaw25.LoadLess returns true and leaves its arguments as they were. No conditions. -/
import Derived.Test.YtiicgnijiiidcaaLoadG
import Derived.Test.YtiicgnijiiidcaaOpenC
import Derived.Test.YtiicgnijiiidcaaBd
import Derived.Test.YtiicgnijiiidcaaRows
import Derived.Test.YtiicgnijiiidcaaFacts
namespace Go.Proofs.Ytiicgnijiiidcaa
open Go Go.RowKit Go.Deep Go.ChangeShapes Go.WideShapes

set_option maxRecDepth 100000 in
theorem loadLess_lifted (os : Os) (started : os.Started) (H : Type) (enc : TypeId × Value → H) :
    ReturnsInHanded {} Try.checked os 13 .any (Rows.loadLessSpec.pre6 enc Try.prog Try.f13 Rows.loadLessRow.domain false)
      (Rows.loadLessSpec.post enc Try.prog Try.f13 false true false false) := by
  refine returnsInHanded_of_change (C := Try.checked) own started (by kernel_rfl) Try.func13
    (ChangeSpec.witness6 (enc := enc) (C := Try.checked) false ⟨#[], #[.agg #[.int .u64 0, .int .u64 0, .int .u64 0], .agg #[.int .u16 0, .int .u16 0, .int .u16 0]], []⟩ 8 (by kernel_rfl) (by kernel_rfl) (by kernel_rfl) (by kernel_rfl)) ?_
  intro W base args ds gs before hval hW _ _
  refine law_post laidOut (by kernel_rfl) rfl rfl Try.underlying4 ?_ hW ?_
  · intro ds hds
    match ds, hds with
    | [d0, d1], _ => exact ⟨rfl, rfl, rfl⟩
  · obtain ⟨p, q, hA, hV, rfl, hfz, hnd⟩ := hW
    replace hA : DataW.TrodAll enc Try.prog W 0 (fun _ => true) true Try.f13.params.toList args.toList ds p := hA
    replace hval : ∀ (j : Nat) t v, Try.f13.params[j]? = some t → args[j]? = some v → Value.okWide Try.prog W .any base t v := hval
    rw [Try.params13] at hA hval
    obtain ⟨v0, vs0, _, ds0, p0, q0, hargs, rfl, rfl, h0, r0⟩ := trodAll_cons hA
    obtain ⟨v1, vs1, _, ds1, p1, q1, rfl, rfl, rfl, h1, r1⟩ := trodAll_cons r0
    obtain ⟨rfl, rfl, rfl⟩ := trodAll_nil r1
    obtain rfl : args = #[v0, v1] := by cases args; simp_all
    obtain ⟨cs0, rfl, _⟩ := okWide_array Try.underlying127 (hval 0 127 v0 rfl rfl)
    obtain ⟨⟨x0_0, x0_1, x0_2, ⟨⟩⟩, hx0⟩ := open_ft (.pair (.int .u64) (.pair (.int .u64) (.pair (.int .u64) .unit))) (by kernel_rfl) h0
    obtain ⟨_, _, hcs0, ⟨rfl, wx0_0⟩, _, _, rfl, ⟨rfl, wx0_1⟩, _, _, rfl, ⟨rfl, wx0_2⟩, rfl⟩ := hx0
    obtain rfl : cs0 = #[.int .u64 x0_0, .int .u64 x0_1, .int .u64 x0_2] := by cases cs0; simpa [Value.cells] using hcs0
    obtain ⟨cs1, rfl, _⟩ := okWide_array Try.underlying128 (hval 1 128 v1 rfl rfl)
    obtain ⟨⟨x1_0, x1_1, x1_2, ⟨⟩⟩, hx1⟩ := open_ft (.pair (.int .u16) (.pair (.int .u16) (.pair (.int .u16) .unit))) (by kernel_rfl) h1
    obtain ⟨_, _, hcs1, ⟨rfl, wx1_0⟩, _, _, rfl, ⟨rfl, wx1_1⟩, _, _, rfl, ⟨rfl, wx1_2⟩, rfl⟩ := hx1
    obtain rfl : cs1 = #[.int .u16 x1_0, .int .u16 x1_1, .int .u16 x1_2] := by cases cs1; simpa [Value.cells] using hcs1
    exact (by exact loadLess_calls x0_0 x0_1 x0_2 x1_0 x1_1 x1_2 W (bd_u64 wx0_0) (bd_u64 wx0_1) (bd_u64 wx0_2) (bd_u16 wx1_0) (bd_u16 wx1_1) (bd_u16 wx1_2))

set_option maxRecDepth 100000 in
set_option maxHeartbeats 4000000 in
theorem loadLess_closed : joinedFacts Try.prog 13 Try.f13 Rows.loadLessSpec Rows.loadLessRow = true := by
  unfold joinedFacts
  repeat' (with_reducible apply and_t)
  all_goals first | with_reducible exact may_enter | ((with_reducible show (_ == Program.liftsFinal _) = true); exact lifts_final) | (as_aux_lemma => kernel_rfl)
theorem loadLess_holds : Rows.LoadLessSaid :=
  OpenClaim.holds_of_wide 13 Try.f13 rfl rfl rfl rfl rfl rfl rfl ⟨rfl, rfl, rfl, rfl, rfl⟩ rfl rfl rfl rfl rfl (by as_aux_lemma => kernel_rfl) Try.func13 loadLess_closed
    (of_decide_eq_true (by kernel_rfl)) (by unfold Func.isWrapper; rw [if_neg (of_decide_eq_false (by kernel_rfl))]; exact ⟨rfl, rfl⟩)
    (fun os started H enc _ => loadLess_lifted os started H enc)
end Go.Proofs.Ytiicgnijiiidcaa
