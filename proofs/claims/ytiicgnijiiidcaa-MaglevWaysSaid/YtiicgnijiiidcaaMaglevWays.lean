/- For all keys, numbers and both sizes, cloakroomlaw29.MaglevWays returns true and leaves its arguments as they were. No conditions. -/
import Derived.Test.YtiicgnijiiidcaaMagR
import Derived.Test.YtiicgnijiiidcaaBd
import Derived.Test.YtiicgnijiiidcaaRows
import Derived.Test.YtiicgnijiiidcaaFacts
namespace Go.Proofs.Ytiicgnijiiidcaa
open Go Go.RowKit Go.Deep Go.ChangeShapes Go.WideShapes

set_option maxRecDepth 100000 in
theorem maglevWays_lifted (os : Os) (started : os.Started) (H : Type) (enc : TypeId × Value → H) :
    ReturnsInHanded {} Try.checked os 7 .any (Rows.maglevWaysSpec.pre6 enc Try.prog Try.f7 Rows.maglevWaysRow.domain false)
      (Rows.maglevWaysSpec.post enc Try.prog Try.f7 false true false false) := by
  refine returnsInHanded_of_change (C := Try.checked) own started (by kernel_rfl) Try.func7
    (ChangeSpec.witness6 (enc := enc) (C := Try.checked) false ⟨#[], #[.agg #[.int .u64 0, .int .u64 0], .int .u16 0, .bool false], []⟩ 8 (by kernel_rfl) (by kernel_rfl) (by kernel_rfl) (by kernel_rfl)) ?_
  intro W base args ds gs before hval hW _ _
  refine law_post laidOut (by kernel_rfl) rfl rfl Try.underlying4 ?_ hW ?_
  · intro ds hds
    match ds, hds with
    | [d0, d1, d2], _ => exact ⟨rfl, rfl, rfl⟩
  · obtain ⟨p, q, hA, hV, rfl, hfz, hnd⟩ := hW
    replace hA : DataW.TrodAll enc Try.prog W 0 (fun _ => true) true Try.f7.params.toList args.toList ds p := hA
    replace hval : ∀ (j : Nat) t v, Try.f7.params[j]? = some t → args[j]? = some v → Value.okWide Try.prog W .any base t v := hval
    rw [Try.params7] at hA hval
    obtain ⟨v0, vs0, _, ds0, p0, q0, hargs, rfl, rfl, h0, r0⟩ := trodAll_cons hA
    obtain ⟨v1, vs1, _, ds1, p1, q1, rfl, rfl, rfl, h1, r1⟩ := trodAll_cons r0
    obtain ⟨v2, vs2, _, ds2, p2, q2, rfl, rfl, rfl, h2, r2⟩ := trodAll_cons r1
    obtain ⟨rfl, rfl, rfl⟩ := trodAll_nil r2
    obtain rfl : args = #[v0, v1, v2] := by cases args; simp_all
    obtain ⟨cs0, rfl, _⟩ := okWide_struct Try.underlying25 (hval 0 25 v0 rfl rfl)
    obtain ⟨⟨x0_0, x0_1, ⟨⟩⟩, hx0⟩ := open_ft (.pair (.int .u64) (.pair (.int .u64) .unit)) (by kernel_rfl) h0
    obtain ⟨_, _, hcs0, ⟨rfl, wx0_0⟩, _, _, rfl, ⟨rfl, wx0_1⟩, rfl⟩ := hx0
    obtain rfl : cs0 = #[.int .u64 x0_0, .int .u64 x0_1] := by cases cs0; simpa [Value.cells] using hcs0
    obtain ⟨x1, rfl, rfl, _, wx1⟩ := open_int Try.underlying66 (hval 1 66 v1 rfl rfl) h1
    obtain ⟨x2, rfl, rfl, _⟩ := open_bool Try.underlying4 (hval 2 4 v2 rfl rfl) h2
    exact (by obtain ⟨h1, h2⟩ := bd_u16 wx1; obtain ⟨n, rfl⟩ := Int.eq_ofNat_of_zero_le h1; cases x2; exact maglevWays_false x0_0 x0_1 n W (by omega); exact maglevWays_true x0_0 x0_1 n W (by omega))

set_option maxRecDepth 100000 in
set_option maxHeartbeats 4000000 in
theorem maglevWays_closed : joinedFacts Try.prog 7 Try.f7 Rows.maglevWaysSpec Rows.maglevWaysRow = true := by
  unfold joinedFacts
  repeat' (with_reducible apply and_t)
  all_goals first | with_reducible exact may_enter | ((with_reducible show (_ == Program.liftsFinal _) = true); exact lifts_final) | (as_aux_lemma => kernel_rfl)
theorem maglevWays_holds : Rows.MaglevWaysSaid :=
  OpenClaim.holds_of_wide 7 Try.f7 rfl rfl rfl rfl rfl rfl rfl ⟨rfl, rfl, rfl, rfl, rfl⟩ rfl rfl rfl rfl rfl (by as_aux_lemma => kernel_rfl) Try.func7 maglevWays_closed
    (of_decide_eq_true (by kernel_rfl)) (by unfold Func.isWrapper; rw [if_neg (of_decide_eq_false (by kernel_rfl))]; exact ⟨rfl, rfl⟩)
    (fun os started H enc _ => maglevWays_lifted os started H enc)
end Go.Proofs.Ytiicgnijiiidcaa
