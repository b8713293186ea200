/- For every policy, key, tuple, draws, ID and weight, cloakroomlaw30.PolicyOne returns true and leaves its arguments as they were. No conditions. -/
import Derived.Test.YtkpkjpdhlmjchaaPolI
import Derived.Test.YtkpkjpdhlmjchaaOpenB
import Derived.Test.YtkpkjpdhlmjchaaRows
import Derived.Test.YtkpkjpdhlmjchaaFacts
namespace Go.Proofs.Ytkpkjpdhlmjchaa
open Go Go.RowKit Go.Deep Go.ChangeShapes Go.WideShapes

set_option maxRecDepth 100000 in
theorem policyOne_lifted (os : Os) (started : os.Started) (H : Type) (enc : TypeId × Value → H) :
    ReturnsInHanded {} Try.checked os 7 .any (Rows.policyOneSpec.pre6 enc Try.prog Try.f7 Rows.policyOneRow.domain false)
      (Rows.policyOneSpec.post enc Try.prog Try.f7 false true false false) := by
  refine returnsInHanded_of_change (C := Try.checked) own started (by kernel_rfl) Try.func7
    (ChangeSpec.witness6 (enc := enc) (C := Try.checked) false ⟨#[], #[.agg #[.int .i64 0, .int .i64 0], .agg #[.int .u64 0, .int .u64 0], .agg #[.int .i64 0, .bool false, .int .u64 0, .int .u64 0, .bool false, .int .u64 0, .int .u64 0, .int .i64 0, .int .i64 0], .int .u64 0, .int .u64 0, .int .u16 0, .int .u16 0], []⟩ 8 (by kernel_rfl) (by kernel_rfl) (by kernel_rfl) (by kernel_rfl)) ?_
  intro W base args ds gs before hval hW _ _
  refine law_post laidOut (by kernel_rfl) rfl rfl Try.underlying4 ?_ hW ?_
  · intro ds hds
    match ds, hds with
    | [d0, d1, d2, d3, d4, d5, d6], _ => exact ⟨rfl, rfl, rfl⟩
  · obtain ⟨p, q, hA, hV, rfl, hfz, hnd⟩ := hW
    replace hA : DataW.TrodAll enc Try.prog W 0 (fun _ => true) true Try.f7.params.toList args.toList ds p := hA
    replace hval : ∀ (j : Nat) t v, Try.f7.params[j]? = some t → args[j]? = some v → Value.okWide Try.prog W .any base t v := hval
    rw [Try.params7] at hA hval
    obtain ⟨v0, vs0, _, ds0, p0, q0, hargs, rfl, rfl, h0, r0⟩ := trodAll_cons hA
    obtain ⟨v1, vs1, _, ds1, p1, q1, rfl, rfl, rfl, h1, r1⟩ := trodAll_cons r0
    obtain ⟨v2, vs2, _, ds2, p2, q2, rfl, rfl, rfl, h2, r2⟩ := trodAll_cons r1
    obtain ⟨v3, vs3, _, ds3, p3, q3, rfl, rfl, rfl, h3, r3⟩ := trodAll_cons r2
    obtain ⟨v4, vs4, _, ds4, p4, q4, rfl, rfl, rfl, h4, r4⟩ := trodAll_cons r3
    obtain ⟨v5, vs5, _, ds5, p5, q5, rfl, rfl, rfl, h5, r5⟩ := trodAll_cons r4
    obtain ⟨v6, vs6, _, ds6, p6, q6, rfl, rfl, rfl, h6, r6⟩ := trodAll_cons r5
    obtain ⟨rfl, rfl, rfl⟩ := trodAll_nil r6
    obtain rfl : args = #[v0, v1, v2, v3, v4, v5, v6] := by cases args; simp_all
    obtain ⟨cs0, rfl, _⟩ := okWide_struct Try.underlying80 (hval 0 80 v0 rfl rfl)
    obtain ⟨⟨x0_0, x0_1, ⟨⟩⟩, hx0⟩ := open_ft (.pair (.int .i64) (.pair (.int .i64) .unit)) (by kernel_rfl) h0
    obtain ⟨_, _, hcs0, ⟨rfl, wx0_0⟩, _, _, rfl, ⟨rfl, wx0_1⟩, rfl⟩ := hx0
    obtain rfl : cs0 = #[.int .i64 x0_0, .int .i64 x0_1] := by cases cs0; simpa [Value.cells] using hcs0
    obtain ⟨cs1, rfl, _⟩ := okWide_struct Try.underlying25 (hval 1 25 v1 rfl rfl)
    obtain ⟨⟨x1_0, x1_1, ⟨⟩⟩, hx1⟩ := open_ft (.pair (.int .u64) (.pair (.int .u64) .unit)) (by kernel_rfl) h1
    obtain ⟨_, _, hcs1, ⟨rfl, wx1_0⟩, _, _, rfl, ⟨rfl, wx1_1⟩, rfl⟩ := hx1
    obtain rfl : cs1 = #[.int .u64 x1_0, .int .u64 x1_1] := by cases cs1; simpa [Value.cells] using hcs1
    obtain ⟨cs2, rfl, _⟩ := okWide_struct Try.underlying82 (hval 2 82 v2 rfl rfl)
    obtain ⟨⟨x2_0, ⟨x2_1_0, x2_1_1, x2_1_2, ⟨⟩⟩, ⟨x2_2_0, x2_2_1, x2_2_2, ⟨⟩⟩, x2_3, x2_4, ⟨⟩⟩, hx2⟩ := open_ft (.pair (.int .i64) (.pair (.pair .bool (.pair (.int .u64) (.pair (.int .u64) .unit))) (.pair (.pair .bool (.pair (.int .u64) (.pair (.int .u64) .unit))) (.pair (.int .i64) (.pair (.int .i64) .unit))))) (by kernel_rfl) h2
    obtain ⟨_, _, hcs2, ⟨rfl, wx2_0⟩, _, _, rfl, ⟨_, _, rfl, rfl, _, _, rfl, ⟨rfl, wx2_1_1⟩, _, _, rfl, ⟨rfl, wx2_1_2⟩, rfl⟩, _, _, rfl, ⟨_, _, rfl, rfl, _, _, rfl, ⟨rfl, wx2_2_1⟩, _, _, rfl, ⟨rfl, wx2_2_2⟩, rfl⟩, _, _, rfl, ⟨rfl, wx2_3⟩, _, _, rfl, ⟨rfl, wx2_4⟩, rfl⟩ := hx2
    obtain rfl : cs2 = #[.int .i64 x2_0, .bool x2_1_0, .int .u64 x2_1_1, .int .u64 x2_1_2, .bool x2_2_0, .int .u64 x2_2_1, .int .u64 x2_2_2, .int .i64 x2_3, .int .i64 x2_4] := by cases cs2; simpa [Value.cells] using hcs2
    obtain ⟨x3, rfl, rfl, _, wx3⟩ := open_int Try.underlying23 (hval 3 23 v3 rfl rfl) h3
    obtain ⟨x4, rfl, rfl, _, wx4⟩ := open_int Try.underlying23 (hval 4 23 v4 rfl rfl) h4
    obtain ⟨x5, rfl, rfl, _, wx5⟩ := open_int Try.underlying83 (hval 5 83 v5 rfl rfl) h5
    obtain ⟨x6, rfl, rfl, _, wx6⟩ := open_int Try.underlying83 (hval 6 83 v6 rfl rfl) h6
    exact (by obtain ⟨m1, rfl, y1⟩ := wf_u64 wx2_1_1; obtain ⟨m2, rfl, y2⟩ := wf_u64 wx2_1_2; obtain ⟨m3, rfl, y3⟩ := wf_u64 wx2_2_1; obtain ⟨m4, rfl, y4⟩ := wf_u64 wx2_2_2; exact policyOne_calls x0_0 x0_1 x1_0 x1_1 ⟨x2_0, x2_1_0, m1, m2, x2_2_0, m3, m4, x2_3, x2_4⟩ x3 x4 x5 x6 W (bd_u64x wx3) (bd_u64x wx4) (bd_u16x wx5) (bd_u16x wx6))

set_option maxRecDepth 100000 in
set_option maxHeartbeats 4000000 in
theorem policyOne_closed : joinedFacts Try.prog 7 Try.f7 Rows.policyOneSpec Rows.policyOneRow = true := by
  unfold joinedFacts
  repeat' (with_reducible apply and_t)
  all_goals first | with_reducible exact may_enter | ((with_reducible show (_ == Program.liftsFinal _) = true); exact lifts_final) | (as_aux_lemma => kernel_rfl)
theorem policyOne_holds : Rows.PolicyOneSaid :=
  OpenClaim.holds_of_wide 7 Try.f7 rfl rfl rfl rfl rfl rfl rfl ⟨rfl, rfl, rfl, rfl, rfl⟩ rfl rfl rfl rfl rfl (by as_aux_lemma => kernel_rfl) Try.func7 policyOne_closed
    (of_decide_eq_true (by kernel_rfl)) (by unfold Func.isWrapper; rw [if_neg (of_decide_eq_false (by kernel_rfl))]; exact ⟨rfl, rfl⟩)
    (fun os started H enc _ => policyOne_lifted os started H enc)
end Go.Proofs.Ytkpkjpdhlmjchaa
