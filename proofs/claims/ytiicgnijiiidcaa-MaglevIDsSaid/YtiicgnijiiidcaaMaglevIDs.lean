/- For all lists of backends, keys, both sizes, all weights, versions and tuples, cloakroomlaw29.MaglevIDs returns true and leaves its arguments as they were. No conditions. -/
import Derived.Test.YtiicgnijiiidcaaMagQ
import Derived.Test.YtiicgnijiiidcaaOpenB
import Derived.Test.YtiicgnijiiidcaaBd
import Derived.Test.YtiicgnijiiidcaaRows
import Derived.Test.YtiicgnijiiidcaaFacts
namespace Go.Proofs.Ytiicgnijiiidcaa
open Go Go.RowKit Go.Deep Go.ChangeShapes Go.WideShapes

set_option maxRecDepth 100000 in
theorem maglevIDs_lifted (os : Os) (started : os.Started) (H : Type) (enc : TypeId × Value → H) :
    ReturnsInHanded {} Try.checked os 8 .any (Rows.maglevIDsSpec.pre6 enc Try.prog Try.f8 Rows.maglevIDsRow.domain false)
      (Rows.maglevIDsSpec.post enc Try.prog Try.f8 false true false false) := by
  refine returnsInHanded_of_change (C := Try.checked) own started (by kernel_rfl) Try.func8
    (ChangeSpec.witness6 (enc := enc) (C := Try.checked) false ⟨#[], #[.slice none 0 0, .agg #[.int .u64 0, .int .u64 0], .bool false, .int .u16 0, .int .i64 0, .agg #[.int .i64 0, .bool false, .int .u64 0, .int .u64 0, .bool false, .int .u64 0, .int .u64 0, .int .i64 0, .int .i64 0]], []⟩ 8 (by kernel_rfl) (by kernel_rfl) (by kernel_rfl) (by kernel_rfl)) ?_
  intro W base args ds gs before hval hW _ _
  refine law_post laidOut (by kernel_rfl) rfl rfl Try.underlying4 ?_ hW ?_
  · intro ds hds
    match ds, hds with
    | [d0, d1, d2, d3, d4, d5], _ => exact ⟨rfl, rfl, rfl⟩
  · obtain ⟨p, q, hA, hV, rfl, hfz, hnd⟩ := hW
    replace hA : DataW.TrodAll enc Try.prog W 0 (fun _ => true) true Try.f8.params.toList args.toList ds p := hA
    replace hval : ∀ (j : Nat) t v, Try.f8.params[j]? = some t → args[j]? = some v → Value.okWide Try.prog W .any base t v := hval
    rw [Try.params8] at hA hval
    obtain ⟨v0, vs0, _, ds0, p0, q0, hargs, rfl, rfl, h0, r0⟩ := trodAll_cons hA
    obtain ⟨v1, vs1, _, ds1, p1, q1, rfl, rfl, rfl, h1, r1⟩ := trodAll_cons r0
    obtain ⟨v2, vs2, _, ds2, p2, q2, rfl, rfl, rfl, h2, r2⟩ := trodAll_cons r1
    obtain ⟨v3, vs3, _, ds3, p3, q3, rfl, rfl, rfl, h3, r3⟩ := trodAll_cons r2
    obtain ⟨v4, vs4, _, ds4, p4, q4, rfl, rfl, rfl, h4, r4⟩ := trodAll_cons r3
    obtain ⟨v5, vs5, _, ds5, p5, q5, rfl, rfl, rfl, h5, r5⟩ := trodAll_cons r4
    obtain ⟨rfl, rfl, rfl⟩ := trodAll_nil r5
    obtain rfl : args = #[v0, v1, v2, v3, v4, v5] := by cases args; simp_all
    obtain ⟨A0, c0, x0, rfl, hr0, hs0, hl0⟩ := open_bks (hval 0 22 v0 rfl rfl) h0
    obtain ⟨cs1, rfl, _⟩ := okWide_struct Try.underlying25 (hval 1 25 v1 rfl rfl)
    obtain ⟨⟨x1_0, x1_1, ⟨⟩⟩, hx1⟩ := open_ft (.pair (.int .u64) (.pair (.int .u64) .unit)) (by kernel_rfl) h1
    obtain ⟨_, _, hcs1, ⟨rfl, wx1_0⟩, _, _, rfl, ⟨rfl, wx1_1⟩, rfl⟩ := hx1
    obtain rfl : cs1 = #[.int .u64 x1_0, .int .u64 x1_1] := by cases cs1; simpa [Value.cells] using hcs1
    obtain ⟨x2, rfl, rfl, _⟩ := open_bool Try.underlying4 (hval 2 4 v2 rfl rfl) h2
    obtain ⟨x3, rfl, rfl, _, wx3⟩ := open_int Try.underlying66 (hval 3 66 v3 rfl rfl) h3
    obtain ⟨x4, rfl, rfl, _, wx4⟩ := open_int Try.underlying3 (hval 4 3 v4 rfl rfl) h4
    obtain ⟨cs5, rfl, _⟩ := okWide_struct Try.underlying50 (hval 5 50 v5 rfl rfl)
    obtain ⟨⟨x5_0, ⟨x5_1_0, x5_1_1, x5_1_2, ⟨⟩⟩, ⟨x5_2_0, x5_2_1, x5_2_2, ⟨⟩⟩, x5_3, x5_4, ⟨⟩⟩, hx5⟩ := open_ft (.pair (.int .i64) (.pair (.pair .bool (.pair (.int .u64) (.pair (.int .u64) .unit))) (.pair (.pair .bool (.pair (.int .u64) (.pair (.int .u64) .unit))) (.pair (.int .i64) (.pair (.int .i64) .unit))))) (by kernel_rfl) h5
    obtain ⟨_, _, hcs5, ⟨rfl, wx5_0⟩, _, _, rfl, ⟨_, _, rfl, rfl, _, _, rfl, ⟨rfl, wx5_1_1⟩, _, _, rfl, ⟨rfl, wx5_1_2⟩, rfl⟩, _, _, rfl, ⟨_, _, rfl, rfl, _, _, rfl, ⟨rfl, wx5_2_1⟩, _, _, rfl, ⟨rfl, wx5_2_2⟩, rfl⟩, _, _, rfl, ⟨rfl, wx5_3⟩, _, _, rfl, ⟨rfl, wx5_4⟩, rfl⟩ := hx5
    obtain rfl : cs5 = #[.int .i64 x5_0, .bool x5_1_0, .int .u64 x5_1_1, .int .u64 x5_1_2, .bool x5_2_0, .int .u64 x5_2_1, .int .u64 x5_2_2, .int .i64 x5_3, .int .i64 x5_4] := by cases cs5; simpa [Value.cells] using hcs5
    exact (by obtain ⟨m1, rfl, y1⟩ := wf_u64 wx5_1_1; obtain ⟨m2, rfl, y2⟩ := wf_u64 wx5_1_2; obtain ⟨m3, rfl, y3⟩ := wf_u64 wx5_2_1; obtain ⟨m4, rfl, y4⟩ := wf_u64 wx5_2_2; cases x2; exact maglevIDs_false x0 A0 c0 x1_0 x1_1 x3 x4 ⟨x5_0, x5_1_0, m1, m2, x5_2_0, m3, m4, x5_3, x5_4⟩ W hr0 hl0 (bd_u16 wx3); exact maglevIDs_true x0 A0 c0 x1_0 x1_1 x3 x4 ⟨x5_0, x5_1_0, m1, m2, x5_2_0, m3, m4, x5_3, x5_4⟩ W hr0 hl0 (bd_u16 wx3))

set_option maxRecDepth 100000 in
set_option maxHeartbeats 4000000 in
theorem maglevIDs_closed : joinedFacts Try.prog 8 Try.f8 Rows.maglevIDsSpec Rows.maglevIDsRow = true := by
  unfold joinedFacts
  repeat' (with_reducible apply and_t)
  all_goals first | with_reducible exact may_enter | ((with_reducible show (_ == Program.liftsFinal _) = true); exact lifts_final) | (as_aux_lemma => kernel_rfl)
theorem maglevIDs_holds : Rows.MaglevIDsSaid :=
  OpenClaim.holds_of_wide 8 Try.f8 rfl rfl rfl rfl rfl rfl rfl ⟨rfl, rfl, rfl, rfl, rfl⟩ rfl rfl rfl rfl rfl (by as_aux_lemma => kernel_rfl) Try.func8 maglevIDs_closed
    (of_decide_eq_true (by kernel_rfl)) (by unfold Func.isWrapper; rw [if_neg (of_decide_eq_false (by kernel_rfl))]; exact ⟨rfl, rfl⟩)
    (fun os started H enc _ => maglevIDs_lifted os started H enc)
end Go.Proofs.Ytiicgnijiiidcaa
