/- For every list of backends, key, number of points, hash, tuple and ID, cloakroomlaw51.RingTells returns true and leaves its arguments as they were. No conditions. -/
import Derived.Test.YtnmmjchhinfbpaaRingV
import Derived.Test.YtnmmjchhinfbpaaOpenB
import Derived.Test.YtnmmjchhinfbpaaRows
import Derived.Test.YtnmmjchhinfbpaaFacts
namespace Go.Proofs.Ytnmmjchhinfbpaa
open Go Go.RowKit Go.Deep Go.ChangeShapes Go.WideShapes

set_option maxRecDepth 100000 in
theorem ringTells_lifted (os : Os) (started : os.Started) (H : Type) (enc : TypeId × Value → H) :
    ReturnsInHanded {} Try.checked os 3 .any (Rows.ringTellsSpec.pre6 enc Try.prog Try.f3 Rows.ringTellsRow.domain false)
      (Rows.ringTellsSpec.post enc Try.prog Try.f3 false true false false) := by
  refine returnsInHanded_of_change (C := Try.checked) own started (by kernel_rfl) Try.func3
    (ChangeSpec.witness6 (enc := enc) (C := Try.checked) false ⟨#[], #[.slice none 0 0, .agg #[.int .u64 0, .int .u64 0], .int .i64 0, .int .u64 0, .agg #[.int .i64 0, .bool false, .int .u64 0, .int .u64 0, .bool false, .int .u64 0, .int .u64 0, .int .i64 0, .int .i64 0], .int .i64 0], []⟩ 8 (by kernel_rfl) (by kernel_rfl) (by kernel_rfl) (by kernel_rfl)) ?_
  intro W base args ds gs before hval hW _ _
  refine law_post laidOut (by kernel_rfl) rfl rfl Try.underlying4 ?_ hW ?_
  · intro ds hds
    match ds, hds with
    | [d0, d1, d2, d3, d4, d5], _ => exact ⟨rfl, rfl, rfl⟩
  · obtain ⟨p, q, hA, hV, rfl, hfz, hnd⟩ := hW
    replace hA : DataW.TrodAll enc Try.prog W 0 (fun _ => true) true Try.f3.params.toList args.toList ds p := hA
    replace hval : ∀ (j : Nat) t v, Try.f3.params[j]? = some t → args[j]? = some v → Value.okWide Try.prog W .any base t v := hval
    rw [Try.params3] at hA hval
    obtain ⟨v0, vs0, _, ds0, p0, q0, hargs, rfl, rfl, h0, r0⟩ := trodAll_cons hA
    obtain ⟨v1, vs1, _, ds1, p1, q1, rfl, rfl, rfl, h1, r1⟩ := trodAll_cons r0
    obtain ⟨v2, vs2, _, ds2, p2, q2, rfl, rfl, rfl, h2, r2⟩ := trodAll_cons r1
    obtain ⟨v3, vs3, _, ds3, p3, q3, rfl, rfl, rfl, h3, r3⟩ := trodAll_cons r2
    obtain ⟨v4, vs4, _, ds4, p4, q4, rfl, rfl, rfl, h4, r4⟩ := trodAll_cons r3
    obtain ⟨v5, vs5, _, ds5, p5, q5, rfl, rfl, rfl, h5, r5⟩ := trodAll_cons r4
    obtain ⟨rfl, rfl, rfl⟩ := trodAll_nil r5
    obtain rfl : args = #[v0, v1, v2, v3, v4, v5] := by cases args; simp_all
    obtain ⟨A0, c0, x0, rfl, hr0, hs0, hl0⟩ := open_bks (hval 0 22 v0 rfl rfl) h0
    obtain ⟨cs1, rfl, _⟩ := okWide_struct Try.underlying25 (hval 1 25 v1 rfl rfl)
    obtain ⟨⟨x1_0, x1_1, ⟨⟩⟩, hx1⟩ := open_ft (.pair (.int .u64) (.pair (.int .u64) .unit)) (by kernel_rfl) h1
    obtain ⟨_, _, hcs1, ⟨rfl, wx1_0⟩, _, _, rfl, ⟨rfl, wx1_1⟩, rfl⟩ := hx1
    obtain rfl : cs1 = #[.int .u64 x1_0, .int .u64 x1_1] := by cases cs1; simpa [Value.cells] using hcs1
    obtain ⟨x2, rfl, rfl, _, wx2⟩ := open_int Try.underlying3 (hval 2 3 v2 rfl rfl) h2
    obtain ⟨x3, rfl, rfl, _, wx3⟩ := open_int Try.underlying23 (hval 3 23 v3 rfl rfl) h3
    obtain ⟨cs4, rfl, _⟩ := okWide_struct Try.underlying29 (hval 4 29 v4 rfl rfl)
    obtain ⟨⟨x4_0, ⟨x4_1_0, x4_1_1, x4_1_2, ⟨⟩⟩, ⟨x4_2_0, x4_2_1, x4_2_2, ⟨⟩⟩, x4_3, x4_4, ⟨⟩⟩, hx4⟩ := open_ft (.pair (.int .i64) (.pair (.pair .bool (.pair (.int .u64) (.pair (.int .u64) .unit))) (.pair (.pair .bool (.pair (.int .u64) (.pair (.int .u64) .unit))) (.pair (.int .i64) (.pair (.int .i64) .unit))))) (by kernel_rfl) h4
    obtain ⟨_, _, hcs4, ⟨rfl, wx4_0⟩, _, _, rfl, ⟨_, _, rfl, rfl, _, _, rfl, ⟨rfl, wx4_1_1⟩, _, _, rfl, ⟨rfl, wx4_1_2⟩, rfl⟩, _, _, rfl, ⟨_, _, rfl, rfl, _, _, rfl, ⟨rfl, wx4_2_1⟩, _, _, rfl, ⟨rfl, wx4_2_2⟩, rfl⟩, _, _, rfl, ⟨rfl, wx4_3⟩, _, _, rfl, ⟨rfl, wx4_4⟩, rfl⟩ := hx4
    obtain rfl : cs4 = #[.int .i64 x4_0, .bool x4_1_0, .int .u64 x4_1_1, .int .u64 x4_1_2, .bool x4_2_0, .int .u64 x4_2_1, .int .u64 x4_2_2, .int .i64 x4_3, .int .i64 x4_4] := by cases cs4; simpa [Value.cells] using hcs4
    obtain ⟨x5, rfl, rfl, _, wx5⟩ := open_int Try.underlying3 (hval 5 3 v5 rfl rfl) h5
    exact (by obtain ⟨m1, rfl, q1⟩ := wf_u64S wx4_1_1; obtain ⟨m2, rfl, q2⟩ := wf_u64S wx4_1_2; obtain ⟨m3, rfl, q3⟩ := wf_u64S wx4_2_1; obtain ⟨m4, rfl, q4⟩ := wf_u64S wx4_2_2; exact ringTells_calls x0 A0 c0 x1_0 x1_1 x2 x3 x5 ⟨x4_0, x4_1_0, m1, m2, x4_2_0, m3, m4, x4_3, x4_4⟩ W hr0 hl0 q1 q2 q3 q4)

set_option maxRecDepth 100000 in
set_option maxHeartbeats 4000000 in
theorem ringTells_closed : joinedFacts Try.prog 3 Try.f3 Rows.ringTellsSpec Rows.ringTellsRow = true := by
  unfold joinedFacts
  repeat' (with_reducible apply and_t)
  all_goals first | with_reducible exact may_enter | ((with_reducible show (_ == Program.liftsFinal _) = true); exact lifts_final) | (as_aux_lemma => kernel_rfl)
theorem ringTells_holds : Rows.RingTellsSaid :=
  OpenClaim.holds_of_wide 3 Try.f3 rfl rfl rfl rfl rfl rfl rfl ⟨rfl, rfl, rfl, rfl, rfl⟩ rfl rfl rfl rfl rfl (by as_aux_lemma => kernel_rfl) Try.func3 ringTells_closed
    (of_decide_eq_true (by kernel_rfl)) (by unfold Func.isWrapper; rw [if_neg (of_decide_eq_false (by kernel_rfl))]; exact ⟨rfl, rfl⟩)
    (fun os started H enc _ => ringTells_lifted os started H enc)
end Go.Proofs.Ytnmmjchhinfbpaa
