/- For all lists of backends, keys, numbers and tuples, cloakroomlaw29.MaglevTells returns true and leaves its arguments as they were. No conditions. -/
import Derived.Test.YtiicgnijiiidcaaMagT
import Derived.Test.YtiicgnijiiidcaaOpenB
import Derived.Test.YtiicgnijiiidcaaRows
import Derived.Test.YtiicgnijiiidcaaFacts
namespace Go.Proofs.Ytiicgnijiiidcaa
open Go Go.RowKit Go.Deep Go.ChangeShapes Go.WideShapes

set_option maxRecDepth 100000 in
theorem maglevTells_lifted (os : Os) (started : os.Started) (H : Type) (enc : TypeId × Value → H) :
    ReturnsInHanded {} Try.checked os 5 .any (Rows.maglevTellsSpec.pre6 enc Try.prog Try.f5 Rows.maglevTellsRow.domain false)
      (Rows.maglevTellsSpec.post enc Try.prog Try.f5 false true false false) := by
  refine returnsInHanded_of_change (C := Try.checked) own started (by kernel_rfl) Try.func5
    (ChangeSpec.witness6 (enc := enc) (C := Try.checked) false ⟨#[], #[.slice none 0 0, .slice none 0 0, .agg #[.int .u64 0, .int .u64 0], .int .i64 0, .agg #[.int .i64 0, .bool false, .int .u64 0, .int .u64 0, .bool false, .int .u64 0, .int .u64 0, .int .i64 0, .int .i64 0]], []⟩ 8 (by kernel_rfl) (by kernel_rfl) (by kernel_rfl) (by kernel_rfl)) ?_
  intro W base args ds gs before hval hW _ _
  refine law_post laidOut (by kernel_rfl) rfl rfl Try.underlying4 ?_ hW ?_
  · intro ds hds
    match ds, hds with
    | [d0, d1, d2, d3, d4], _ => exact ⟨rfl, rfl, rfl⟩
  · obtain ⟨p, q, hA, hV, rfl, hfz, hnd⟩ := hW
    replace hA : DataW.TrodAll enc Try.prog W 0 (fun _ => true) true Try.f5.params.toList args.toList ds p := hA
    replace hval : ∀ (j : Nat) t v, Try.f5.params[j]? = some t → args[j]? = some v → Value.okWide Try.prog W .any base t v := hval
    rw [Try.params5] at hA hval
    obtain ⟨v0, vs0, _, ds0, p0, q0, hargs, rfl, rfl, h0, r0⟩ := trodAll_cons hA
    obtain ⟨v1, vs1, _, ds1, p1, q1, rfl, rfl, rfl, h1, r1⟩ := trodAll_cons r0
    obtain ⟨v2, vs2, _, ds2, p2, q2, rfl, rfl, rfl, h2, r2⟩ := trodAll_cons r1
    obtain ⟨v3, vs3, _, ds3, p3, q3, rfl, rfl, rfl, h3, r3⟩ := trodAll_cons r2
    obtain ⟨v4, vs4, _, ds4, p4, q4, rfl, rfl, rfl, h4, r4⟩ := trodAll_cons r3
    obtain ⟨rfl, rfl, rfl⟩ := trodAll_nil r4
    obtain rfl : args = #[v0, v1, v2, v3, v4] := by cases args; simp_all
    obtain ⟨A0, c0, x0, rfl, hr0, hs0, hl0⟩ := open_bks (hval 0 22 v0 rfl rfl) h0
    obtain ⟨A1, c1, x1, rfl, hr1, hs1, hl1⟩ := open_bks (hval 1 22 v1 rfl rfl) h1
    obtain ⟨cs2, rfl, _⟩ := okWide_struct Try.underlying25 (hval 2 25 v2 rfl rfl)
    obtain ⟨⟨x2_0, x2_1, ⟨⟩⟩, hx2⟩ := open_ft (.pair (.int .u64) (.pair (.int .u64) .unit)) (by kernel_rfl) h2
    obtain ⟨_, _, hcs2, ⟨rfl, wx2_0⟩, _, _, rfl, ⟨rfl, wx2_1⟩, rfl⟩ := hx2
    obtain rfl : cs2 = #[.int .u64 x2_0, .int .u64 x2_1] := by cases cs2; simpa [Value.cells] using hcs2
    obtain ⟨x3, rfl, rfl, _, wx3⟩ := open_int Try.underlying3 (hval 3 3 v3 rfl rfl) h3
    obtain ⟨cs4, rfl, _⟩ := okWide_struct Try.underlying50 (hval 4 50 v4 rfl rfl)
    obtain ⟨⟨x4_0, ⟨x4_1_0, x4_1_1, x4_1_2, ⟨⟩⟩, ⟨x4_2_0, x4_2_1, x4_2_2, ⟨⟩⟩, x4_3, x4_4, ⟨⟩⟩, hx4⟩ := open_ft (.pair (.int .i64) (.pair (.pair .bool (.pair (.int .u64) (.pair (.int .u64) .unit))) (.pair (.pair .bool (.pair (.int .u64) (.pair (.int .u64) .unit))) (.pair (.int .i64) (.pair (.int .i64) .unit))))) (by kernel_rfl) h4
    obtain ⟨_, _, hcs4, ⟨rfl, wx4_0⟩, _, _, rfl, ⟨_, _, rfl, rfl, _, _, rfl, ⟨rfl, wx4_1_1⟩, _, _, rfl, ⟨rfl, wx4_1_2⟩, rfl⟩, _, _, rfl, ⟨_, _, rfl, rfl, _, _, rfl, ⟨rfl, wx4_2_1⟩, _, _, rfl, ⟨rfl, wx4_2_2⟩, rfl⟩, _, _, rfl, ⟨rfl, wx4_3⟩, _, _, rfl, ⟨rfl, wx4_4⟩, rfl⟩ := hx4
    obtain rfl : cs4 = #[.int .i64 x4_0, .bool x4_1_0, .int .u64 x4_1_1, .int .u64 x4_1_2, .bool x4_2_0, .int .u64 x4_2_1, .int .u64 x4_2_2, .int .i64 x4_3, .int .i64 x4_4] := by cases cs4; simpa [Value.cells] using hcs4
    exact (by obtain ⟨m1, rfl, y1⟩ := wf_u64 wx4_1_1; obtain ⟨m2, rfl, y2⟩ := wf_u64 wx4_1_2; obtain ⟨m3, rfl, y3⟩ := wf_u64 wx4_2_1; obtain ⟨m4, rfl, y4⟩ := wf_u64 wx4_2_2; exact maglevTells_calls x0 A0 c0 x1 A1 c1 x2_0 x2_1 x3 ⟨x4_0, x4_1_0, m1, m2, x4_2_0, m3, m4, x4_3, x4_4⟩ W hr0 hl0 hr1 hl1 y1 y2 y3 y4)

set_option maxRecDepth 100000 in
set_option maxHeartbeats 4000000 in
theorem maglevTells_closed : joinedFacts Try.prog 5 Try.f5 Rows.maglevTellsSpec Rows.maglevTellsRow = true := by
  unfold joinedFacts
  repeat' (with_reducible apply and_t)
  all_goals first | with_reducible exact may_enter | ((with_reducible show (_ == Program.liftsFinal _) = true); exact lifts_final) | (as_aux_lemma => kernel_rfl)
theorem maglevTells_holds : Rows.MaglevTellsSaid :=
  OpenClaim.holds_of_wide 5 Try.f5 rfl rfl rfl rfl rfl rfl rfl ⟨rfl, rfl, rfl, rfl, rfl⟩ rfl rfl rfl rfl rfl (by as_aux_lemma => kernel_rfl) Try.func5 maglevTells_closed
    (of_decide_eq_true (by kernel_rfl)) (by unfold Func.isWrapper; rw [if_neg (of_decide_eq_false (by kernel_rfl))]; exact ⟨rfl, rfl⟩)
    (fun os started H enc _ => maglevTells_lifted os started H enc)
end Go.Proofs.Ytiicgnijiiidcaa
