/- For every policy, key, two sets of backends, two versions and every list of picks, cloakroomlaw30.PolicyPicks returns true and leaves its arguments as they were. No conditions. -/
import Derived.Test.YtkpkjpdhlmjchaaPolS
import Derived.Test.YtkpkjpdhlmjchaaOpenB
import Derived.Test.YtkpkjpdhlmjchaaRows
import Derived.Test.YtkpkjpdhlmjchaaFacts
namespace Go.Proofs.Ytkpkjpdhlmjchaa
open Go Go.RowKit Go.Deep Go.ChangeShapes Go.WideShapes

set_option maxRecDepth 100000 in
theorem policyPicks_lifted (os : Os) (started : os.Started) (H : Type) (enc : TypeId × Value → H) :
    ReturnsInHanded {} Try.checked os 8 .any (Rows.policyPicksSpec.pre6 enc Try.prog Try.f8 Rows.policyPicksRow.domain false)
      (Rows.policyPicksSpec.post enc Try.prog Try.f8 false true false false) := by
  refine returnsInHanded_of_change (C := Try.checked) own started (by kernel_rfl) Try.func8
    (ChangeSpec.witness6 (enc := enc) (C := Try.checked) false ⟨#[], #[.agg #[.int .i64 0, .int .i64 0], .agg #[.int .u64 0, .int .u64 0], .slice none 0 0, .slice none 0 0, .int .i64 0, .int .i64 0, .slice none 0 0], []⟩ 8 (by kernel_rfl) (by kernel_rfl) (by kernel_rfl) (by kernel_rfl)) ?_
  intro W base args ds gs before hval hW _ _
  refine law_post laidOut (by kernel_rfl) rfl rfl Try.underlying4 ?_ hW ?_
  · intro ds hds
    match ds, hds with
    | [d0, d1, d2, d3, d4, d5, d6], _ => exact ⟨rfl, rfl, rfl⟩
  · obtain ⟨p, q, hA, hV, rfl, hfz, hnd⟩ := hW
    replace hA : DataW.TrodAll enc Try.prog W 0 (fun _ => true) true Try.f8.params.toList args.toList ds p := hA
    replace hval : ∀ (j : Nat) t v, Try.f8.params[j]? = some t → args[j]? = some v → Value.okWide Try.prog W .any base t v := hval
    rw [Try.params8] at hA hval
    obtain ⟨v0, vs0, _, ds0, p0, q0, hargs, rfl, rfl, h0, r0⟩ := trodAll_cons hA
    obtain ⟨v1, vs1, _, ds1, p1, q1, rfl, rfl, rfl, h1, r1⟩ := trodAll_cons r0
    obtain ⟨v2, vs2, _, ds2, p2, q2, rfl, rfl, rfl, h2, r2⟩ := trodAll_cons r1
    obtain ⟨v3, vs3, _, ds3, p3, q3, rfl, rfl, rfl, h3, r3⟩ := trodAll_cons r2
    obtain ⟨v4, vs4, _, ds4, p4, q4, rfl, rfl, rfl, h4, r4⟩ := trodAll_cons r3
    obtain ⟨v5, vs5, _, ds5, p5, q5, rfl, rfl, rfl, h5, r5⟩ := trodAll_cons r4
    obtain ⟨v6, vs6, _, ds6, p6, q6, rfl, rfl, rfl, h6, r6⟩ := trodAll_cons r5
    obtain ⟨rfl, rfl, rfl⟩ := trodAll_nil r6
    obtain rfl : args = #[v0, v1, v2, v3, v4, v5, v6] := by cases args; simp_all
    obtain ⟨cs0, rfl, _⟩ := okWide_struct Try.underlying80 (hval 0 80 v0 rfl rfl)
    obtain ⟨⟨x0_0, x0_1, ⟨⟩⟩, hx0⟩ := open_ft (.pair (.int .i64) (.pair (.int .i64) .unit)) (by kernel_rfl) h0
    obtain ⟨_, _, hcs0, ⟨rfl, wx0_0⟩, _, _, rfl, ⟨rfl, wx0_1⟩, rfl⟩ := hx0
    obtain rfl : cs0 = #[.int .i64 x0_0, .int .i64 x0_1] := by cases cs0; simpa [Value.cells] using hcs0
    obtain ⟨cs1, rfl, _⟩ := okWide_struct Try.underlying25 (hval 1 25 v1 rfl rfl)
    obtain ⟨⟨x1_0, x1_1, ⟨⟩⟩, hx1⟩ := open_ft (.pair (.int .u64) (.pair (.int .u64) .unit)) (by kernel_rfl) h1
    obtain ⟨_, _, hcs1, ⟨rfl, wx1_0⟩, _, _, rfl, ⟨rfl, wx1_1⟩, rfl⟩ := hx1
    obtain rfl : cs1 = #[.int .u64 x1_0, .int .u64 x1_1] := by cases cs1; simpa [Value.cells] using hcs1
    obtain ⟨A2, c2, x2, rfl, hr2, hs2, hl2⟩ := open_bks (hval 2 22 v2 rfl rfl) h2
    obtain ⟨A3, c3, x3, rfl, hr3, hs3, hl3⟩ := open_bks (hval 3 22 v3 rfl rfl) h3
    obtain ⟨x4, rfl, rfl, _, wx4⟩ := open_int Try.underlying3 (hval 4 3 v4 rfl rfl) h4
    obtain ⟨x5, rfl, rfl, _, wx5⟩ := open_int Try.underlying3 (hval 5 3 v5 rfl rfl) h5
    obtain ⟨A6, c6, x6, rfl, hr6, hs6, hl6⟩ := open_pks (hval 6 93 v6 rfl rfl) h6
    exact (by cases hp : polOk x0_0 x0_1; exact policyPicks_bad x0_0 x0_1 x1_0 x1_1 x2 x3 A2 A3 c2 c3 x4 x5 x6 A6 c6 W hp hr2 hl2 hr3 hl3; exact policyPicks_ok x0_0 x0_1 x1_0 x1_1 x2 x3 A2 A3 c2 c3 x4 x5 x6 A6 c6 W hp hr2 hl2 hr3 hl3 hr6 hs6)

set_option maxRecDepth 100000 in
set_option maxHeartbeats 4000000 in
theorem policyPicks_closed : joinedFacts Try.prog 8 Try.f8 Rows.policyPicksSpec Rows.policyPicksRow = true := by
  unfold joinedFacts
  repeat' (with_reducible apply and_t)
  all_goals first | with_reducible exact may_enter | ((with_reducible show (_ == Program.liftsFinal _) = true); exact lifts_final) | (as_aux_lemma => kernel_rfl)
theorem policyPicks_holds : Rows.PolicyPicksSaid :=
  OpenClaim.holds_of_wide 8 Try.f8 rfl rfl rfl rfl rfl rfl rfl ⟨rfl, rfl, rfl, rfl, rfl⟩ rfl rfl rfl rfl rfl (by as_aux_lemma => kernel_rfl) Try.func8 policyPicks_closed
    (of_decide_eq_true (by kernel_rfl)) (by unfold Func.isWrapper; rw [if_neg (of_decide_eq_false (by kernel_rfl))]; exact ⟨rfl, rfl⟩)
    (fun os started H enc _ => policyPicks_lifted os started H enc)
end Go.Proofs.Ytkpkjpdhlmjchaa
