/- For all arguments, cloakroomlaw19.TableAgain returns true and leaves its arguments as they were. No conditions. -/
import Derived.Test.YtmkknjhalcocmaaJ19
import Derived.Test.YtmkknjhalcocmaaJ3
import Derived.Test.YtmkknjhalcocmaaRows
import Derived.Test.YtmkknjhalcocmaaJ1
namespace Go.Proofs.Ytmkknjhalcocmaa
open Go Go.RowKit Go.Deep Go.ChangeShapes Go.WideShapes

set_option maxRecDepth 100000 in
theorem tableAgain_lifted (os : Os) (started : os.Started) (H : Type) (enc : TypeId × Value → H) :
    ReturnsInHanded {} Try.checked os 4 .any (Rows.tableAgainSpec.pre6 enc Try.prog Try.f4 Rows.tableAgainRow.domain false)
      (Rows.tableAgainSpec.post enc Try.prog Try.f4 false true false false) := by
  refine returnsInHanded_of_change (C := Try.checked) own started (by kernel_rfl) Try.func4
    (ChangeSpec.witness6 (enc := enc) (C := Try.checked) false ⟨#[], #[.int .u8 0, .slice none 0 0, .int .u8 0, .agg #[.int .i64 0, .bool false, .int .u64 0, .int .u64 0, .bool false, .int .u64 0, .int .u64 0, .int .i64 0, .int .i64 0], .agg #[.int .i64 0, .bool false, .int .u64 0, .int .u64 0, .bool false, .int .u64 0, .int .u64 0, .int .i64 0, .int .i64 0]], []⟩ 8 (by kernel_rfl) (by kernel_rfl) (by kernel_rfl) (by kernel_rfl)) ?_
  intro W base args ds gs before hval hW _ _
  refine law_post laidOut (by kernel_rfl) rfl rfl Try.underlying4 ?_ hW ?_
  · intro ds hds
    match ds, hds with
    | [d0, d1, d2, d3, d4], _ => exact ⟨rfl, rfl, rfl⟩
  · obtain ⟨p, q, hA, hV, rfl, hfz, hnd⟩ := hW
    replace hA : DataW.TrodAll enc Try.prog W 0 (fun _ => true) true Try.f4.params.toList args.toList ds p := hA
    replace hval : ∀ (j : Nat) t v, Try.f4.params[j]? = some t → args[j]? = some v → Value.okWide Try.prog W .any base t v := hval
    rw [Try.params4] at hA hval
    obtain ⟨v0, vs0, _, ds0, p0, q0, hargs, rfl, rfl, h0, r0⟩ := trodAll_cons hA
    obtain ⟨v1, vs1, _, ds1, p1, q1, rfl, rfl, rfl, h1, r1⟩ := trodAll_cons r0
    obtain ⟨v2, vs2, _, ds2, p2, q2, rfl, rfl, rfl, h2, r2⟩ := trodAll_cons r1
    obtain ⟨v3, vs3, _, ds3, p3, q3, rfl, rfl, rfl, h3, r3⟩ := trodAll_cons r2
    obtain ⟨v4, vs4, _, ds4, p4, q4, rfl, rfl, rfl, h4, r4⟩ := trodAll_cons r3
    obtain ⟨rfl, rfl, rfl⟩ := trodAll_nil r4
    obtain rfl : args = #[v0, v1, v2, v3, v4] := by cases args; simp_all
    obtain ⟨x0, rfl, rfl, _, wx0⟩ := open_int Try.underlying5 (hval 0 5 v0 rfl rfl) h0
    obtain ⟨A1, c1, x1, rfl, hr1, hs1, hl1⟩ := open_tsteps (hval 1 22 v1 rfl rfl) h1
    obtain ⟨x2, rfl, rfl, _, wx2⟩ := open_int Try.underlying5 (hval 2 5 v2 rfl rfl) h2
    obtain ⟨cs3, rfl, _⟩ := okWide_struct Try.underlying39 (hval 3 39 v3 rfl rfl)
    obtain ⟨⟨x3_0, ⟨x3_1_0, x3_1_1, x3_1_2, ⟨⟩⟩, ⟨x3_2_0, x3_2_1, x3_2_2, ⟨⟩⟩, x3_3, x3_4, ⟨⟩⟩, hx3⟩ := open_ft (.pair (.int .i64) (.pair (.pair .bool (.pair (.int .u64) (.pair (.int .u64) .unit))) (.pair (.pair .bool (.pair (.int .u64) (.pair (.int .u64) .unit))) (.pair (.int .i64) (.pair (.int .i64) .unit))))) (by kernel_rfl) h3
    obtain ⟨_, _, hcs3, ⟨rfl, wx3_0⟩, _, _, rfl, ⟨_, _, rfl, rfl, _, _, rfl, ⟨rfl, wx3_1_1⟩, _, _, rfl, ⟨rfl, wx3_1_2⟩, rfl⟩, _, _, rfl, ⟨_, _, rfl, rfl, _, _, rfl, ⟨rfl, wx3_2_1⟩, _, _, rfl, ⟨rfl, wx3_2_2⟩, rfl⟩, _, _, rfl, ⟨rfl, wx3_3⟩, _, _, rfl, ⟨rfl, wx3_4⟩, rfl⟩ := hx3
    obtain rfl : cs3 = #[.int .i64 x3_0, .bool x3_1_0, .int .u64 x3_1_1, .int .u64 x3_1_2, .bool x3_2_0, .int .u64 x3_2_1, .int .u64 x3_2_2, .int .i64 x3_3, .int .i64 x3_4] := by cases cs3; simpa [Value.cells] using hcs3
    obtain ⟨cs4, rfl, _⟩ := okWide_struct Try.underlying39 (hval 4 39 v4 rfl rfl)
    obtain ⟨⟨x4_0, ⟨x4_1_0, x4_1_1, x4_1_2, ⟨⟩⟩, ⟨x4_2_0, x4_2_1, x4_2_2, ⟨⟩⟩, x4_3, x4_4, ⟨⟩⟩, hx4⟩ := open_ft (.pair (.int .i64) (.pair (.pair .bool (.pair (.int .u64) (.pair (.int .u64) .unit))) (.pair (.pair .bool (.pair (.int .u64) (.pair (.int .u64) .unit))) (.pair (.int .i64) (.pair (.int .i64) .unit))))) (by kernel_rfl) h4
    obtain ⟨_, _, hcs4, ⟨rfl, wx4_0⟩, _, _, rfl, ⟨_, _, rfl, rfl, _, _, rfl, ⟨rfl, wx4_1_1⟩, _, _, rfl, ⟨rfl, wx4_1_2⟩, rfl⟩, _, _, rfl, ⟨_, _, rfl, rfl, _, _, rfl, ⟨rfl, wx4_2_1⟩, _, _, rfl, ⟨rfl, wx4_2_2⟩, rfl⟩, _, _, rfl, ⟨rfl, wx4_3⟩, _, _, rfl, ⟨rfl, wx4_4⟩, rfl⟩ := hx4
    obtain rfl : cs4 = #[.int .i64 x4_0, .bool x4_1_0, .int .u64 x4_1_1, .int .u64 x4_1_2, .bool x4_2_0, .int .u64 x4_2_1, .int .u64 x4_2_2, .int .i64 x4_3, .int .i64 x4_4] := by cases cs4; simpa [Value.cells] using hcs4
    exact (by obtain ⟨m1, rfl, y1⟩ := wf_u64 wx3_1_1; obtain ⟨m2, rfl, y2⟩ := wf_u64 wx3_1_2; obtain ⟨m3, rfl, y3⟩ := wf_u64 wx3_2_1; obtain ⟨m4, rfl, y4⟩ := wf_u64 wx3_2_2; obtain ⟨n1, rfl, z1⟩ := wf_u64 wx4_1_1; obtain ⟨n2, rfl, z2⟩ := wf_u64 wx4_1_2; obtain ⟨n3, rfl, z3⟩ := wf_u64 wx4_2_1; obtain ⟨n4, rfl, z4⟩ := wf_u64 wx4_2_2; simp [Lit.wf, IntKind.min, IntKind.max, IntKind.bits, IntKind.signed] at wx0 wx2; exact tableAgain_calls x0 (by omega) x1 x2 (by omega) ⟨x3_0, x3_1_0, m1, m2, x3_2_0, m3, m4, x3_3, x3_4⟩ ⟨x4_0, x4_1_0, n1, n2, x4_2_0, n3, n4, x4_3, x4_4⟩ A1 c1 W hr1 hl1)

set_option maxRecDepth 100000 in
set_option maxHeartbeats 4000000 in
theorem tableAgain_closed : joinedFacts Try.prog 4 Try.f4 Rows.tableAgainSpec Rows.tableAgainRow = true := by
  unfold joinedFacts
  repeat' (with_reducible apply and_t)
  all_goals first | with_reducible exact may_enter | ((with_reducible show (_ == Program.liftsFinal _) = true); exact lifts_final) | (as_aux_lemma => kernel_rfl)
theorem tableAgain_holds : Rows.TableAgainSaid :=
  OpenClaim.holds_of_wide 4 Try.f4 rfl rfl rfl rfl rfl rfl rfl ⟨rfl, rfl, rfl, rfl, rfl⟩ rfl rfl rfl rfl rfl (by as_aux_lemma => kernel_rfl) Try.func4 tableAgain_closed
    (of_decide_eq_true (by kernel_rfl)) (by unfold Func.isWrapper; rw [if_neg (of_decide_eq_false (by kernel_rfl))]; exact ⟨rfl, rfl⟩)
    (fun os started H enc _ => tableAgain_lifted os started H enc)
end Go.Proofs.Ytmkknjhalcocmaa
