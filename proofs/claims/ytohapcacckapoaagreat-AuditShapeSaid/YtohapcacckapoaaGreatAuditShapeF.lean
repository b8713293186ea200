/- For all arguments, cloakroomlaw38.AuditShape returns true and leaves its arguments as they were. No conditions. -/
import Derived.Test.YtohapcacckapoaaGreatJ51
import Derived.Test.YtohapcacckapoaaGreatJ25
import Derived.Test.YtohapcacckapoaaGreatRows
import Derived.Test.YtohapcacckapoaaGreatJ1
namespace Go.Proofs.YtohapcacckapoaaGreat
open Go Go.RowKit Go.Deep Go.ChangeShapes Go.WideShapes
set_option maxRecDepth 100000 in
theorem auditShape_lifted (os : Os) (started : os.Started) (H : Type) (enc : TypeId × Value → H) :
  ReturnsInHanded {} Tryz.checked os 3 .any (Rows.auditShapeSpec.pre6 enc Tryz.prog Tryz.f3 Rows.auditShapeRow.domain false)
   (Rows.auditShapeSpec.post enc Tryz.prog Tryz.f3 false true false false) := by
 refine returnsInHanded_of_change (C := Tryz.checked) own started (by kernel_rfl) Tryz.func3
  (ChangeSpec.witness6 (enc := enc) (C := Tryz.checked) false ⟨#[], #[.agg #[.bool false, .int .u64 0, .int .u64 0, .int .i64 0, .bool false, .bool false, .int .i64 0, .bool false, .int .i64 0, .int .i64 0, .bool false, .int .i64 0, .int .i64 0, .int .u64 0, .int .u64 0, .int .i64 0, .int .i64 0, .int .i64 0, .int .i64 0, .int .i64 0, .int .i64 0, .int .i64 0, .int .i64 0, .int .i64 0, .int .i64 0], .int .u8 0, .int .u8 0, .int .i64 0], []⟩ 8 (by kernel_rfl) (by kernel_rfl) (by kernel_rfl) (by kernel_rfl)) ?_
 intro W base args ds gs before hval hW _ _
 refine law_post laidOut (by kernel_rfl) rfl rfl Tryz.underlying4 ?_ hW ?_
 ·
  intro ds hds
  match ds, hds with
  | [d0, d1, d2, d3], _ => exact ⟨rfl, rfl, rfl⟩
 ·
  obtain ⟨p, q, hA, hV, rfl, hfz, hnd⟩ := hW
  replace hA : DataW.TrodAll enc Tryz.prog W 0 (fun _ => true) true Tryz.f3.params.toList args.toList ds p := hA
  replace hval : ∀ (j : Nat) t v, Tryz.f3.params[j]? = some t → args[j]? = some v → Value.okWide Tryz.prog W .any base t v := hval
  rw [Tryz.params3] at hA hval
  obtain ⟨v0, vs0, _, ds0, p0, q0, hargs, rfl, rfl, h0, r0⟩ := trodAll_cons hA
  obtain ⟨v1, vs1, _, ds1, p1, q1, rfl, rfl, rfl, h1, r1⟩ := trodAll_cons r0
  obtain ⟨v2, vs2, _, ds2, p2, q2, rfl, rfl, rfl, h2, r2⟩ := trodAll_cons r1
  obtain ⟨v3, vs3, _, ds3, p3, q3, rfl, rfl, rfl, h3, r3⟩ := trodAll_cons r2
  obtain ⟨rfl, rfl, rfl⟩ := trodAll_nil r3
  obtain rfl : args = #[v0, v1, v2, v3] := by cases args; simp_all
  obtain ⟨cs0, rfl, _⟩ := okWide_struct Tryz.underlying38 (hval 0 38 v0 rfl rfl)
  obtain ⟨⟨⟨x0_0_0, x0_0_1, x0_0_2, ⟨⟩⟩, x0_1, x0_2, x0_3, x0_4, ⟨⟨x0_5_0_0, x0_5_0_1, x0_5_0_2, ⟨⟩⟩, ⟨x0_5_1_0, x0_5_1_1, x0_5_1_2, ⟨⟩⟩, ⟨x0_5_2_0, x0_5_2_1, ⟨⟩⟩, x0_5_3, ⟨x0_5_4_0, x0_5_4_1, x0_5_4_2, x0_5_4_3, ⟨⟩⟩, x0_5_5, ⟨⟩⟩, ⟨x0_6_0, x0_6_1, ⟨⟩⟩, ⟨x0_7_0, x0_7_1, ⟨⟩⟩, ⟨⟩⟩, hx0⟩ := open_ft24 (.pair (.pair .bool (.pair (.int .u64) (.pair (.int .u64) .unit))) (.pair (.int .i64) (.pair .bool (.pair .bool (.pair (.int .i64) (.pair (.pair (.pair .bool (.pair (.int .i64) (.pair (.int .i64) .unit))) (.pair (.pair .bool (.pair (.int .i64) (.pair (.int .i64) .unit))) (.pair (.pair (.int .u64) (.pair (.int .u64) .unit)) (.pair (.int .i64) (.pair (.pair (.int .i64) (.pair (.int .i64) (.pair (.int .i64) (.pair (.int .i64) .unit)))) (.pair (.int .i64) .unit)))))) (.pair (.pair (.int .i64) (.pair (.int .i64) .unit)) (.pair (.pair (.int .i64) (.pair (.int .i64) .unit)) .unit)))))))) (by kernel_rfl) h0
  obtain ⟨_, _, hcs0, ⟨_, _, rfl, rfl, _, _, rfl, ⟨rfl, wx0_0_1⟩, _, _, rfl, ⟨rfl, wx0_0_2⟩, rfl⟩, _, _, rfl, ⟨rfl, wx0_1⟩, _, _, rfl, rfl, _, _, rfl, rfl, _, _, rfl, ⟨rfl, wx0_4⟩, _, _, rfl, ⟨_, _, rfl, ⟨_, _, rfl, rfl, _, _, rfl, ⟨rfl, wx0_5_0_1⟩, _, _, rfl, ⟨rfl, wx0_5_0_2⟩, rfl⟩, _, _, rfl, ⟨_, _, rfl, rfl, _, _, rfl, ⟨rfl, wx0_5_1_1⟩, _, _, rfl, ⟨rfl, wx0_5_1_2⟩, rfl⟩, _, _, rfl, ⟨_, _, rfl, ⟨rfl, wx0_5_2_0⟩, _, _, rfl, ⟨rfl, wx0_5_2_1⟩, rfl⟩, _, _, rfl, ⟨rfl, wx0_5_3⟩, _, _, rfl, ⟨_, _, rfl, ⟨rfl, wx0_5_4_0⟩, _, _, rfl, ⟨rfl, wx0_5_4_1⟩, _, _, rfl, ⟨rfl, wx0_5_4_2⟩, _, _, rfl, ⟨rfl, wx0_5_4_3⟩, rfl⟩, _, _, rfl, ⟨rfl, wx0_5_5⟩, rfl⟩, _, _, rfl, ⟨_, _, rfl, ⟨rfl, wx0_6_0⟩, _, _, rfl, ⟨rfl, wx0_6_1⟩, rfl⟩, _, _, rfl, ⟨_, _, rfl, ⟨rfl, wx0_7_0⟩, _, _, rfl, ⟨rfl, wx0_7_1⟩, rfl⟩, rfl⟩ := hx0
  obtain rfl : cs0 = #[.bool x0_0_0, .int .u64 x0_0_1, .int .u64 x0_0_2, .int .i64 x0_1, .bool x0_2, .bool x0_3, .int .i64 x0_4, .bool x0_5_0_0, .int .i64 x0_5_0_1, .int .i64 x0_5_0_2, .bool x0_5_1_0, .int .i64 x0_5_1_1, .int .i64 x0_5_1_2, .int .u64 x0_5_2_0, .int .u64 x0_5_2_1, .int .i64 x0_5_3, .int .i64 x0_5_4_0, .int .i64 x0_5_4_1, .int .i64 x0_5_4_2, .int .i64 x0_5_4_3, .int .i64 x0_5_5, .int .i64 x0_6_0, .int .i64 x0_6_1, .int .i64 x0_7_0, .int .i64 x0_7_1] := by cases cs0; simpa [Value.cells] using hcs0
  obtain ⟨x1, rfl, rfl, _, wx1⟩ := open_int Tryz.underlying5 (hval 1 5 v1 rfl rfl) h1
  obtain ⟨x2, rfl, rfl, _, wx2⟩ := open_int Tryz.underlying5 (hval 2 5 v2 rfl rfl) h2
  obtain ⟨x3, rfl, rfl, _, wx3⟩ := open_int Tryz.underlying3 (hval 3 3 v3 rfl rfl) h3
  exact auditShape_open x0_0_0 x0_0_1 x0_0_2 wx0_0_1 wx0_0_2 x0_1 x0_2 x0_3 x0_4 ⟨x0_5_0_0, x0_5_0_1, x0_5_0_2, x0_5_1_0, x0_5_1_1, x0_5_1_2, x0_5_2_0, x0_5_2_1, x0_5_3, x0_5_4_0, x0_5_4_1, x0_5_4_2, x0_5_4_3, x0_5_5⟩ x0_6_0 x0_6_1 x0_7_0 x0_7_1 x1 x2 x3 wx1 wx2 W
set_option maxRecDepth 100000 in
set_option maxHeartbeats 4000000 in
theorem auditShape_closed : joinedFacts Tryz.prog 3 Tryz.f3 Rows.auditShapeSpec Rows.auditShapeRow = true := by
 unfold joinedFacts
 repeat' (with_reducible apply and_t)
 all_goals first | with_reducible exact may_enter | ((with_reducible show (_ == Program.liftsFinal _) = true); exact lifts_final) | (as_aux_lemma => kernel_rfl)
theorem auditShape_holds : Rows.AuditShapeSaid :=
 OpenClaim.holds_of_wide 3 Tryz.f3 rfl rfl rfl rfl rfl rfl rfl ⟨rfl, rfl, rfl, rfl, rfl⟩ rfl rfl rfl rfl rfl (by as_aux_lemma => kernel_rfl) Tryz.func3 auditShape_closed
  (of_decide_eq_true (by kernel_rfl)) (by unfold Func.isWrapper; rw [if_neg (of_decide_eq_false (by kernel_rfl))]; exact ⟨rfl, rfl⟩)
  (fun os started H enc _ => auditShape_lifted os started H enc)
end Go.Proofs.YtohapcacckapoaaGreat
