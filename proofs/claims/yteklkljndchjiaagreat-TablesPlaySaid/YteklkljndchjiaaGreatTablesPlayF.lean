/- For all arguments, cloakroomlaw20.TablesPlay returns true and leaves its arguments as they were. No conditions. -/
import Derived.Test.YteklkljndchjiaaGreatJ49
import Derived.Test.YteklkljndchjiaaGreatJ50
import Derived.Test.YteklkljndchjiaaGreatJ3
import Derived.Test.YteklkljndchjiaaGreatRows
import Derived.Test.YteklkljndchjiaaGreatJ1
namespace Go.Proofs.YteklkljndchjiaaGreat
open Go Go.RowKit Go.Deep Go.ChangeShapes Go.WideShapes
set_option maxRecDepth 100000 in
theorem tablesPlay_lifted (os : Os) (started : os.Started) (H : Type) (enc : TypeId × Value → H) :
  ReturnsInHanded {} Tryz.checked os 3 .any (Rows.tablesPlaySpec.pre6 enc Tryz.prog Tryz.f3 Rows.tablesPlayRow.domain false)
   (Rows.tablesPlaySpec.post enc Tryz.prog Tryz.f3 false true false false) := by
 refine returnsInHanded_of_change (C := Tryz.checked) own started (by kernel_rfl) Tryz.func3
  (ChangeSpec.witness6 (enc := enc) (C := Tryz.checked) false ⟨#[], #[.agg #[.bool false, .int .i64 0, .int .i64 0, .int .u64 0, .int .u64 0, .int .i64 0, .int .i64 0, .int .i64 0, .int .i64 0, .int .i64 0, .int .i64 0], .slice none 0 0], []⟩ 8 (by kernel_rfl) (by kernel_rfl) (by kernel_rfl) (by kernel_rfl)) ?_
 intro W base args ds gs before hval hW _ _
 refine law_post laidOut (by kernel_rfl) rfl rfl Tryz.underlying4 ?_ hW ?_
 ·
  intro ds hds
  match ds, hds with
  | [d0, d1], _ => exact ⟨rfl, rfl, rfl⟩
 ·
  obtain ⟨p, q, hA, hV, rfl, hfz, hnd⟩ := hW
  replace hA : DataW.TrodAll enc Tryz.prog W 0 (fun _ => true) true Tryz.f3.params.toList args.toList ds p := hA
  replace hval : ∀ (j : Nat) t v, Tryz.f3.params[j]? = some t → args[j]? = some v → Value.okWide Tryz.prog W .any base t v := hval
  rw [Tryz.params3] at hA hval
  obtain ⟨v0, vs0, _, ds0, p0, q0, hargs, rfl, rfl, h0, r0⟩ := trodAll_cons hA
  obtain ⟨v1, vs1, _, ds1, p1, q1, rfl, rfl, rfl, h1, r1⟩ := trodAll_cons r0
  obtain ⟨rfl, rfl, rfl⟩ := trodAll_nil r1
  obtain rfl : args = #[v0, v1] := by cases args; simp_all
  obtain ⟨cs0, rfl, _⟩ := okWide_struct Tryz.underlying30 (hval 0 30 v0 rfl rfl)
  obtain ⟨⟨⟨x0_0_0, x0_0_1, x0_0_2, ⟨⟩⟩, ⟨x0_1_0, x0_1_1, ⟨⟩⟩, x0_2, ⟨x0_3_0, x0_3_1, x0_3_2, x0_3_3, ⟨⟩⟩, x0_4, ⟨⟩⟩, hx0⟩ := open_ft (.pair (.pair .bool (.pair (.int .i64) (.pair (.int .i64) .unit))) (.pair (.pair (.int .u64) (.pair (.int .u64) .unit)) (.pair (.int .i64) (.pair (.pair (.int .i64) (.pair (.int .i64) (.pair (.int .i64) (.pair (.int .i64) .unit)))) (.pair (.int .i64) .unit))))) (by kernel_rfl) h0
  obtain ⟨_, _, hcs0, ⟨_, _, rfl, rfl, _, _, rfl, ⟨rfl, wx0_0_1⟩, _, _, rfl, ⟨rfl, wx0_0_2⟩, rfl⟩, _, _, rfl, ⟨_, _, rfl, ⟨rfl, wx0_1_0⟩, _, _, rfl, ⟨rfl, wx0_1_1⟩, rfl⟩, _, _, rfl, ⟨rfl, wx0_2⟩, _, _, rfl, ⟨_, _, rfl, ⟨rfl, wx0_3_0⟩, _, _, rfl, ⟨rfl, wx0_3_1⟩, _, _, rfl, ⟨rfl, wx0_3_2⟩, _, _, rfl, ⟨rfl, wx0_3_3⟩, rfl⟩, _, _, rfl, ⟨rfl, wx0_4⟩, rfl⟩ := hx0
  obtain rfl : cs0 = #[.bool x0_0_0, .int .i64 x0_0_1, .int .i64 x0_0_2, .int .u64 x0_1_0, .int .u64 x0_1_1, .int .i64 x0_2, .int .i64 x0_3_0, .int .i64 x0_3_1, .int .i64 x0_3_2, .int .i64 x0_3_3, .int .i64 x0_4] := by cases cs0; simpa [Value.cells] using hcs0
  obtain ⟨A1, c1, x1, rfl, hr1, hs1, hl1⟩ := open_steps20 (hval 1 31 v1 rfl rfl) h1
  exact tablesPlay_calls ⟨x0_0_0, x0_0_1, x0_0_2, x0_1_0, x0_1_1, x0_2, x0_3_0, x0_3_1, x0_3_2, x0_3_3, x0_4⟩ x1 A1 c1 W hr1 hs1
set_option maxRecDepth 100000 in
set_option maxHeartbeats 4000000 in
theorem tablesPlay_closed : joinedFacts Tryz.prog 3 Tryz.f3 Rows.tablesPlaySpec Rows.tablesPlayRow = true := by
 unfold joinedFacts
 repeat' (with_reducible apply and_t)
 all_goals first | with_reducible exact may_enter | ((with_reducible show (_ == Program.liftsFinal _) = true); exact lifts_final) | (as_aux_lemma => kernel_rfl)
theorem tablesPlay_holds : Rows.TablesPlaySaid :=
 OpenClaim.holds_of_wide 3 Tryz.f3 rfl rfl rfl rfl rfl rfl rfl ⟨rfl, rfl, rfl, rfl, rfl⟩ rfl rfl rfl rfl rfl (by as_aux_lemma => kernel_rfl) Tryz.func3 tablesPlay_closed
  (of_decide_eq_true (by kernel_rfl)) (by unfold Func.isWrapper; rw [if_neg (of_decide_eq_false (by kernel_rfl))]; exact ⟨rfl, rfl⟩)
  (fun os started H enc _ => tablesPlay_lifted os started H enc)
end Go.Proofs.YteklkljndchjiaaGreat
