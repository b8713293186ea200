/- For all arguments, cloakroomlaw19.TableDue returns true and leaves its arguments as they were. No conditions. -/
import Derived.Test.YtmkknjhalcocmaaJ20
import Derived.Test.YtmkknjhalcocmaaJ3
import Derived.Test.YtmkknjhalcocmaaRows
import Derived.Test.YtmkknjhalcocmaaJ1
namespace Go.Proofs.Ytmkknjhalcocmaa
open Go Go.RowKit Go.Deep Go.ChangeShapes Go.WideShapes

set_option maxRecDepth 100000 in
theorem tableDue_lifted (os : Os) (started : os.Started) (H : Type) (enc : TypeId × Value → H) :
    ReturnsInHanded {} Try.checked os 5 .any (Rows.tableDueSpec.pre6 enc Try.prog Try.f5 Rows.tableDueRow.domain false)
      (Rows.tableDueSpec.post enc Try.prog Try.f5 false true false false) := by
  refine returnsInHanded_of_change (C := Try.checked) own started (by kernel_rfl) Try.func5
    (ChangeSpec.witness6 (enc := enc) (C := Try.checked) false ⟨#[], #[.int .u8 0, .int .u8 0, .agg #[.int .u8 0, .int .u8 0, .int .u8 0, .int .u8 0], .slice none 0 0], []⟩ 8 (by kernel_rfl) (by kernel_rfl) (by kernel_rfl) (by kernel_rfl)) ?_
  intro W base args ds gs before hval hW _ _
  refine law_post laidOut (by kernel_rfl) rfl rfl Try.underlying4 ?_ hW ?_
  · intro ds hds
    match ds, hds with
    | [d0, d1, d2, d3], _ => exact ⟨rfl, rfl, rfl⟩
  · obtain ⟨p, q, hA, hV, rfl, hfz, hnd⟩ := hW
    replace hA : DataW.TrodAll enc Try.prog W 0 (fun _ => true) true Try.f5.params.toList args.toList ds p := hA
    replace hval : ∀ (j : Nat) t v, Try.f5.params[j]? = some t → args[j]? = some v → Value.okWide Try.prog W .any base t v := hval
    rw [Try.params5] at hA hval
    obtain ⟨v0, vs0, _, ds0, p0, q0, hargs, rfl, rfl, h0, r0⟩ := trodAll_cons hA
    obtain ⟨v1, vs1, _, ds1, p1, q1, rfl, rfl, rfl, h1, r1⟩ := trodAll_cons r0
    obtain ⟨v2, vs2, _, ds2, p2, q2, rfl, rfl, rfl, h2, r2⟩ := trodAll_cons r1
    obtain ⟨v3, vs3, _, ds3, p3, q3, rfl, rfl, rfl, h3, r3⟩ := trodAll_cons r2
    obtain ⟨rfl, rfl, rfl⟩ := trodAll_nil r3
    obtain rfl : args = #[v0, v1, v2, v3] := by cases args; simp_all
    obtain ⟨x0, rfl, rfl, _, wx0⟩ := open_int Try.underlying5 (hval 0 5 v0 rfl rfl) h0
    obtain ⟨x1, rfl, rfl, _, wx1⟩ := open_int Try.underlying5 (hval 1 5 v1 rfl rfl) h1
    obtain ⟨cs2, rfl, _⟩ := okWide_array Try.underlying56 (hval 2 56 v2 rfl rfl)
    obtain ⟨⟨x2_0, x2_1, x2_2, x2_3, ⟨⟩⟩, hx2⟩ := open_ft (.pair (.int .u8) (.pair (.int .u8) (.pair (.int .u8) (.pair (.int .u8) .unit)))) (by kernel_rfl) h2
    obtain ⟨_, _, hcs2, ⟨rfl, wx2_0⟩, _, _, rfl, ⟨rfl, wx2_1⟩, _, _, rfl, ⟨rfl, wx2_2⟩, _, _, rfl, ⟨rfl, wx2_3⟩, rfl⟩ := hx2
    obtain rfl : cs2 = #[.int .u8 x2_0, .int .u8 x2_1, .int .u8 x2_2, .int .u8 x2_3] := by cases cs2; simpa [Value.cells] using hcs2
    obtain ⟨A3, c3, x3, rfl, hr3, hs3, hl3⟩ := open_visits (hval 3 57 v3 rfl rfl) h3
    exact (by simp [Lit.wf, IntKind.min, IntKind.max, IntKind.bits, IntKind.signed] at wx0 wx1 wx2_0 wx2_1 wx2_2 wx2_3; exact tableDue_calls x0 x1 x2_0 x2_1 x2_2 x2_3 (by omega) (by omega) (by omega) (by omega) (by omega) (by omega) x3 hs3 A3 c3 W hr3 hl3)

set_option maxRecDepth 100000 in
set_option maxHeartbeats 4000000 in
theorem tableDue_closed : joinedFacts Try.prog 5 Try.f5 Rows.tableDueSpec Rows.tableDueRow = true := by
  unfold joinedFacts
  repeat' (with_reducible apply and_t)
  all_goals first | with_reducible exact may_enter | ((with_reducible show (_ == Program.liftsFinal _) = true); exact lifts_final) | (as_aux_lemma => kernel_rfl)
theorem tableDue_holds : Rows.TableDueSaid :=
  OpenClaim.holds_of_wide 5 Try.f5 rfl rfl rfl rfl rfl rfl rfl ⟨rfl, rfl, rfl, rfl, rfl⟩ rfl rfl rfl rfl rfl (by as_aux_lemma => kernel_rfl) Try.func5 tableDue_closed
    (of_decide_eq_true (by kernel_rfl)) (by unfold Func.isWrapper; rw [if_neg (of_decide_eq_false (by kernel_rfl))]; exact ⟨rfl, rfl⟩)
    (fun os started H enc _ => tableDue_lifted os started H enc)
end Go.Proofs.Ytmkknjhalcocmaa
