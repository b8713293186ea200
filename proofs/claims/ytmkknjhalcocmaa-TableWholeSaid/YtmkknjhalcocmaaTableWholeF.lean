/- For all arguments, cloakroomlaw19.TableWhole returns true and leaves its arguments as they were. No conditions. -/
import Derived.Test.YtmkknjhalcocmaaJ19
import Derived.Test.YtmkknjhalcocmaaJ3
import Derived.Test.YtmkknjhalcocmaaRows
import Derived.Test.YtmkknjhalcocmaaJ1
namespace Go.Proofs.Ytmkknjhalcocmaa
open Go Go.RowKit Go.Deep Go.ChangeShapes Go.WideShapes

set_option maxRecDepth 100000 in
theorem tableWhole_lifted (os : Os) (started : os.Started) (H : Type) (enc : TypeId × Value → H) :
    ReturnsInHanded {} Try.checked os 3 .any (Rows.tableWholeSpec.pre6 enc Try.prog Try.f3 Rows.tableWholeRow.domain false)
      (Rows.tableWholeSpec.post enc Try.prog Try.f3 false true false false) := by
  refine returnsInHanded_of_change (C := Try.checked) own started (by kernel_rfl) Try.func3
    (ChangeSpec.witness6 (enc := enc) (C := Try.checked) false ⟨#[], #[.int .u8 0, .slice none 0 0], []⟩ 8 (by kernel_rfl) (by kernel_rfl) (by kernel_rfl) (by kernel_rfl)) ?_
  intro W base args ds gs before hval hW _ _
  refine law_post laidOut (by kernel_rfl) rfl rfl Try.underlying4 ?_ hW ?_
  · intro ds hds
    match ds, hds with
    | [d0, d1], _ => exact ⟨rfl, rfl, rfl⟩
  · obtain ⟨p, q, hA, hV, rfl, hfz, hnd⟩ := hW
    replace hA : DataW.TrodAll enc Try.prog W 0 (fun _ => true) true Try.f3.params.toList args.toList ds p := hA
    replace hval : ∀ (j : Nat) t v, Try.f3.params[j]? = some t → args[j]? = some v → Value.okWide Try.prog W .any base t v := hval
    rw [Try.params3] at hA hval
    obtain ⟨v0, vs0, _, ds0, p0, q0, hargs, rfl, rfl, h0, r0⟩ := trodAll_cons hA
    obtain ⟨v1, vs1, _, ds1, p1, q1, rfl, rfl, rfl, h1, r1⟩ := trodAll_cons r0
    obtain ⟨rfl, rfl, rfl⟩ := trodAll_nil r1
    obtain rfl : args = #[v0, v1] := by cases args; simp_all
    obtain ⟨x0, rfl, rfl, _, wx0⟩ := open_int Try.underlying5 (hval 0 5 v0 rfl rfl) h0
    obtain ⟨A1, c1, x1, rfl, hr1, hs1, hl1⟩ := open_tsteps (hval 1 22 v1 rfl rfl) h1
    exact (by simp [Lit.wf, IntKind.min, IntKind.max, IntKind.bits, IntKind.signed] at wx0; exact tableWhole_calls x0 (by omega) x1 A1 c1 W hr1 hl1)

set_option maxRecDepth 100000 in
set_option maxHeartbeats 4000000 in
theorem tableWhole_closed : joinedFacts Try.prog 3 Try.f3 Rows.tableWholeSpec Rows.tableWholeRow = true := by
  unfold joinedFacts
  repeat' (with_reducible apply and_t)
  all_goals first | with_reducible exact may_enter | ((with_reducible show (_ == Program.liftsFinal _) = true); exact lifts_final) | (as_aux_lemma => kernel_rfl)
theorem tableWhole_holds : Rows.TableWholeSaid :=
  OpenClaim.holds_of_wide 3 Try.f3 rfl rfl rfl rfl rfl rfl rfl ⟨rfl, rfl, rfl, rfl, rfl⟩ rfl rfl rfl rfl rfl (by as_aux_lemma => kernel_rfl) Try.func3 tableWhole_closed
    (of_decide_eq_true (by kernel_rfl)) (by unfold Func.isWrapper; rw [if_neg (of_decide_eq_false (by kernel_rfl))]; exact ⟨rfl, rfl⟩)
    (fun os started H enc _ => tableWhole_lifted os started H enc)
end Go.Proofs.Ytmkknjhalcocmaa
