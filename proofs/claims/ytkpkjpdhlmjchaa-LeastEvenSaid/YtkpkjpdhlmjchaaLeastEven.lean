/- For all lists of backends and all numbers of picks, cloakroomlaw27.LeastEven returns true and leaves its arguments as they were. No conditions. -/
import Derived.Test.YtkpkjpdhlmjchaaLeastE
import Derived.Test.YtkpkjpdhlmjchaaLeastF
import Derived.Test.YtkpkjpdhlmjchaaOpenB
import Derived.Test.YtkpkjpdhlmjchaaRows
import Derived.Test.YtkpkjpdhlmjchaaFacts
namespace Go.Proofs.Ytkpkjpdhlmjchaa
open Go Go.RowKit Go.Deep Go.ChangeShapes Go.WideShapes

set_option maxRecDepth 100000 in
theorem leastEven_lifted (os : Os) (started : os.Started) (H : Type) (enc : TypeId × Value → H) :
    ReturnsInHanded {} Try.checked os 6 .any (Rows.leastEvenSpec.pre6 enc Try.prog Try.f6 Rows.leastEvenRow.domain false)
      (Rows.leastEvenSpec.post enc Try.prog Try.f6 false true false false) := by
  refine returnsInHanded_of_change (C := Try.checked) own started (by kernel_rfl) Try.func6
    (ChangeSpec.witness6 (enc := enc) (C := Try.checked) false ⟨#[], #[.slice none 0 0, .int .u8 0], []⟩ 8 (by kernel_rfl) (by kernel_rfl) (by kernel_rfl) (by kernel_rfl)) ?_
  intro W base args ds gs before hval hW _ _
  refine law_post laidOut (by kernel_rfl) rfl rfl Try.underlying4 ?_ hW ?_
  · intro ds hds
    match ds, hds with
    | [d0, d1], _ => exact ⟨rfl, rfl, rfl⟩
  · obtain ⟨p, q, hA, hV, rfl, hfz, hnd⟩ := hW
    replace hA : DataW.TrodAll enc Try.prog W 0 (fun _ => true) true Try.f6.params.toList args.toList ds p := hA
    replace hval : ∀ (j : Nat) t v, Try.f6.params[j]? = some t → args[j]? = some v → Value.okWide Try.prog W .any base t v := hval
    rw [Try.params6] at hA hval
    obtain ⟨v0, vs0, _, ds0, p0, q0, hargs, rfl, rfl, h0, r0⟩ := trodAll_cons hA
    obtain ⟨v1, vs1, _, ds1, p1, q1, rfl, rfl, rfl, h1, r1⟩ := trodAll_cons r0
    obtain ⟨rfl, rfl, rfl⟩ := trodAll_nil r1
    obtain rfl : args = #[v0, v1] := by cases args; simp_all
    obtain ⟨A0, c0, x0, rfl, hr0, hs0, hl0⟩ := open_bks (hval 0 22 v0 rfl rfl) h0
    obtain ⟨x1, rfl, rfl, _, wx1⟩ := open_int Try.underlying5 (hval 1 5 v1 rfl rfl) h1
    exact (by obtain ⟨m1, rfl, y1⟩ := wf_u8 wx1; exact leastEven_calls awake27 x0 A0 c0 m1 W hr0 hl0 y1)

set_option maxRecDepth 100000 in
set_option maxHeartbeats 4000000 in
theorem leastEven_closed : joinedFacts Try.prog 6 Try.f6 Rows.leastEvenSpec Rows.leastEvenRow = true := by
  unfold joinedFacts
  repeat' (with_reducible apply and_t)
  all_goals first | with_reducible exact may_enter | ((with_reducible show (_ == Program.liftsFinal _) = true); exact lifts_final) | (as_aux_lemma => kernel_rfl)
theorem leastEven_holds : Rows.LeastEvenSaid :=
  OpenClaim.holds_of_wide 6 Try.f6 rfl rfl rfl rfl rfl rfl rfl ⟨rfl, rfl, rfl, rfl, rfl⟩ rfl rfl rfl rfl rfl (by as_aux_lemma => kernel_rfl) Try.func6 leastEven_closed
    (of_decide_eq_true (by kernel_rfl)) (by unfold Func.isWrapper; rw [if_neg (of_decide_eq_false (by kernel_rfl))]; exact ⟨rfl, rfl⟩)
    (fun os started H enc _ => leastEven_lifted os started H enc)
end Go.Proofs.Ytkpkjpdhlmjchaa
