/- For all lists of backends, all keys, sizes and places, cloakroomlaw46.ShiftMust returns true and leaves its arguments as they were. No conditions. -/
import Derived.Test.YtkpkjpdhlmjchaaShiftN
import Derived.Test.YtkpkjpdhlmjchaaOpenB
import Derived.Test.YtkpkjpdhlmjchaaRows
import Derived.Test.YtkpkjpdhlmjchaaFacts
namespace Go.Proofs.Ytkpkjpdhlmjchaa
open Go Go.RowKit Go.Deep Go.ChangeShapes Go.WideShapes

set_option maxRecDepth 100000 in
theorem shiftMust_lifted (os : Os) (started : os.Started) (H : Type) (enc : TypeId × Value → H) :
    ReturnsInHanded {} Try.checked os 4 .any (Rows.shiftMustSpec.pre6 enc Try.prog Try.f4 Rows.shiftMustRow.domain false)
      (Rows.shiftMustSpec.post enc Try.prog Try.f4 false true false false) := by
  refine returnsInHanded_of_change (C := Try.checked) own started (by kernel_rfl) Try.func4
    (ChangeSpec.witness6 (enc := enc) (C := Try.checked) false ⟨#[], #[.slice none 0 0, .agg #[.int .u64 0, .int .u64 0], .bool false, .int .u8 0], []⟩ 8 (by kernel_rfl) (by kernel_rfl) (by kernel_rfl) (by kernel_rfl)) ?_
  intro W base args ds gs before hval hW _ _
  refine law_post laidOut (by kernel_rfl) rfl rfl Try.underlying4 ?_ hW ?_
  · intro ds hds
    match ds, hds with
    | [d0, d1, d2, d3], _ => exact ⟨rfl, rfl, rfl⟩
  · obtain ⟨p, q, hA, hV, rfl, hfz, hnd⟩ := hW
    replace hA : DataW.TrodAll enc Try.prog W 0 (fun _ => true) true Try.f4.params.toList args.toList ds p := hA
    replace hval : ∀ (j : Nat) t v, Try.f4.params[j]? = some t → args[j]? = some v → Value.okWide Try.prog W .any base t v := hval
    rw [Try.params4] at hA hval
    obtain ⟨v0, vs0, _, ds0, p0, q0, hargs, rfl, rfl, h0, r0⟩ := trodAll_cons hA
    obtain ⟨v1, vs1, _, ds1, p1, q1, rfl, rfl, rfl, h1, r1⟩ := trodAll_cons r0
    obtain ⟨v2, vs2, _, ds2, p2, q2, rfl, rfl, rfl, h2, r2⟩ := trodAll_cons r1
    obtain ⟨v3, vs3, _, ds3, p3, q3, rfl, rfl, rfl, h3, r3⟩ := trodAll_cons r2
    obtain ⟨rfl, rfl, rfl⟩ := trodAll_nil r3
    obtain rfl : args = #[v0, v1, v2, v3] := by cases args; simp_all
    obtain ⟨A0, c0, x0, rfl, hr0, hs0, hl0⟩ := open_bks (hval 0 22 v0 rfl rfl) h0
    obtain ⟨cs1, rfl, _⟩ := okWide_struct Try.underlying25 (hval 1 25 v1 rfl rfl)
    obtain ⟨⟨x1_0, x1_1, ⟨⟩⟩, hx1⟩ := open_ft (.pair (.int .u64) (.pair (.int .u64) .unit)) (by kernel_rfl) h1
    obtain ⟨_, _, hcs1, ⟨rfl, wx1_0⟩, _, _, rfl, ⟨rfl, wx1_1⟩, rfl⟩ := hx1
    obtain rfl : cs1 = #[.int .u64 x1_0, .int .u64 x1_1] := by cases cs1; simpa [Value.cells] using hcs1
    obtain ⟨x2, rfl, rfl, _⟩ := open_bool Try.underlying4 (hval 2 4 v2 rfl rfl) h2
    obtain ⟨x3, rfl, rfl, _, wx3⟩ := open_int Try.underlying5 (hval 3 5 v3 rfl rfl) h3
    exact (by obtain ⟨m3, rfl, y3⟩ := wf_u8 wx3; exact shiftMust_calls x0 A0 c0 x1_0 x1_1 x2 m3 W hr0 hl0 y3)

set_option maxRecDepth 100000 in
set_option maxHeartbeats 4000000 in
theorem shiftMust_closed : joinedFacts Try.prog 4 Try.f4 Rows.shiftMustSpec Rows.shiftMustRow = true := by
  unfold joinedFacts
  repeat' (with_reducible apply and_t)
  all_goals first | with_reducible exact may_enter | ((with_reducible show (_ == Program.liftsFinal _) = true); exact lifts_final) | (as_aux_lemma => kernel_rfl)
theorem shiftMust_holds : Rows.ShiftMustSaid :=
  OpenClaim.holds_of_wide 4 Try.f4 rfl rfl rfl rfl rfl rfl rfl ⟨rfl, rfl, rfl, rfl, rfl⟩ rfl rfl rfl rfl rfl (by as_aux_lemma => kernel_rfl) Try.func4 shiftMust_closed
    (of_decide_eq_true (by kernel_rfl)) (by unfold Func.isWrapper; rw [if_neg (of_decide_eq_false (by kernel_rfl))]; exact ⟨rfl, rfl⟩)
    (fun os started H enc _ => shiftMust_lifted os started H enc)
end Go.Proofs.Ytkpkjpdhlmjchaa
