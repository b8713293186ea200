/- For every list of backends, of loads and of times, every number with a point and two numbers, cloakroomlaw27.LeastTells returns true and leaves its arguments as they were. No conditions. -/
import Derived.Test.YtnmmjchhinfbpaaLeastV
import Derived.Test.YtnmmjchhinfbpaaOpenQ
import Derived.Test.YtnmmjchhinfbpaaOpenB
import Derived.Test.YtnmmjchhinfbpaaRows
import Derived.Test.YtnmmjchhinfbpaaFacts
namespace Go.Proofs.Ytnmmjchhinfbpaa
open Go Go.RowKit Go.Deep Go.ChangeShapes Go.WideShapes

set_option maxRecDepth 100000 in
theorem leastTells_lifted (os : Os) (started : os.Started) (H : Type) (enc : TypeId × Value → H) :
    ReturnsInHanded {} Try.checked os 5 .any (Rows.leastTellsSpec.pre6 enc Try.prog Try.f5 Rows.leastTellsRow.domain false)
      (Rows.leastTellsSpec.post enc Try.prog Try.f5 false true false false) := by
  refine returnsInHanded_of_change (C := Try.checked) own started (by kernel_rfl) Try.func5
    (ChangeSpec.witness6 (enc := enc) (C := Try.checked) false ⟨#[], #[.slice none 0 0, .slice none 0 0, .slice none 0 0, .float .f64 0, .int .i64 0, .int .i64 0], []⟩ 8 (by kernel_rfl) (by kernel_rfl) (by kernel_rfl) (by kernel_rfl)) ?_
  intro W base args ds gs before hval hW _ _
  refine law_post laidOut (by kernel_rfl) rfl rfl Try.underlying4 ?_ hW ?_
  · intro ds hds
    match ds, hds with
    | [d0, d1, d2, d3, d4, d5], _ => exact ⟨rfl, rfl, rfl⟩
  · obtain ⟨p, q, hA, hV, rfl, hfz, hnd⟩ := hW
    replace hA : DataW.TrodAll enc Try.prog W 0 (fun _ => true) true Try.f5.params.toList args.toList ds p := hA
    replace hval : ∀ (j : Nat) t v, Try.f5.params[j]? = some t → args[j]? = some v → Value.okWide Try.prog W .any base t v := hval
    rw [Try.params5] at hA hval
    obtain ⟨v0, vs0, _, ds0, p0, q0, hargs, rfl, rfl, h0, r0⟩ := trodAll_cons hA
    obtain ⟨v1, vs1, _, ds1, p1, q1, rfl, rfl, rfl, h1, r1⟩ := trodAll_cons r0
    obtain ⟨v2, vs2, _, ds2, p2, q2, rfl, rfl, rfl, h2, r2⟩ := trodAll_cons r1
    obtain ⟨v3, vs3, _, ds3, p3, q3, rfl, rfl, rfl, h3, r3⟩ := trodAll_cons r2
    obtain ⟨v4, vs4, _, ds4, p4, q4, rfl, rfl, rfl, h4, r4⟩ := trodAll_cons r3
    obtain ⟨v5, vs5, _, ds5, p5, q5, rfl, rfl, rfl, h5, r5⟩ := trodAll_cons r4
    obtain ⟨rfl, rfl, rfl⟩ := trodAll_nil r5
    obtain rfl : args = #[v0, v1, v2, v3, v4, v5] := by cases args; simp_all
    obtain ⟨A0, c0, x0, rfl, hr0, hs0, hl0⟩ := open_bks (hval 0 22 v0 rfl rfl) h0
    obtain ⟨A1, c1, x1, rfl, hr1, hs1, hl1⟩ := open_steps (hval 1 53 v1 rfl rfl) h1
    obtain ⟨A2, c2, x2, rfl, hr2, hs2, hl2⟩ := open_tms (hval 2 54 v2 rfl rfl) h2
    obtain ⟨x3, rfl, wx3⟩ := open_float Try.underlying55 (hval 3 55 v3 rfl rfl) h3
    obtain ⟨x4, rfl, rfl, _, wx4⟩ := open_int Try.underlying3 (hval 4 3 v4 rfl rfl) h4
    obtain ⟨x5, rfl, rfl, _, wx5⟩ := open_int Try.underlying3 (hval 5 3 v5 rfl rfl) h5
    exact (leastTells_calls x0 A0 c0 x1 A1 c1 x2 A2 c2 x3 x4 x5 W hr0 hl0 hr1 hl1 hs1 hr2 hl2 hs2 (by simpa [Lit.wf] using wx3))

set_option maxRecDepth 100000 in
set_option maxHeartbeats 4000000 in
theorem leastTells_closed : joinedFacts Try.prog 5 Try.f5 Rows.leastTellsSpec Rows.leastTellsRow = true := by
  unfold joinedFacts
  repeat' (with_reducible apply and_t)
  all_goals first | with_reducible exact may_enter | ((with_reducible show (_ == Program.liftsFinal _) = true); exact lifts_final) | (as_aux_lemma => kernel_rfl)
theorem leastTells_holds : Rows.LeastTellsSaid :=
  OpenClaim.holds_of_wide 5 Try.f5 rfl rfl rfl rfl rfl rfl rfl ⟨rfl, rfl, rfl, rfl, rfl⟩ rfl rfl rfl rfl rfl (by as_aux_lemma => kernel_rfl) Try.func5 leastTells_closed
    (of_decide_eq_true (by kernel_rfl)) (by unfold Func.isWrapper; rw [if_neg (of_decide_eq_false (by kernel_rfl))]; exact ⟨rfl, rfl⟩)
    (fun os started H enc _ => leastTells_lifted os started H enc)
end Go.Proofs.Ytnmmjchhinfbpaa
