/- For all arguments, cloakroomlaw19.TablePlays returns true and leaves its arguments as they were. No conditions. -/
import Derived.Test.YtmkknjhalcocmaaGreatJ42
import Derived.Test.YtmkknjhalcocmaaGreatJ3
import Derived.Test.YtmkknjhalcocmaaGreatRows
import Derived.Test.YtmkknjhalcocmaaGreatJ1
namespace Go.Proofs.YtmkknjhalcocmaaGreat
open Go Go.RowKit Go.Deep Go.ChangeShapes Go.WideShapes

set_option maxRecDepth 100000 in
theorem tablePlays_lifted (os : Os) (started : os.Started) (H : Type) (enc : TypeId × Value → H) :
    ReturnsInHanded {} Tryz.checked os 3 .any (Rows.tablePlaysSpec.pre6 enc Tryz.prog Tryz.f3 Rows.tablePlaysRow.domain false)
      (Rows.tablePlaysSpec.post enc Tryz.prog Tryz.f3 false true false false) := by
  refine returnsInHanded_of_change (C := Tryz.checked) own started (by kernel_rfl) Tryz.func3
    (ChangeSpec.witness6 (enc := enc) (C := Tryz.checked) false ⟨#[], #[.int .i64 0, .agg #[.int .i64 0, .int .i64 0, .int .i64 0, .int .i64 0], .int .i64 0, .slice none 0 0], []⟩ 8 (by kernel_rfl) (by kernel_rfl) (by kernel_rfl) (by kernel_rfl)) ?_
  intro W base args ds gs before hval hW _ _
  refine law_post laidOut (by kernel_rfl) rfl rfl Tryz.underlying4 ?_ hW ?_
  · intro ds hds
    match ds, hds with
    | [d0, d1, d2, d3], _ => exact ⟨rfl, rfl, rfl⟩
  · obtain ⟨p, q, hA, hV, rfl, hfz, hnd⟩ := hW
    replace hA : DataW.TrodAll enc Tryz.prog W 0 (fun _ => true) true Tryz.f3.params.toList args.toList ds p := hA
    replace hval : ∀ (j : Nat) t v, Tryz.f3.params[j]? = some t → args[j]? = some v → Value.okWide Tryz.prog W .any base t v := hval
    rw [Tryz.params3] at hA hval
    obtain ⟨v0, vs0, _, ds0, p0, q0, hargs, rfl, rfl, h0, r0⟩ := trodAll_cons hA
    obtain ⟨v1, vs1, _, ds1, p1, q1, rfl, rfl, rfl, h1, r1⟩ := trodAll_cons r0
    obtain ⟨v2, vs2, _, ds2, p2, q2, rfl, rfl, rfl, h2, r2⟩ := trodAll_cons r1
    obtain ⟨v3, vs3, _, ds3, p3, q3, rfl, rfl, rfl, h3, r3⟩ := trodAll_cons r2
    obtain ⟨rfl, rfl, rfl⟩ := trodAll_nil r3
    obtain rfl : args = #[v0, v1, v2, v3] := by cases args; simp_all
    obtain ⟨x0, rfl, rfl, _, wx0⟩ := open_int Tryz.underlying3 (hval 0 3 v0 rfl rfl) h0
    obtain ⟨cs1, rfl, _⟩ := okWide_struct Tryz.underlying23 (hval 1 23 v1 rfl rfl)
    obtain ⟨⟨x1_0, x1_1, x1_2, x1_3, ⟨⟩⟩, hx1⟩ := open_ft (.pair (.int .i64) (.pair (.int .i64) (.pair (.int .i64) (.pair (.int .i64) .unit)))) (by kernel_rfl) h1
    obtain ⟨_, _, hcs1, ⟨rfl, wx1_0⟩, _, _, rfl, ⟨rfl, wx1_1⟩, _, _, rfl, ⟨rfl, wx1_2⟩, _, _, rfl, ⟨rfl, wx1_3⟩, rfl⟩ := hx1
    obtain rfl : cs1 = #[.int .i64 x1_0, .int .i64 x1_1, .int .i64 x1_2, .int .i64 x1_3] := by cases cs1; simpa [Value.cells] using hcs1
    obtain ⟨x2, rfl, rfl, _, wx2⟩ := open_int Tryz.underlying3 (hval 2 3 v2 rfl rfl) h2
    obtain ⟨A3, c3, x3, rfl, hr3, hs3, hl3⟩ := open_tsteps (hval 3 24 v3 rfl rfl) h3
    exact tablePlays_calls x0 x1_0 x1_1 x1_2 x1_3 x2 x3 A3 c3 W hr3

set_option maxRecDepth 100000 in
set_option maxHeartbeats 4000000 in
theorem tablePlays_closed : joinedFacts Tryz.prog 3 Tryz.f3 Rows.tablePlaysSpec Rows.tablePlaysRow = true := by
  unfold joinedFacts
  repeat' (with_reducible apply and_t)
  all_goals first | with_reducible exact may_enter | ((with_reducible show (_ == Program.liftsFinal _) = true); exact lifts_final) | (as_aux_lemma => kernel_rfl)
theorem tablePlays_holds : Rows.TablePlaysSaid :=
  OpenClaim.holds_of_wide 3 Tryz.f3 rfl rfl rfl rfl rfl rfl rfl ⟨rfl, rfl, rfl, rfl, rfl⟩ rfl rfl rfl rfl rfl (by as_aux_lemma => kernel_rfl) Tryz.func3 tablePlays_closed
    (of_decide_eq_true (by kernel_rfl)) (by unfold Func.isWrapper; rw [if_neg (of_decide_eq_false (by kernel_rfl))]; exact ⟨rfl, rfl⟩)
    (fun os started H enc _ => tablePlays_lifted os started H enc)
end Go.Proofs.YtmkknjhalcocmaaGreat
