/- For all keys, tuples, numbers, lists of tuples and lists of instances, cloakroomlaw15.PartStays returns true and leaves its arguments as they were. No conditions. -/
import Derived.Test.YtdkcjfcjckpjcaaPartG
import Derived.Test.YtdkcjfcjckpjcaaRows
namespace Go.Proofs.Ytdkcjfcjckpjcaa
open Go Go.RowKit Go.Deep Go.ChangeShapes Go.WideShapes

set_option maxRecDepth 100000 in
theorem partStays_lifted (os : Os) (started : os.Started) (H : Type) (enc : TypeId × Value → H) :
    ReturnsInHanded {} Try.checked os 15 .any (Rows.partStaysSpec.pre6 enc Try.prog Try.f15 Rows.partStaysRow.domain false)
      (Rows.partStaysSpec.post enc Try.prog Try.f15 false true false false) := by
  refine returnsInHanded_of_change (C := Try.checked) own started (by kernel_rfl) Try.func15
    (ChangeSpec.witness6 (enc := enc) (C := Try.checked) false ⟨#[], #[.agg #[.int .u64 0, .int .u64 0], .agg #[.int .i64 0, .bool false, .int .u64 0, .int .u64 0, .bool false, .int .u64 0, .int .u64 0, .int .i64 0, .int .i64 0], .int .u8 0, .slice none 0 0, .slice none 0 0, .int .u8 0], []⟩ 8 (by kernel_rfl) (by kernel_rfl) (by kernel_rfl) (by kernel_rfl)) ?_
  intro W base args ds gs before hval hW _ _
  refine law_post laidOut (by kernel_rfl) rfl rfl Try.underlying4 ?_ hW ?_
  · intro ds hds
    match ds, hds with
    | [d0, d1, d2, d3, d4, d5], _ => exact ⟨rfl, rfl, rfl⟩
  · obtain ⟨p, q, hA, hV, rfl, hfz, hnd⟩ := hW
    replace hA : DataW.TrodAll enc Try.prog W 0 (fun _ => true) true Try.f15.params.toList args.toList ds p := hA
    replace hval : ∀ (j : Nat) t v, Try.f15.params[j]? = some t → args[j]? = some v → Value.okWide Try.prog W .any base t v := hval
    rw [Try.params15] at hA hval
    obtain ⟨v0, vs0, _, ds0, p0, q0, hargs, rfl, rfl, h0, r0⟩ := trodAll_cons hA
    obtain ⟨v1, vs1, _, ds1, p1, q1, rfl, rfl, rfl, h1, r1⟩ := trodAll_cons r0
    obtain ⟨v2, vs2, _, ds2, p2, q2, rfl, rfl, rfl, h2, r2⟩ := trodAll_cons r1
    obtain ⟨v3, vs3, _, ds3, p3, q3, rfl, rfl, rfl, h3, r3⟩ := trodAll_cons r2
    obtain ⟨v4, vs4, _, ds4, p4, q4, rfl, rfl, rfl, h4, r4⟩ := trodAll_cons r3
    obtain ⟨v5, vs5, _, ds5, p5, q5, rfl, rfl, rfl, h5, r5⟩ := trodAll_cons r4
    obtain ⟨rfl, rfl, rfl⟩ := trodAll_nil r5
    obtain rfl : args = #[v0, v1, v2, v3, v4, v5] := by cases args; simp_all
    obtain ⟨cs0, rfl, _⟩ := okWide_struct Try.underlying119 (hval 0 119 v0 rfl rfl)
    obtain ⟨⟨x0_0, x0_1, ⟨⟩⟩, hx0⟩ := open_ft (.pair (.int .u64) (.pair (.int .u64) .unit)) (by kernel_rfl) h0
    obtain ⟨_, _, hcs0, ⟨rfl, wx0_0⟩, _, _, rfl, ⟨rfl, wx0_1⟩, rfl⟩ := hx0
    obtain rfl : cs0 = #[.int .u64 x0_0, .int .u64 x0_1] := by cases cs0; simpa [Value.cells] using hcs0
    obtain ⟨cs1, rfl, _⟩ := okWide_struct Try.underlying121 (hval 1 121 v1 rfl rfl)
    obtain ⟨⟨x1_0, ⟨x1_1_0, x1_1_1, x1_1_2, ⟨⟩⟩, ⟨x1_2_0, x1_2_1, x1_2_2, ⟨⟩⟩, x1_3, x1_4, ⟨⟩⟩, hx1⟩ := open_ft (.pair (.int .i64) (.pair (.pair .bool (.pair (.int .u64) (.pair (.int .u64) .unit))) (.pair (.pair .bool (.pair (.int .u64) (.pair (.int .u64) .unit))) (.pair (.int .i64) (.pair (.int .i64) .unit))))) (by kernel_rfl) h1
    obtain ⟨_, _, hcs1, ⟨rfl, wx1_0⟩, _, _, rfl, ⟨_, _, rfl, rfl, _, _, rfl, ⟨rfl, wx1_1_1⟩, _, _, rfl, ⟨rfl, wx1_1_2⟩, rfl⟩, _, _, rfl, ⟨_, _, rfl, rfl, _, _, rfl, ⟨rfl, wx1_2_1⟩, _, _, rfl, ⟨rfl, wx1_2_2⟩, rfl⟩, _, _, rfl, ⟨rfl, wx1_3⟩, _, _, rfl, ⟨rfl, wx1_4⟩, rfl⟩ := hx1
    obtain rfl : cs1 = #[.int .i64 x1_0, .bool x1_1_0, .int .u64 x1_1_1, .int .u64 x1_1_2, .bool x1_2_0, .int .u64 x1_2_1, .int .u64 x1_2_2, .int .i64 x1_3, .int .i64 x1_4] := by cases cs1; simpa [Value.cells] using hcs1
    obtain ⟨x2, rfl, rfl, _, wx2⟩ := open_int Try.underlying5 (hval 2 5 v2 rfl rfl) h2
    obtain ⟨A3, c3, x3, rfl, hr3, hs3, hl3⟩ := open_tups (hval 3 122 v3 rfl rfl) h3
    obtain ⟨A4, c4, x4, rfl, hr4, hs4, hl4⟩ := open_bools (hval 4 39 v4 rfl rfl) h4
    obtain ⟨x5, rfl, rfl, _, wx5⟩ := open_int Try.underlying5 (hval 5 5 v5 rfl rfl) h5
    exact (by obtain ⟨m1, rfl, y1⟩ := wf_u64 wx1_1_1; obtain ⟨m2, rfl, y2⟩ := wf_u64 wx1_1_2; obtain ⟨m3, rfl, y3⟩ := wf_u64 wx1_2_1; obtain ⟨m4, rfl, y4⟩ := wf_u64 wx1_2_2; obtain ⟨n2, rfl, z2⟩ := wf_u8 wx2; obtain ⟨n5, rfl, z5⟩ := wf_u8 wx5; exact partStays_calls x0_0 x0_1 ⟨x1_0, x1_1_0, m1, m2, x1_2_0, m3, m4, x1_3, x1_4⟩ n2 A3 c3 x3 A4 c4 x4 n5 W z2 z5 hr3 hl3 hr4 hl4)

theorem partStays_holds : Rows.PartStaysSaid :=
  OpenClaim.holds_of_wide 15 Try.f15 rfl rfl rfl rfl rfl rfl rfl ⟨rfl, rfl, rfl, rfl, rfl⟩ rfl rfl rfl rfl rfl (by kernel_rfl) Try.func15 (by kernel_rfl)
    (of_decide_eq_true (by kernel_rfl)) (by unfold Func.isWrapper; rw [if_neg (of_decide_eq_false (by kernel_rfl))]; exact ⟨rfl, rfl⟩)
    (fun os started H enc _ => partStays_lifted os started H enc)
end Go.Proofs.Ytdkcjfcjckpjcaa
