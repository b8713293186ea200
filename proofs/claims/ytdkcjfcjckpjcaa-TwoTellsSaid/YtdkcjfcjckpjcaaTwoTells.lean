/- For all lists of backends, of steps and of draws, and all numbers, cloakroomlaw28.TwoTells returns true and leaves its arguments as they were. No conditions. -/
import Derived.Test.YtdkcjfcjckpjcaaTwoI
import Derived.Test.YtdkcjfcjckpjcaaOpenB
import Derived.Test.YtdkcjfcjckpjcaaRows
namespace Go.Proofs.Ytdkcjfcjckpjcaa
open Go Go.RowKit Go.Deep Go.ChangeShapes Go.WideShapes

set_option maxRecDepth 100000 in
theorem twoTells_lifted (os : Os) (started : os.Started) (H : Type) (enc : TypeId × Value → H) :
    ReturnsInHanded {} Try.checked os 12 .any (Rows.twoTellsSpec.pre6 enc Try.prog Try.f12 Rows.twoTellsRow.domain false)
      (Rows.twoTellsSpec.post enc Try.prog Try.f12 false true false false) := by
  refine returnsInHanded_of_change (C := Try.checked) own started (by kernel_rfl) Try.func12
    (ChangeSpec.witness6 (enc := enc) (C := Try.checked) false ⟨#[], #[.slice none 0 0, .slice none 0 0, .slice none 0 0, .int .u64 0, .int .u64 0], []⟩ 8 (by kernel_rfl) (by kernel_rfl) (by kernel_rfl) (by kernel_rfl)) ?_
  intro W base args ds gs before hval hW _ _
  refine law_post laidOut (by kernel_rfl) rfl rfl Try.underlying4 ?_ hW ?_
  · intro ds hds
    match ds, hds with
    | [d0, d1, d2, d3, d4], _ => exact ⟨rfl, rfl, rfl⟩
  · obtain ⟨p, q, hA, hV, rfl, hfz, hnd⟩ := hW
    replace hA : DataW.TrodAll enc Try.prog W 0 (fun _ => true) true Try.f12.params.toList args.toList ds p := hA
    replace hval : ∀ (j : Nat) t v, Try.f12.params[j]? = some t → args[j]? = some v → Value.okWide Try.prog W .any base t v := hval
    rw [Try.params12] at hA hval
    obtain ⟨v0, vs0, _, ds0, p0, q0, hargs, rfl, rfl, h0, r0⟩ := trodAll_cons hA
    obtain ⟨v1, vs1, _, ds1, p1, q1, rfl, rfl, rfl, h1, r1⟩ := trodAll_cons r0
    obtain ⟨v2, vs2, _, ds2, p2, q2, rfl, rfl, rfl, h2, r2⟩ := trodAll_cons r1
    obtain ⟨v3, vs3, _, ds3, p3, q3, rfl, rfl, rfl, h3, r3⟩ := trodAll_cons r2
    obtain ⟨v4, vs4, _, ds4, p4, q4, rfl, rfl, rfl, h4, r4⟩ := trodAll_cons r3
    obtain ⟨rfl, rfl, rfl⟩ := trodAll_nil r4
    obtain rfl : args = #[v0, v1, v2, v3, v4] := by cases args; simp_all
    obtain ⟨A0, c0, x0, rfl, hr0, hs0, hl0⟩ := open_bks (hval 0 89 v0 rfl rfl) h0
    obtain ⟨A1, c1, x1, rfl, hr1, hs1, hl1⟩ := open_steps (hval 1 90 v1 rfl rfl) h1
    obtain ⟨A2, c2, x2, rfl, hr2, wx2, hm2⟩ := open_int_slice (k := .u64) Try.underlying91 Try.underlying56 (by kernel_rfl) (hval 2 91 v2 rfl rfl) h2
    unfold maxLen at hm2
    obtain ⟨x3, rfl, rfl, _, wx3⟩ := open_int Try.underlying56 (hval 3 56 v3 rfl rfl) h3
    obtain ⟨x4, rfl, rfl, _, wx4⟩ := open_int Try.underlying56 (hval 4 56 v4 rfl rfl) h4
    exact (by obtain ⟨m3, rfl, y3⟩ := wf_u64 wx3; obtain ⟨m4, rfl, y4⟩ := wf_u64 wx4; exact twoTells_calls x0 A0 c0 x1 A1 c1 x2 A2 c2 m3 m4 W hr0 hl0 hr1 hl1 hs1 hr2 hm2 (fun z hz => by obtain ⟨m, rfl, hm⟩ := wf_u64 (wx2 z hz); omega) y3 y4)

theorem twoTells_holds : Rows.TwoTellsSaid :=
  OpenClaim.holds_of_wide 12 Try.f12 rfl rfl rfl rfl rfl rfl rfl ⟨rfl, rfl, rfl, rfl, rfl⟩ rfl rfl rfl rfl rfl (by kernel_rfl) Try.func12 (by kernel_rfl)
    (of_decide_eq_true (by kernel_rfl)) (by unfold Func.isWrapper; rw [if_neg (of_decide_eq_false (by kernel_rfl))]; exact ⟨rfl, rfl⟩)
    (fun os started H enc _ => twoTells_lifted os started H enc)
end Go.Proofs.Ytdkcjfcjckpjcaa
