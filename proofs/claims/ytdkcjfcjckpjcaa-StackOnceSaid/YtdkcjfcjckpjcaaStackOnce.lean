/- For every number and every list, cloakroomlaw16.StackOnce returns true and leaves its arguments as they were. No conditions. -/
import Derived.Test.YtdkcjfcjckpjcaaStackOnceA
import Derived.Test.YtdkcjfcjckpjcaaRows
namespace Go.Proofs.Ytdkcjfcjckpjcaa
open Go Go.RowKit Go.Deep Go.ChangeShapes Go.WideShapes
theorem bd_u8x {x : Int} (h : (Lit.int .u8 x).wf = true) : 0 ≤ x ∧ x ≤ 255 := by
  simp [Lit.wf, IntKind.min, IntKind.max, IntKind.signed, IntKind.bits] at h
  omega

set_option maxRecDepth 100000 in
theorem stackOnce_lifted (os : Os) (started : os.Started) (H : Type) (enc : TypeId × Value → H) :
    ReturnsInHanded {} Try.checked os 5 .any (Rows.stackOnceSpec.pre6 enc Try.prog Try.f5 Rows.stackOnceRow.domain false)
      (Rows.stackOnceSpec.post enc Try.prog Try.f5 false true false false) := by
  refine returnsInHanded_of_change (C := Try.checked) own started (by kernel_rfl) Try.func5
    (ChangeSpec.witness6 (enc := enc) (C := Try.checked) false ⟨#[], #[.int .u8 0, .slice none 0 0], []⟩ 8 (by kernel_rfl) (by kernel_rfl) (by kernel_rfl) (by kernel_rfl)) ?_
  intro W base args ds gs before hval hW _ _
  refine law_post laidOut (by kernel_rfl) rfl rfl Try.underlying4 ?_ hW ?_
  · intro ds hds
    match ds, hds with
    | [d0, d1], _ => exact ⟨rfl, rfl, rfl⟩
  · obtain ⟨p, q, hA, hV, rfl, hfz, hnd⟩ := hW
    replace hA : DataW.TrodAll enc Try.prog W 0 (fun _ => true) true Try.f5.params.toList args.toList ds p := hA
    replace hval : ∀ (j : Nat) t v, Try.f5.params[j]? = some t → args[j]? = some v → Value.okWide Try.prog W .any base t v := hval
    rw [Try.params5] at hA hval
    obtain ⟨v0, vs0, _, ds0, p0, q0, hargs, rfl, rfl, h0, r0⟩ := trodAll_cons hA
    obtain ⟨v1, vs1, _, ds1, p1, q1, rfl, rfl, rfl, h1, r1⟩ := trodAll_cons r0
    obtain ⟨rfl, rfl, rfl⟩ := trodAll_nil r1
    obtain rfl : args = #[v0, v1] := by cases args; simp_all
    obtain ⟨x0, rfl, rfl, _, wx0⟩ := open_int Try.underlying5 (hval 0 5 v0 rfl rfl) h0
    obtain ⟨A1, c1, x1, rfl, hr1, wx1, hm1⟩ := open_int_slice Try.underlying22 Try.underlying3 (by kernel_rfl) (hval 1 22 v1 rfl rfl) h1
    unfold maxLen at hm1
    exact stackOnce_calls x0 (bd_u8x wx0).1 (bd_u8x wx0).2 A1 c1 x1 W hr1 hm1

theorem stackOnce_holds : Rows.StackOnceSaid :=
  OpenClaim.holds_of_wide 5 Try.f5 rfl rfl rfl rfl rfl rfl rfl ⟨rfl, rfl, rfl, rfl, rfl⟩ rfl rfl rfl rfl rfl (by kernel_rfl) Try.func5 (by kernel_rfl)
    (of_decide_eq_true (by kernel_rfl)) (by unfold Func.isWrapper; rw [if_neg (of_decide_eq_false (by kernel_rfl))]; exact ⟨rfl, rfl⟩)
    (fun os started H enc _ => stackOnce_lifted os started H enc)
end Go.Proofs.Ytdkcjfcjckpjcaa
