/- For all numbers, cloakroomlaw01.NumScale returns true. No conditions. -/
import Derived.Test.YtdkcjfcjckpjcaaNumLaws
import Derived.Test.YtdkcjfcjckpjcaaBd
import Derived.Test.YtdkcjfcjckpjcaaRows
namespace Go.Proofs.Ytdkcjfcjckpjcaa
open Go Go.RowKit Go.Deep Go.ChangeShapes Go.WideShapes
theorem numScale_int (x y n : Int) (w : World) (hx : 0 ≤ x ∧ x < 18446744073709551616) (hy : 0 ≤ y ∧ y < 18446744073709551616) (hn : 0 ≤ n ∧ n < 65536) :
    Calls Try.prog 10 #[.int .u64 x, .int .u64 y, .int .u16 n] w fun e w' => e = .returned (.bool true) ∧ Below w.heap.size w w' := by
  obtain ⟨x, rfl⟩ := Int.eq_ofNat_of_zero_le hx.1
  obtain ⟨y, rfl⟩ := Int.eq_ofNat_of_zero_le hy.1
  exact numScale_calls x y n w (by omega) (by omega) hn.1 (by omega)

set_option maxRecDepth 100000 in
theorem numScale_lifted (os : Os) (started : os.Started) (H : Type) (enc : TypeId × Value → H) :
    ReturnsInHanded {} Try.checked os 10 .any (Rows.numScaleSpec.pre6 enc Try.prog Try.f10 Rows.numScaleRow.domain false)
      (Rows.numScaleSpec.post enc Try.prog Try.f10 false true false false) := by
  refine returnsInHanded_of_change (C := Try.checked) own started (by kernel_rfl) Try.func10
    (ChangeSpec.witness6 (enc := enc) (C := Try.checked) false ⟨#[], #[.int .u64 0, .int .u64 0, .int .u16 0], []⟩ 8 (by kernel_rfl) (by kernel_rfl) (by kernel_rfl) (by kernel_rfl)) ?_
  intro W base args ds gs before hval hW _ _
  refine law_post laidOut (by kernel_rfl) rfl rfl Try.underlying4 ?_ hW ?_
  · intro ds hds
    match ds, hds with
    | [d0, d1, d2], _ => exact ⟨rfl, rfl, rfl⟩
  · obtain ⟨p, q, hA, hV, rfl, hfz, hnd⟩ := hW
    replace hA : DataW.TrodAll enc Try.prog W 0 (fun _ => true) true Try.f10.params.toList args.toList ds p := hA
    replace hval : ∀ (j : Nat) t v, Try.f10.params[j]? = some t → args[j]? = some v → Value.okWide Try.prog W .any base t v := hval
    rw [Try.params10] at hA hval
    obtain ⟨v0, vs0, _, ds0, p0, q0, hargs, rfl, rfl, h0, r0⟩ := trodAll_cons hA
    obtain ⟨v1, vs1, _, ds1, p1, q1, rfl, rfl, rfl, h1, r1⟩ := trodAll_cons r0
    obtain ⟨v2, vs2, _, ds2, p2, q2, rfl, rfl, rfl, h2, r2⟩ := trodAll_cons r1
    obtain ⟨rfl, rfl, rfl⟩ := trodAll_nil r2
    obtain rfl : args = #[v0, v1, v2] := by cases args; simp_all
    obtain ⟨x0, rfl, rfl, _, wx0⟩ := open_int Try.underlying56 (hval 0 56 v0 rfl rfl) h0
    obtain ⟨x1, rfl, rfl, _, wx1⟩ := open_int Try.underlying56 (hval 1 56 v1 rfl rfl) h1
    obtain ⟨x2, rfl, rfl, _, wx2⟩ := open_int Try.underlying81 (hval 2 81 v2 rfl rfl) h2
    exact numScale_int x0 x1 x2 W (bd_u64 wx0) (bd_u64 wx1) (bd_u16 wx2)

theorem numScale_holds : Rows.NumScaleSaid :=
  OpenClaim.holds_of_wide 10 Try.f10 rfl rfl rfl rfl rfl rfl rfl ⟨rfl, rfl, rfl, rfl, rfl⟩ rfl rfl rfl rfl rfl (by kernel_rfl) Try.func10 (by kernel_rfl)
    (of_decide_eq_true (by kernel_rfl)) (by unfold Func.isWrapper; rw [if_neg (of_decide_eq_false (by kernel_rfl))]; exact ⟨rfl, rfl⟩)
    (fun os started H enc _ => numScale_lifted os started H enc)
end Go.Proofs.Ytdkcjfcjckpjcaa
