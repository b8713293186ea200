/- Tied cards: what a row's listed variables give a walk; the witness' world that lays them. -/
import Derived.Test.YtodbgjnccngljaaGreatDoorJ15
import Derived.Test.YtodbgjnccngljaaGreatDoorRows
import Derived.Lay
import Derived.LaidOnce
import Derived.Deep.DeepHandedRow
import Derived.MakeChecks
import Derived.Shelf.Vars
import Derived.Stop.LaidErr
namespace Go.Proofs.YtodbgjnccngljaaGreatDoor
open Go Go.RowKit Go.Deep Go.ChangeShapes Go.WideShapes
noncomputable def laidL : List (String × DataW Unit) := [("math/bits.deBruijn32tab", Rows.laid_math_bits_deBruijn32tab), ("math/bits.deBruijn64tab", Rows.laid_math_bits_deBruijn64tab), ("internal/strconv.uint64pow10", Rows.laid_internal_strconv_uint64pow10), ("unicode/utf8.acceptRanges", Rows.laid_unicode_utf8_acceptRanges), ("unicode/utf8.first", Rows.laid_unicode_utf8_first)]
theorem laidL_plain : (laidL.all fun x => x.2.handleName?.isNone) = true := by kernel_rfl
theorem std_of_laid {W : World} (hL : laidMetH Tryz.prog laidL W) (hsh : W.ShapedOpen Tryz.prog) : Std W := by
 rw [MakeChecks.laidMetH_plain _ _ _ laidL_plain] at hL
 have h3 := laidMet.tail (laidMet.tail hL)
 exact ⟨Lib.tabIs_of_head (rest := [("unicode/utf8.acceptRanges", Rows.laid_unicode_utf8_acceptRanges), ("unicode/utf8.first", Rows.laid_unicode_utf8_first)]) (t := 133) (e := 22) (n := 20) (g := 1) (by kernel_rfl) (by kernel_rfl) Tryz.underlying133 Tryz.underlying22 (by kernel_rfl) (by kernel_rfl) h3,
  cell_of_shapedOpen_int (P := Tryz.prog) (g := 0) (t := 3) (zero := #[.int .i64 0]) hsh (of_decide_eq_true (by kernel_rfl)) (by kernel_rfl) rfl (by kernel_rfl) (by kernel_rfl) Tryz.underlying3⟩
theorem laidW_met (os : Os) (args : Array Value) : laidMetH Tryz.prog laidL ((World.laidAll Tryz.prog os laidL).forCall (fun _ _ => 0) ⟨#[], args, []⟩).memory := by
 rw [MakeChecks.laidMetH_plain _ _ _ laidL_plain]
 exact laidMet_laidAll _ (by kernel_rfl) (by kernel_rfl)
theorem witness_laid {H : Type} {enc : TypeId × Value → H} {os : Os} {f : FuncId} {fn : Func} {s : OpenSpec} {conds : List PathCond} {apart : Bool} (args : Array Value) {x : List (DataW H) × List (DataW H) × List MemPlace}
  (hsh : ((World.laidAll Tryz.prog os laidL).forCall (fun _ _ => 0) ⟨#[], args, []⟩).Shaped Tryz.prog)
  (hok : Input.okWideB Tryz.prog ((World.laidAll Tryz.prog os laidL).forCall (fun _ _ => 0) ⟨#[], args, []⟩) f ⟨#[], args, []⟩ = true)
  (hx : DataW.whole enc Tryz.prog ((World.laidAll Tryz.prog os laidL).forCall (fun _ _ => 0) ⟨#[], args, []⟩).memory fn.params.toList s.vars apart args.toList 8 = some x)
  (hconds : conds.all (PathCond.test Tryz.prog ⟨fn.params.toList, x.1, s.bare.plain.varTypes Tryz.prog, x.2.1⟩) = true) (hkk : ∀ k, s.cond = some k → k H (x.1 ++ x.2.1) = true)
  (hsz : s.bare.sizedB enc Tryz.prog fn apart ((World.laidAll Tryz.prog os laidL).forCall (fun _ _ => 0) ⟨#[], args, []⟩).memory args 8 = true) :
  ∃ (w : World) (tape : Tape) (i : Input), w.os = os ∧ (w.forCall tape i).Shaped Tryz.prog ∧ i.vars = [] ∧ Input.okWide Tryz.prog (w.forCall tape i) .any w.heap.size f i ∧
   s.preRow enc Tryz.prog fn conds apart laidL (w.forCall tape i).memory i.args ∧ ({} : Assume).holds Tryz.prog (lone (Frame.enter Tryz.prog f i.args .normal) [] (w.forCall tape i)) :=
 ⟨World.laidAll Tryz.prog os laidL, fun _ _ => 0, ⟨#[], args, []⟩, World.laidAll_os _ _ _, hsh, (Input.okWide_of_okWideB (base := 0) hok).1, (Input.okWide_of_okWideB hok).2,
  OpenSpec.preRow_of_cond 8 hx hconds hkk hsz (laidW_met os args), by
   simp only [Assume.holds]
   exact ⟨by simp, by simp, by simp, by simp, by simp⟩⟩
end Go.Proofs.YtodbgjnccngljaaGreatDoor
