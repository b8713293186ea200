/- tables: Looks over all parts. -/
import Derived.Test.YtohapcacckapoaaGreatJ17
import Derived.Test.YtohapcacckapoaaGreatJ9
import Derived.Maps.AppendAt
namespace Go.Proofs.YtohapcacckapoaaGreat
open Go Go.RowKit
attribute [local go_sem] Oper.semAt_some
theorem chg_putObj (w : World) (r : Nat) (o : Obj) : Chg (· = r) w (w.putObj r o) :=
 ⟨rfl, rfl, rfl, by rw [World.putObj_size]; exact Nat.le_refl _, fun b _ hb => World.putObj_heap_other hb⟩
theorem keepD_chg {F : Nat → Prop} {D : Nat} {W W' : World} (k : Chg F W W') (h0 : D + 1 < W.heap.size) (h1 : ¬ F D) (h2 : ¬ F (D + 1)) : KeepD D W W' := ⟨k.block (by omega) h1, k.block h0 h2⟩
theorem tabs_each (v : Option Addr) (w : World) : Calls Tryz.prog 105 #[.pointer v] w fun e w' => e = .returned (.func (.func 123) #[] #[.pointer (some ⟨w.heap.size, 0, none⟩)]) ∧ w' = w.alloc (.cells #[.pointer v] 157) := by
 go_enter Tryz.func105, Tryz.ntmps105
 go_wp2_with fail
 go_ret
 exact ⟨rfl, rfl⟩
def EachC (Bx g pb p q : Nat) (gs : Nat → Nat) (W : World) : Prop := W.cell? ⟨Bx, 0, none⟩ = some (.pointer (some ⟨g, 0, none⟩)) ∧ W.cell? ⟨g, 11, none⟩ = some (.slice (some ⟨pb, 0, none⟩) p q) ∧ ∀ i, i < p → W.cell? ⟨pb, i, none⟩ = some (.pointer (some ⟨gs i, 0, none⟩))
def sumF (f : Nat → Int) : Nat → Int
 | 0 => 0
 | k + 1 => IntKind.i64.wrap (sumF f k + f k)
end Go.Proofs.YtohapcacckapoaaGreat
