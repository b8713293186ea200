/- SameInts of the references, and readings of rows. -/
import Derived.Test.YtodbgjnccngljaaDoorJ3
import Derived.Test.YtodbgjnccngljaaDoorChecked
import Derived.WalkLawsBesides
import Derived.Lib.Hide
import Derived.Deep.OwnRows
import Derived.Deep.QuietTactic
import Derived.BigQuiet
namespace Go.Proofs.YtodbgjnccngljaaDoor
open Go Go.RowKit Go.Deep

theorem own : ownKnob Tryd.prog.godebug = none := by kernel_rfl
theorem laidOut : laidOutB Tryd.prog = true := by kernel_rfl
theorem cells_int : Tryd.prog.cellsOf 3 = 1 := by kernel_rfl
theorem info_int : (Tryd.prog.info? 3).map (fun i => (i.zero, i.size, i.bytes)) = some (some (.int .i64 0), 1, 8) := by kernel_rfl

theorem quiet_add_left {P : Program} {f : FuncId} {args : Array Value} {w : World} {a n : Nat} {v : Value}
    (h : Calls P f args (w.drewN (a + n)) fun e w' => e = .returned v ∧ w.drewN (a + n) = w') :
    Calls P f args (w.drewN (a + n)) fun e w'' => e = .returned v ∧ ∃ m, w'' = w.drewN (a + m) :=
  h.mono fun _ _ ⟨he, hm⟩ => ⟨he, n, hm.symm⟩
theorem quiet_left {P : Program} {f : FuncId} {args : Array Value} {w : World} {n : Nat} {v : Value}
    (h : Calls P f args (w.drewN n) fun e w' => e = .returned v ∧ w.drewN n = w') : Calls P f args (w.drewN n) fun e w'' => e = .returned v ∧ ∃ m, w'' = w.drewN m :=
  h.mono fun _ _ ⟨he, hm⟩ => ⟨he, n, hm.symm⟩
theorem reads_of_row {w : World} {B g : Nat} {t : TypeId} {α : Type} {xs : List α} {d : α} {F : α → Value} (h : w.rowIs g t xs.length (fun i => F (xs.getD i d))) (hg : g < B) :
    Reads w B 1 (some ⟨g, 0, none⟩) xs.length (xs.map F) := by
  refine ⟨by simp, fun _ => ⟨_, rfl, hg, fun j u hu => ?_⟩⟩
  rw [List.getElem?_map, Option.map_eq_some_iff] at hu
  obtain ⟨x, hx, rfl⟩ := hu
  have hj : j < xs.length := (List.getElem?_eq_some_iff.1 hx).1
  have hc := h.cell hj
  have e : (⟨g, 0, none⟩ : Addr).add j = ⟨g, j, none⟩ := by unfold Addr.add; split <;> simp_all
  rw [e, hc, List.getD_eq_getElem?_getD, hx]
  rfl

theorem reads_lit (w : World) (B : Nat) (t : TypeId) (xs : List Value) (hB : w.heap.size < B) : Reads (w.alloc (.cells xs.toArray t)) B 1 (some ⟨w.heap.size, 0, none⟩) xs.length xs := by
  refine ⟨by simp, fun _ => ⟨_, rfl, hB, fun j u hu => ?_⟩⟩
  have e : (⟨w.heap.size, 0, none⟩ : Addr).add j = ⟨w.heap.size, j, none⟩ := by unfold Addr.add; split <;> simp_all
  rw [e, (Blk.new w t xs.toArray).cell j]
  simpa using hu
theorem reads_lit1 (w : World) (b B : Nat) (t : TypeId) (v : Value) (hb : b = w.heap.size) (hB : w.heap.size < B) : Reads (w.alloc (.cells #[v] t)) B 1 (some ⟨b, 0, none⟩) 1 [v] := by
  subst hb
  exact reads_lit w B t [v] hB
theorem reads_ints (w : World) (B : Nat) (t : TypeId) (xs : List Int) (hB : w.heap.size < B) : Reads (w.alloc (.cells (xs.map (Value.int .i64)).toArray t)) B 1 (some ⟨w.heap.size, 0, none⟩) xs.length (xs.map (.int .i64)) := by
  have := reads_lit w B t (xs.map (Value.int .i64)) hB
  rwa [List.length_map] at this

theorem Reads.drewN {w : World} {B size n : Nat} {A : Option Addr} {xs : List Value} (h : Reads w B size A n xs) (k : Nat) : Reads (w.drewN k) B size A n xs := h
theorem Reads.int_at {w : World} {B : Nat} {A : Option Addr} {xs : List Int} {k : IntKind} {i : Nat} (h : Reads w B 1 A xs.length (xs.map (.int k))) (hi : i < xs.length) :
    ∃ ad, A = some ad ∧ ad.block < B ∧ w.cell? (ad.add i) = some (.int k (xs.getD i 0)) := by
  obtain ⟨ad, u, rfl, hb, hu, hc⟩ := h.at_ hi
  refine ⟨ad, rfl, hb, ?_⟩
  rw [hc, List.getD_eq_getElem?_getD, List.getElem?_eq_getElem hi]
  rw [List.getElem?_map, List.getElem?_eq_getElem hi] at hu
  simpa using hu.symm

def sameL : List Int → List Int → Bool := fun a b => a == b
theorem sameL_step (a b : List Int) (h : a.length = b.length) (he : ∀ j, j < a.length → a.getD j 0 = b.getD j 0) : sameL a b = true := by
  have : a = b := List.ext_getElem h fun i h1 h2 => by
    have := he i h1
    simpa [List.getD_eq_getElem?_getD, h1, h2] using this
  simp [sameL, this]
theorem sameL_no (a b : List Int) (j : Nat) (hne : a.getD j 0 ≠ b.getD j 0) : sameL a b = false := by
  simp only [sameL, beq_eq_false_iff_ne]
  rintro rfl
  exact hne rfl
theorem sameL_len (a b : List Int) (h : a.length ≠ b.length) : sameL a b = false := by
  simp only [sameL, beq_eq_false_iff_ne]
  rintro rfl
  exact h rfl

end Go.Proofs.YtodbgjnccngljaaDoor
