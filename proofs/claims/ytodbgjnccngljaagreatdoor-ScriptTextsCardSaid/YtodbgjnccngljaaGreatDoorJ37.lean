/- The acts that a law is given. -/
import Derived.Test.YtodbgjnccngljaaGreatDoorJ36
import Derived.Test.YtodbgjnccngljaaGreatDoorJ4
namespace Go.Proofs.YtodbgjnccngljaaGreatDoor
open Go Go.RowKit Go.Deep Go.ChangeShapes Go.WideShapes
@[reducible] def polFT : FT := .pair (.int .i64) (.pair (.int .i64) .unit)
@[reducible] def actFT : FT := .pair (.int .i64) (.pair (.int .i64) (.pair (.int .i64) (.pair (.int .i64) (.pair .str (.pair (.int .u64) (.pair (.int .u64) (.pair .bool (.pair adrFT (.pair polFT .unit)))))))))
def actOf (x : actFT.Val) : ActL := ⟨x.1, x.2.1, x.2.2.1, x.2.2.2.1, x.2.2.2.2.1.data.toList, x.2.2.2.2.2.1.toNat, x.2.2.2.2.2.2.1.toNat, x.2.2.2.2.2.2.2.1, x.2.2.2.2.2.2.2.2.1.1, x.2.2.2.2.2.2.2.2.1.2.1.toNat, x.2.2.2.2.2.2.2.2.1.2.2.1.toNat, x.2.2.2.2.2.2.2.2.2.1.1, x.2.2.2.2.2.2.2.2.2.1.2.1⟩
theorem act_cells (w : World) (x : actFT.Val) (es : List Value) (h : Rep w actFT x es) : es = actC (actOf x) ∧ actIn (actOf x) := by
 obtain ⟨x0, x1, x2, x3, x4, x5, x6, x7, ⟨y0, y1, y2, ⟨⟩⟩, ⟨z0, z1, ⟨⟩⟩, ⟨⟩⟩ := x
 obtain ⟨_, _, rfl, ⟨rfl, k0⟩, _, _, rfl, ⟨rfl, k1⟩, _, _, rfl, ⟨rfl, k2⟩, _, _, rfl, ⟨rfl, k3⟩, _, _, rfl, ⟨rfl, k4⟩, _, _, rfl, ⟨rfl, k5⟩, _, _, rfl, ⟨rfl, k6⟩, _, _, rfl, rfl, _, _, rfl, ⟨_, _, rfl, rfl, _, _, rfl, ⟨rfl, k7⟩, _, _, rfl, ⟨rfl, k8⟩, rfl⟩, _, _, rfl, ⟨_, _, rfl, ⟨rfl, k9⟩, _, _, rfl, ⟨rfl, k10⟩, rfl⟩, rfl⟩ := h
 obtain ⟨m5, rfl, q5⟩ := wf_u64 k5
 obtain ⟨m6, rfl, q6⟩ := wf_u64 k6
 obtain ⟨m7, rfl, q7⟩ := wf_u64 k7
 obtain ⟨m8, rfl, q8⟩ := wf_u64 k8
 refine ⟨?_, ⟨q5, q6, q7, q8⟩, ?_⟩
 · simp [actOf, actC]
 ·
  unfold maxLen at k4
  exact k4
section
variable {H : Type} {enc : TypeId × Value → H}
theorem open_ftw {P : Program} {t : TypeId} {v : Value} {w : World} {d : DataW H} {p : List MemPlace} (ft : FT) (hfit : fitsT P 24 t ft = true)
  (h : DataW.Trod enc P w 0 (fun _ => true) true t v d p) : ∃ x : ft.Val, Rep w ft x v.cells.toList := by
 obtain ⟨fuel, hf⟩ := h
 exact rep_of_trod 0 _ _ 24 t ft hfit fuel _ _ hf
set_option maxRecDepth 100000 in
theorem open_acts {r : Reach} {b0 : Nat} {w : World} {v : Value} {d : DataW H} {p : List MemPlace} (hv : Value.okWide Tryz.prog w r b0 44 v)
  (h : DataW.Trod enc Tryz.prog w 0 (fun _ => true) true 44 v d p) :
  ∃ (A : Option Addr) (c : Nat) (l : List ActL), v = .slice A l.length c ∧ Reads w w.heap.size 13 A l.length (l.flatMap actC) ∧ (∀ v ∈ l, actIn v) ∧ l.length ≤ 9223372036854775807 := by
 obtain ⟨a0, len, cap, rfl⟩ := okWide_slice Tryz.underlying44 hv
 obtain ⟨xs, hx⟩ := open_ftw (.slice actFT) (by kernel_rfl) h
 have hall : ∀ v ∈ xs.map actOf, actIn v := by
  intro v hv
  obtain ⟨x, hx', rfl⟩ := List.mem_map.1 hv
  obtain ⟨A, c, _, _, hr⟩ := hx
  obtain ⟨i, hi, rfl⟩ := List.getElem_of_mem hx'
  obtain ⟨_, _, _, hc⟩ := hr (by omega)
  obtain ⟨es, he, _⟩ := hc i _ (List.getElem?_eq_getElem hi)
  exact (act_cells w _ _ he).2
 obtain ⟨A, c, hcs, hrd, hl⟩ := Rep.reads actOf actC (fun _ => rfl) (by decide) (fun x es h => (act_cells w x es h).1) hx
 unfold maxLen at *
 simp only [Value.cells, List.cons.injEq, Value.slice.injEq, and_true] at hcs
 obtain ⟨rfl, rfl, rfl⟩ := hcs
 exact ⟨_, _, _, rfl, hrd, hall, hl⟩
end
end Go.Proofs.YtodbgjnccngljaaGreatDoor
