/- The list of verdicts that a law is given. -/
import Derived.Test.YtdkcjfcjckpjcaaVerdictC
import Derived.Test.YtdkcjfcjckpjcaaStructs
namespace Go.Proofs.Ytdkcjfcjckpjcaa
open Go Go.RowKit Go.Deep Go.ChangeShapes Go.WideShapes

@[reducible] def vdFT : FT := .pair (.int .i64) (.pair (.int .i64) (.pair (.int .i64) (.pair (.int .u64) (.pair .bool (.pair .str .unit)))))
def vdOf (x : vdFT.Val) : Vd := ⟨x.1, x.2.1, x.2.2.1, x.2.2.2.1, x.2.2.2.2.1, x.2.2.2.2.2.1⟩
theorem vd_cells (w : World) (x : vdFT.Val) (es : List Value) (h : Rep w vdFT x es) : es = (vdOf x).cells.toList ∧ (vdOf x).s.size ≤ maxLen := by
  obtain ⟨x0, x1, x2, x3, x4, x5, ⟨⟩⟩ := x
  obtain ⟨_, _, rfl, ⟨rfl, _⟩, _, _, rfl, ⟨rfl, _⟩, _, _, rfl, ⟨rfl, _⟩, _, _, rfl, ⟨rfl, _⟩, _, _, rfl, rfl, _, _, rfl, ⟨rfl, hs⟩, rfl⟩ := h
  exact ⟨rfl, hs⟩
section
variable {H : Type} {enc : TypeId × Value → H}
set_option maxRecDepth 100000 in
theorem open_vds {r : Reach} {b0 : Nat} {w : World} {v : Value} {d : DataW H} {p : List MemPlace} (hv : Value.okWide Try.prog w r b0 49 v)
    (h : DataW.Trod enc Try.prog w 0 (fun _ => true) true 49 v d p) :
    ∃ (A : Option Addr) (c : Nat) (l : List Vd), v = .slice A l.length c ∧ Reads w w.heap.size 6 A l.length (vcells l) ∧ (∀ v ∈ l, v.s.size ≤ 9223372036854775807) ∧ l.length ≤ 9223372036854775807 := by
  obtain ⟨a0, len, cap, rfl⟩ := okWide_slice Try.underlying49 hv
  obtain ⟨xs, hx⟩ := open_ft (.slice vdFT) (by kernel_rfl) h
  have hall : ∀ v ∈ xs.map vdOf, v.s.size ≤ maxLen := by
    intro v hv
    obtain ⟨x, hx', rfl⟩ := List.mem_map.1 hv
    obtain ⟨A, c, _, _, hr⟩ := hx
    obtain ⟨i, hi, rfl⟩ := List.getElem_of_mem hx'
    obtain ⟨_, _, _, hc⟩ := hr (by omega)
    obtain ⟨es, he, _⟩ := hc i _ (List.getElem?_eq_getElem hi)
    exact (vd_cells w _ _ he).2
  obtain ⟨A, c, hcs, hrd, hl⟩ := Rep.reads vdOf (fun v => v.cells.toList) (fun _ => rfl) (by decide) (fun x es h => (vd_cells w x es h).1) hx
  unfold maxLen at *
  simp only [Value.cells, List.cons.injEq, Value.slice.injEq, and_true] at hcs
  obtain ⟨rfl, rfl, rfl⟩ := hcs
  exact ⟨_, _, _, rfl, hrd, hall, hl⟩
end
end Go.Proofs.Ytdkcjfcjckpjcaa
