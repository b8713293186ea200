/- Steps of a wheel that a law is given. -/
import Derived.Test.YtfpepgeaaadpdaaWheelV
namespace Go.Proofs.Ytfpepgeaaadpdaa
open Go Go.RowKit Go.Deep Go.ChangeShapes Go.WideShapes

@[reducible] def wstpFT : FT := .pair (.int .i64) (.pair (.int .i64) (.pair (.int .i64) .unit))
def wstpOf (x : wstpFT.Val) : WStp := ⟨x.1, x.2.1, x.2.2.1⟩
theorem wstp_cells (w : World) (x : wstpFT.Val) (es : List Value) (h : Rep w wstpFT x es) : es = (wstpOf x).cells ∧ wstpWf (wstpOf x) := by
  obtain ⟨x0, x1, x2, ⟨⟩⟩ := x
  obtain ⟨_, _, rfl, ⟨rfl, _⟩, _, _, rfl, ⟨rfl, k⟩, _, _, rfl, ⟨rfl, _⟩, rfl⟩ := h
  exact ⟨rfl, k⟩
section
variable {H : Type} {enc : TypeId × Value → H}
set_option maxRecDepth 100000 in
theorem open_wsteps {r : Reach} {b0 : Nat} {w : World} {v : Value} {d : DataW H} {p : List MemPlace} (hv : Value.okWide Try.prog w r b0 22 v)
    (h : DataW.Trod enc Try.prog w 0 (fun _ => true) true 22 v d p) :
    ∃ (A : Option Addr) (c : Nat) (l : List WStp), v = .slice A l.length c ∧ Reads w w.heap.size 3 A l.length (l.flatMap WStp.cells) ∧ (∀ s ∈ l, wstpWf s) ∧ l.length ≤ 9223372036854775807 := by
  obtain ⟨a0, len, cap, rfl⟩ := okWide_slice Try.underlying22 hv
  obtain ⟨xs, hx⟩ := open_ft (.slice wstpFT) (by kernel_rfl) h
  have hall : ∀ v ∈ xs.map wstpOf, wstpWf v := by
    intro v hv
    obtain ⟨x, hx', rfl⟩ := List.mem_map.1 hv
    obtain ⟨A, c, _, _, hr⟩ := hx
    obtain ⟨i, hi, rfl⟩ := List.getElem_of_mem hx'
    obtain ⟨_, _, _, hc⟩ := hr (by omega)
    obtain ⟨es, he, _⟩ := hc i _ (List.getElem?_eq_getElem hi)
    exact (wstp_cells w _ _ he).2
  obtain ⟨A, c, hcs, hrd, hl⟩ := Rep.reads wstpOf WStp.cells (fun _ => rfl) (by decide) (fun x es h => (wstp_cells w x es h).1) hx
  unfold maxLen at *
  simp only [Value.cells, List.cons.injEq, Value.slice.injEq, and_true] at hcs
  obtain ⟨rfl, rfl, rfl⟩ := hcs
  exact ⟨_, _, _, rfl, hrd, hall, hl⟩
end
end Go.Proofs.Ytfpepgeaaadpdaa
