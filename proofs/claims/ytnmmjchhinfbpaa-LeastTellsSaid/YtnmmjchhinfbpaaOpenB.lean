/- Backends and steps that a law is given. -/
import Derived.Test.YtnmmjchhinfbpaaTwoH
namespace Go.Proofs.Ytnmmjchhinfbpaa
open Go Go.RowKit Go.Deep Go.ChangeShapes Go.WideShapes

@[reducible] def bkFT : FT := .pair (.int .i64) (.pair (.int .i64) (.pair (.int .i64) (.pair adrFT .unit)))
def bkOf (x : bkFT.Val) : Bk := ⟨x.1, x.2.1, x.2.2.1, x.2.2.2.1.1, x.2.2.2.1.2.1, x.2.2.2.1.2.2.1⟩
theorem bk_cells (w : World) (x : bkFT.Val) (es : List Value) (h : Rep w bkFT x es) : es = (bkOf x).cells := by
  obtain ⟨x0, x1, x2, ⟨y0, y1, y2, ⟨⟩⟩, ⟨⟩⟩ := x
  obtain ⟨_, _, rfl, ⟨rfl, _⟩, _, _, rfl, ⟨rfl, _⟩, _, _, rfl, ⟨rfl, _⟩, _, _, rfl, ⟨_, _, rfl, rfl, _, _, rfl, ⟨rfl, _⟩, _, _, rfl, ⟨rfl, _⟩, rfl⟩, rfl⟩ := h
  rfl
@[reducible] def stpFT : FT := .pair (.int .i64) (.pair (.int .i64) (.pair (.int .i64) .unit))
def stpOf (x : stpFT.Val) : Stp := ⟨x.1, x.2.1, x.2.2.1⟩
theorem stp_cells (w : World) (x : stpFT.Val) (es : List Value) (h : Rep w stpFT x es) : es = (stpOf x).cells ∧ stpWf (stpOf x) := by
  obtain ⟨x0, x1, x2, ⟨⟩⟩ := x
  obtain ⟨_, _, rfl, ⟨rfl, _⟩, _, _, rfl, ⟨rfl, k⟩, _, _, rfl, ⟨rfl, _⟩, rfl⟩ := h
  exact ⟨rfl, k⟩
section
variable {H : Type} {enc : TypeId × Value → H}
set_option maxRecDepth 100000 in
theorem open_bks {r : Reach} {b0 : Nat} {w : World} {v : Value} {d : DataW H} {p : List MemPlace} (hv : Value.okWide Try.prog w r b0 22 v)
    (h : DataW.Trod enc Try.prog w 0 (fun _ => true) true 22 v d p) :
    ∃ (A : Option Addr) (c : Nat) (l : List Bk), v = .slice A l.length c ∧ Reads w w.heap.size 6 A l.length (l.flatMap Bk.cells) ∧ True ∧ l.length ≤ 9223372036854775807 := by
  obtain ⟨a0, len, cap, rfl⟩ := okWide_slice Try.underlying22 hv
  obtain ⟨xs, hx⟩ := open_ft (.slice bkFT) (by kernel_rfl) h
  obtain ⟨A, c, hcs, hrd, hl⟩ := Rep.reads bkOf Bk.cells (fun _ => rfl) (by decide) (fun x es h => bk_cells w x es h) hx
  unfold maxLen at *
  simp only [Value.cells, List.cons.injEq, Value.slice.injEq, and_true] at hcs
  obtain ⟨rfl, rfl, rfl⟩ := hcs
  exact ⟨_, _, _, rfl, hrd, trivial, hl⟩
set_option maxRecDepth 100000 in
theorem open_steps {r : Reach} {b0 : Nat} {w : World} {v : Value} {d : DataW H} {p : List MemPlace} (hv : Value.okWide Try.prog w r b0 53 v)
    (h : DataW.Trod enc Try.prog w 0 (fun _ => true) true 53 v d p) :
    ∃ (A : Option Addr) (c : Nat) (l : List Stp), v = .slice A l.length c ∧ Reads w w.heap.size 3 A l.length (l.flatMap Stp.cells) ∧ (∀ s ∈ l, stpWf s) ∧ l.length ≤ 9223372036854775807 := by
  obtain ⟨a0, len, cap, rfl⟩ := okWide_slice Try.underlying53 hv
  obtain ⟨xs, hx⟩ := open_ft (.slice stpFT) (by kernel_rfl) h
  have hall : ∀ v ∈ xs.map stpOf, stpWf v := by
    intro v hv
    obtain ⟨x, hx', rfl⟩ := List.mem_map.1 hv
    obtain ⟨A, c, _, _, hr⟩ := hx
    obtain ⟨i, hi, rfl⟩ := List.getElem_of_mem hx'
    obtain ⟨_, _, _, hc⟩ := hr (by omega)
    obtain ⟨es, he, _⟩ := hc i _ (List.getElem?_eq_getElem hi)
    exact (stp_cells w _ _ he).2
  obtain ⟨A, c, hcs, hrd, hl⟩ := Rep.reads stpOf Stp.cells (fun _ => rfl) (by decide) (fun x es h => (stp_cells w x es h).1) hx
  unfold maxLen at *
  simp only [Value.cells, List.cons.injEq, Value.slice.injEq, and_true] at hcs
  obtain ⟨rfl, rfl, rfl⟩ := hcs
  exact ⟨_, _, _, rfl, hrd, hall, hl⟩
end
end Go.Proofs.Ytnmmjchhinfbpaa
