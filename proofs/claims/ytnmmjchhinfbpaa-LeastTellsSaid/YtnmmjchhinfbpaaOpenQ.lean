/- Times told that a law is given. -/
import Derived.Test.YtnmmjchhinfbpaaOpenB
import Derived.Test.YtnmmjchhinfbpaaLeastK
namespace Go.Proofs.Ytnmmjchhinfbpaa
open Go Go.RowKit Go.Deep Go.ChangeShapes Go.WideShapes

@[reducible] def tmFT : FT := .pair (.int .i64) (.pair (.float .f64) .unit)
def tmsOf (x : tmFT.Val) : Int × Nat := ⟨x.1, x.2.1⟩
def tmWf (x : Int × Nat) : Prop := (Lit.int .i64 x.1).wf = true ∧ x.2 < 18446744073709551616
theorem tm_cells (w : World) (x : tmFT.Val) (es : List Value) (h : Rep w tmFT x es) : es = tcell (tmsOf x) ∧ tmWf (tmsOf x) := by
  obtain ⟨x0, x1, ⟨⟩⟩ := x
  obtain ⟨_, _, rfl, ⟨rfl, k⟩, _, _, rfl, ⟨rfl, k2⟩, rfl⟩ := h
  have k3 : x1 < 18446744073709551616 := by simpa [Lit.wf] using k2
  exact ⟨rfl, k, k3⟩
section
variable {H : Type} {enc : TypeId × Value → H}
theorem okWide_float {P : Program} {w : World} {r : Reach} {base : Nat} {t : TypeId} {v : Value} {k : FloatKind} (ht : P.underlying t = some (.float k)) (h : Value.okWide P w r base t v) : ∃ n, v = .float k n := by
  simp only [Value.okWide, ht, Cell.okWide] at h
  cases v <;> simp_all [Cell.ok]
theorem open_float {P : Program} {r : Reach} {b0 : Nat} {w : World} {t : TypeId} {k : FloatKind} {v : Value} {d : DataW H} {p : List MemPlace} (ht : P.underlying t = some (.float k)) (hv : Value.okWide P w r b0 t v)
    (h : DataW.Trod enc P w 0 (fun _ => true) true t v d p) : ∃ n, v = .float k n ∧ (Lit.float k n).wf = true := by
  obtain ⟨n, rfl⟩ := okWide_float ht hv
  obtain ⟨fuel, hf⟩ := h
  obtain ⟨m, h1, h2⟩ := trod_float ht hf
  simp [Value.cells] at h1
  subst h1
  exact ⟨n, rfl, h2⟩
set_option maxRecDepth 100000 in
theorem open_tms {r : Reach} {b0 : Nat} {w : World} {v : Value} {d : DataW H} {p : List MemPlace} (hv : Value.okWide Try.prog w r b0 54 v)
    (h : DataW.Trod enc Try.prog w 0 (fun _ => true) true 54 v d p) :
    ∃ (A : Option Addr) (c : Nat) (l : List (Int × Nat)), v = .slice A l.length c ∧ Reads w w.heap.size 2 A l.length (l.flatMap tcell) ∧ (∀ s ∈ l, tmWf s) ∧ l.length ≤ 9223372036854775807 := by
  obtain ⟨a0, len, cap, rfl⟩ := okWide_slice Try.underlying54 hv
  obtain ⟨xs, hx⟩ := open_ft (.slice tmFT) (by kernel_rfl) h
  have hall : ∀ v ∈ xs.map tmsOf, tmWf v := by
    intro v hv
    obtain ⟨x, hx', rfl⟩ := List.mem_map.1 hv
    obtain ⟨A, c, _, _, hr⟩ := hx
    obtain ⟨i, hi, rfl⟩ := List.getElem_of_mem hx'
    obtain ⟨_, _, _, hc⟩ := hr (by omega)
    obtain ⟨es, he, _⟩ := hc i _ (List.getElem?_eq_getElem hi)
    exact (tm_cells w _ _ he).2
  obtain ⟨A, c, hcs, hrd, hl⟩ := Rep.reads tmsOf tcell (fun _ => rfl) (by decide) (fun x es h => (tm_cells w x es h).1) hx
  unfold maxLen at *
  simp only [Value.cells, List.cons.injEq, Value.slice.injEq, and_true] at hcs
  obtain ⟨rfl, rfl, rfl⟩ := hcs
  exact ⟨_, _, _, rfl, hrd, hall, hl⟩
end
end Go.Proofs.Ytnmmjchhinfbpaa
