/- Tuples and bools that a law is given. -/
import Derived.Test.YtdkcjfcjckpjcaaPartC
import Derived.Test.YtdkcjfcjckpjcaaOpenZ
namespace Go.Proofs.Ytdkcjfcjckpjcaa
open Go Go.RowKit Go.Deep Go.ChangeShapes Go.WideShapes

@[reducible] def tupFT : FT := .pair (.int .i64) (.pair adrFT (.pair adrFT (.pair (.int .i64) (.pair (.int .i64) .unit))))
def tupOf (x : tupFT.Val) : Tup := ⟨x.1, x.2.1.1, x.2.1.2.1.toNat, x.2.1.2.2.1.toNat, x.2.2.1.1, x.2.2.1.2.1.toNat, x.2.2.1.2.2.1.toNat, x.2.2.2.1, x.2.2.2.2.1⟩
def tupWf (t : Tup) : Prop := t.hi < 18446744073709551616 ∧ t.lo < 18446744073709551616 ∧ t.hi' < 18446744073709551616 ∧ t.lo' < 18446744073709551616
theorem tup_cells (w : World) (x : tupFT.Val) (es : List Value) (h : Rep w tupFT x es) : es = (tupOf x).cells ∧ tupWf (tupOf x) := by
  obtain ⟨x0, ⟨y0, y1, y2, ⟨⟩⟩, ⟨z0, z1, z2, ⟨⟩⟩, x3, x4, ⟨⟩⟩ := x
  obtain ⟨_, _, rfl, ⟨rfl, _⟩, _, _, rfl, ⟨_, _, rfl, rfl, _, _, rfl, ⟨rfl, k1⟩, _, _, rfl, ⟨rfl, k2⟩, rfl⟩, _, _, rfl, ⟨_, _, rfl, rfl, _, _, rfl, ⟨rfl, k3⟩, _, _, rfl, ⟨rfl, k4⟩, rfl⟩, _, _, rfl, ⟨rfl, _⟩, _, _, rfl, ⟨rfl, _⟩, rfl⟩ := h
  obtain ⟨m1, rfl, h1⟩ := wf_u64 k1
  obtain ⟨m2, rfl, h2⟩ := wf_u64 k2
  obtain ⟨m3, rfl, h3⟩ := wf_u64 k3
  obtain ⟨m4, rfl, h4⟩ := wf_u64 k4
  refine ⟨rfl, ?_⟩
  simp [tupWf, tupOf, h1, h2, h3, h4]
section
variable {H : Type} {enc : TypeId × Value → H}
set_option maxRecDepth 100000 in
theorem open_tups {r : Reach} {b0 : Nat} {w : World} {v : Value} {d : DataW H} {p : List MemPlace} (hv : Value.okWide Try.prog w r b0 122 v)
    (h : DataW.Trod enc Try.prog w 0 (fun _ => true) true 122 v d p) :
    ∃ (A : Option Addr) (c : Nat) (l : List Tup), v = .slice A l.length c ∧ Reads w w.heap.size 9 A l.length (l.flatMap Tup.cells) ∧ (∀ t ∈ l, tupWf t) ∧ l.length ≤ 9223372036854775807 := by
  obtain ⟨a0, len, cap, rfl⟩ := okWide_slice Try.underlying122 hv
  obtain ⟨xs, hx⟩ := open_ft (.slice tupFT) (by kernel_rfl) h
  have hall : ∀ v ∈ xs.map tupOf, tupWf v := by
    intro v hv
    obtain ⟨x, hx', rfl⟩ := List.mem_map.1 hv
    obtain ⟨A, c, _, _, hr⟩ := hx
    obtain ⟨i, hi, rfl⟩ := List.getElem_of_mem hx'
    obtain ⟨_, _, _, hc⟩ := hr (by omega)
    obtain ⟨es, he, _⟩ := hc i _ (List.getElem?_eq_getElem hi)
    exact (tup_cells w _ _ he).2
  obtain ⟨A, c, hcs, hrd, hl⟩ := Rep.reads tupOf Tup.cells (fun _ => rfl) (by decide) (fun x es h => (tup_cells w x es h).1) hx
  unfold maxLen at *
  simp only [Value.cells, List.cons.injEq, Value.slice.injEq, and_true] at hcs
  obtain ⟨rfl, rfl, rfl⟩ := hcs
  exact ⟨_, _, _, rfl, hrd, hall, hl⟩
set_option maxRecDepth 100000 in
theorem open_bools {r : Reach} {b0 : Nat} {w : World} {v : Value} {d : DataW H} {p : List MemPlace} (hv : Value.okWide Try.prog w r b0 39 v)
    (h : DataW.Trod enc Try.prog w 0 (fun _ => true) true 39 v d p) :
    ∃ (A : Option Addr) (c : Nat) (l : List Bool), v = .slice A l.length c ∧ Reads w w.heap.size 1 A l.length (l.map .bool) ∧ True ∧ l.length ≤ 9223372036854775807 := by
  obtain ⟨a0, len, cap, rfl⟩ := okWide_slice Try.underlying39 hv
  obtain ⟨xs, hx⟩ := open_ft (.slice .bool) (by kernel_rfl) h
  obtain ⟨A, c, hcs, hrd, hl⟩ := Rep.reads (t := .bool) (id : Bool → Bool) (fun b => [.bool b]) (fun _ => rfl) (by decide) (fun x es h => h) hx
  unfold maxLen at *
  simp only [Value.cells, List.cons.injEq, Value.slice.injEq, and_true, List.map_id] at hcs
  obtain ⟨rfl, rfl, rfl⟩ := hcs
  have e : ∀ l : List Bool, l.flatMap (fun b => [Value.bool b]) = l.map .bool := fun l => by induction l <;> simp_all
  rw [e, List.map_id] at hrd
  exact ⟨_, _, _, rfl, hrd, trivial, by simpa using hl⟩
end
end Go.Proofs.Ytdkcjfcjckpjcaa
