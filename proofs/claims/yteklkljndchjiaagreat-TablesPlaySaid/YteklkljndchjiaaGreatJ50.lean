/- tables: the steps that a law is given. -/
import Derived.Test.YteklkljndchjiaaGreatJ44
import Derived.Test.YteklkljndchjiaaGreatJ3
import Derived.Test.YteklkljndchjiaaGreatJ19
namespace Go.Proofs.YteklkljndchjiaaGreat
open Go Go.RowKit Go.Deep Go.ChangeShapes Go.WideShapes
@[reducible] def t20FT : FT := .pair (.int .i64) (.pair tupFTp (.pair (.int .i64) (.pair (.int .i64) (.pair (.int .u64) (.pair (.int .i64) .unit)))))
def t20Of (x : t20FT.Val) : T20 := ⟨x.1, tupOfp x.2.1, x.2.2.1, x.2.2.2.1, x.2.2.2.2.1, x.2.2.2.2.2.1⟩
theorem t20_cells (w : World) (x : t20FT.Val) (es : List Value) (h : Rep w t20FT x es) : es = (t20Of x).cells ∧ t20Wf (t20Of x) := by
 obtain ⟨a0, ⟨x0, ⟨y0, y1, y2, ⟨⟩⟩, ⟨z0, z1, z2, ⟨⟩⟩, x3, x4, ⟨⟩⟩, a2, a3, a4, a5, ⟨⟩⟩ := x
 obtain ⟨_, _, rfl, ⟨rfl, _⟩, _, _, rfl, ⟨_, _, rfl, ⟨rfl, _⟩, _, _, rfl, ⟨_, _, rfl, rfl, _, _, rfl, ⟨rfl, k1⟩, _, _, rfl, ⟨rfl, k2⟩, rfl⟩, _, _, rfl, ⟨_, _, rfl, rfl, _, _, rfl, ⟨rfl, k3⟩, _, _, rfl, ⟨rfl, k4⟩, rfl⟩, _, _, rfl, ⟨rfl, _⟩, _, _, rfl, ⟨rfl, _⟩, rfl⟩, _, _, rfl, ⟨rfl, _⟩, _, _, rfl, ⟨rfl, _⟩, _, _, rfl, ⟨rfl, k5⟩, _, _, rfl, ⟨rfl, _⟩, rfl⟩ := h
 obtain ⟨m1, rfl, h1⟩ := wf_u64 k1
 obtain ⟨m2, rfl, h2⟩ := wf_u64 k2
 obtain ⟨m3, rfl, h3⟩ := wf_u64 k3
 obtain ⟨m4, rfl, h4⟩ := wf_u64 k4
 obtain ⟨m5, rfl, h5⟩ := wf_u64 k5
 refine ⟨rfl, ⟨by show (0 : Int) ≤ (m5 : Int); omega, by show (m5 : Int) < 18446744073709551616; omega⟩, ?_, ?_, ?_, ?_⟩
 ·
  show ((m1 : Int)).toNat < _
  omega
 ·
  show ((m2 : Int)).toNat < _
  omega
 ·
  show ((m3 : Int)).toNat < _
  omega
 ·
  show ((m4 : Int)).toNat < _
  omega
section
variable {H : Type} {enc : TypeId × Value → H}
set_option maxRecDepth 100000 in
theorem open_steps20 {r : Reach} {b0 : Nat} {w : World} {v : Value} {d : DataW H} {p : List MemPlace} (hv : Value.okWide Tryz.prog w r b0 31 v)
  (h : DataW.Trod enc Tryz.prog w 0 (fun _ => true) true 31 v d p) :
  ∃ (A : Option Addr) (c : Nat) (l : List T20), v = .slice A l.length c ∧ Reads w w.heap.size 14 A l.length (l.flatMap T20.cells) ∧ (∀ s ∈ l, t20Wf s) ∧ l.length ≤ 9223372036854775807 := by
 obtain ⟨a0, len, cap, rfl⟩ := okWide_slice Tryz.underlying31 hv
 obtain ⟨xs, hx⟩ := open_ft24 (.slice t20FT) (by kernel_rfl) h
 have hall : ∀ v ∈ xs.map t20Of, t20Wf v := by
  intro v hv
  obtain ⟨x, hx', rfl⟩ := List.mem_map.1 hv
  obtain ⟨A, c, _, _, hr⟩ := hx
  obtain ⟨i, hi, rfl⟩ := List.getElem_of_mem hx'
  obtain ⟨_, _, _, hc⟩ := hr (by omega)
  obtain ⟨es, he, _⟩ := hc i _ (List.getElem?_eq_getElem hi)
  exact (t20_cells w _ _ he).2
 obtain ⟨A, c, hcs, hrd, hl⟩ := Rep.reads t20Of T20.cells (fun _ => rfl) (by decide) (fun x es h => (t20_cells w x es h).1) hx
 unfold maxLen at *
 simp only [Value.cells, List.cons.injEq, Value.slice.injEq, and_true] at hcs
 obtain ⟨rfl, rfl, rfl⟩ := hcs
 exact ⟨_, _, _, rfl, hrd, hall, hl⟩
end
end Go.Proofs.YteklkljndchjiaaGreat
