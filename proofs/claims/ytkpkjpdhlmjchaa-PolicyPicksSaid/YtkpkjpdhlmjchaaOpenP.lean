/- The picks that PolicyPicks is given. -/
import Derived.Test.YtkpkjpdhlmjchaaTwoH
import Derived.Test.YtkpkjpdhlmjchaaTuple
namespace Go.Proofs.Ytkpkjpdhlmjchaa
open Go Go.RowKit Go.Deep Go.ChangeShapes Go.WideShapes

/-- One pick: kind, second, tuple, two draws, a policy. -/
structure Pk where
  kd : Int
  sec : Bool
  tu : Tup
  a : Nat
  b : Nat
  pk : Int
  ps : Int
abbrev Pk.cells (x : Pk) : List Value := [.int .i64 x.kd, .bool x.sec, .int .i64 x.tu.p, .bool x.tu.v, .int .u64 x.tu.hi, .int .u64 x.tu.lo, .bool x.tu.v', .int .u64 x.tu.hi', .int .u64 x.tu.lo', .int .i64 x.tu.sp, .int .i64 x.tu.dp, .int .u64 x.a, .int .u64 x.b, .int .i64 x.pk, .int .i64 x.ps]
def pkWf (x : Pk) : Prop := x.tu.hi < 18446744073709551616 ∧ x.tu.lo < 18446744073709551616 ∧ x.tu.hi' < 18446744073709551616 ∧ x.tu.lo' < 18446744073709551616 ∧ x.a < 18446744073709551616 ∧ x.b < 18446744073709551616
@[reducible] def tupFTp : FT := .pair (.int .i64) (.pair adrFT (.pair adrFT (.pair (.int .i64) (.pair (.int .i64) .unit))))
@[reducible] def pkFT : FT := .pair (.int .i64) (.pair .bool (.pair tupFTp (.pair (.int .u64) (.pair (.int .u64) (.pair (.pair (.int .i64) (.pair (.int .i64) .unit)) .unit)))))
def tupOfp (x : tupFTp.Val) : Tup := ⟨x.1, x.2.1.1, x.2.1.2.1.toNat, x.2.1.2.2.1.toNat, x.2.2.1.1, x.2.2.1.2.1.toNat, x.2.2.1.2.2.1.toNat, x.2.2.2.1, x.2.2.2.2.1⟩
def pkOf (x : pkFT.Val) : Pk := ⟨x.1, x.2.1, tupOfp x.2.2.1, x.2.2.2.1.toNat, x.2.2.2.2.1.toNat, x.2.2.2.2.2.1.1, x.2.2.2.2.2.1.2.1⟩
theorem pk_cells (w : World) (x : pkFT.Val) (es : List Value) (h : Rep w pkFT x es) : es = (pkOf x).cells ∧ pkWf (pkOf x) := by
  obtain ⟨a0, a1, ⟨x0, ⟨y0, y1, y2, ⟨⟩⟩, ⟨z0, z1, z2, ⟨⟩⟩, x3, x4, ⟨⟩⟩, a2, a3, ⟨b0, b1, ⟨⟩⟩, ⟨⟩⟩ := x
  obtain ⟨_, _, rfl, ⟨rfl, _⟩, _, _, rfl, rfl, _, _, rfl, ⟨_, _, rfl, ⟨rfl, _⟩, _, _, rfl, ⟨_, _, rfl, rfl, _, _, rfl, ⟨rfl, k1⟩, _, _, rfl, ⟨rfl, k2⟩, rfl⟩, _, _, rfl, ⟨_, _, rfl, rfl, _, _, rfl, ⟨rfl, k3⟩, _, _, rfl, ⟨rfl, k4⟩, rfl⟩, _, _, rfl, ⟨rfl, _⟩, _, _, rfl, ⟨rfl, _⟩, rfl⟩, _, _, rfl, ⟨rfl, k5⟩, _, _, rfl, ⟨rfl, k6⟩, _, _, rfl, ⟨_, _, rfl, ⟨rfl, _⟩, _, _, rfl, ⟨rfl, _⟩, rfl⟩, rfl⟩ := h
  obtain ⟨m1, rfl, h1⟩ := wf_u64 k1
  obtain ⟨m2, rfl, h2⟩ := wf_u64 k2
  obtain ⟨m3, rfl, h3⟩ := wf_u64 k3
  obtain ⟨m4, rfl, h4⟩ := wf_u64 k4
  obtain ⟨m5, rfl, h5⟩ := wf_u64 k5
  obtain ⟨m6, rfl, h6⟩ := wf_u64 k6
  refine ⟨rfl, ?_⟩
  simp [pkWf, pkOf, tupOfp, h1, h2, h3, h4, h5, h6]
section
variable {H : Type} {enc : TypeId × Value → H}
theorem open_ft24 {P : Program} {t : TypeId} {v : Value} {w : World} {d : DataW H} {p : List MemPlace} (ft : FT) (hfit : fitsT P 24 t ft = true)
    (h : DataW.Trod enc P w 0 (fun _ => true) true t v d p) : ∃ x : ft.Val, Rep w ft x v.cells.toList := by
  obtain ⟨fuel, hf⟩ := h
  exact rep_of_trod 0 _ _ 24 t ft hfit fuel _ _ hf
set_option maxRecDepth 100000 in
theorem open_pks {r : Reach} {b0 : Nat} {w : World} {v : Value} {d : DataW H} {p : List MemPlace} (hv : Value.okWide Try.prog w r b0 93 v)
    (h : DataW.Trod enc Try.prog w 0 (fun _ => true) true 93 v d p) :
    ∃ (A : Option Addr) (c : Nat) (l : List Pk), v = .slice A l.length c ∧ Reads w w.heap.size 15 A l.length (l.flatMap Pk.cells) ∧ (∀ s ∈ l, pkWf s) ∧ l.length ≤ 9223372036854775807 := by
  obtain ⟨a0, len, cap, rfl⟩ := okWide_slice Try.underlying93 hv
  obtain ⟨xs, hx⟩ := open_ft24 (.slice pkFT) (by kernel_rfl) h
  have hall : ∀ v ∈ xs.map pkOf, pkWf v := by
    intro v hv
    obtain ⟨x, hx', rfl⟩ := List.mem_map.1 hv
    obtain ⟨A, c, _, _, hr⟩ := hx
    obtain ⟨i, hi, rfl⟩ := List.getElem_of_mem hx'
    obtain ⟨_, _, _, hc⟩ := hr (by omega)
    obtain ⟨es, he, _⟩ := hc i _ (List.getElem?_eq_getElem hi)
    exact (pk_cells w _ _ he).2
  obtain ⟨A, c, hcs, hrd, hl⟩ := Rep.reads pkOf Pk.cells (fun _ => rfl) (by decide) (fun x es h => (pk_cells w x es h).1) hx
  unfold maxLen at *
  simp only [Value.cells, List.cons.injEq, Value.slice.injEq, and_true] at hcs
  obtain ⟨rfl, rfl, rfl⟩ := hcs
  exact ⟨_, _, _, rfl, hrd, hall, hl⟩
end
end Go.Proofs.Ytkpkjpdhlmjchaa
