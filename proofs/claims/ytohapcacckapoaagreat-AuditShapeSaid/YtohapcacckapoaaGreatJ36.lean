/- An entry loaded and stored whole, in its own block. table: entries compared; a generation's lowest bit. table: the law TableAgain, called. table: what a call does to slots, in plain words; the law's at. -/
import Derived.Test.YtohapcacckapoaaGreatJ32
import Derived.Deep.MidRow
import Derived.Test.YtohapcacckapoaaGreatJ34
import Derived.Test.YtohapcacckapoaaGreatJ25
import Derived.Laws.StructEq
import Derived.Laws.Bits64b
namespace Go.Proofs.YtohapcacckapoaaGreat
open Go Go.RowKit Go.Deep Go.Maps Go.ChangeMaps
section
variable {ops : Array Oper} {rest : List Oper} {op : Oper} {a : Act} {w : World} {Q : Exit → Act → World → Prop}
@[reducible] def EntAt (q : Nat) (x : Slt) (W : World) : Prop := W.cell? ⟨q, 0, none⟩ = some (.int .i64 x.t.p) ∧ W.cell? ⟨q, 1, none⟩ = some (.bool x.t.v) ∧ W.cell? ⟨q, 2, none⟩ = some (.int .u64 x.t.hi) ∧ W.cell? ⟨q, 3, none⟩ = some (.int .u64 x.t.lo) ∧ W.cell? ⟨q, 4, none⟩ = some (.bool x.t.v') ∧ W.cell? ⟨q, 5, none⟩ = some (.int .u64 x.t.hi') ∧ W.cell? ⟨q, 6, none⟩ = some (.int .u64 x.t.lo') ∧ W.cell? ⟨q, 7, none⟩ = some (.int .i64 x.t.sp) ∧ W.cell? ⟨q, 8, none⟩ = some (.int .i64 x.t.dp) ∧ W.cell? ⟨q, 9, none⟩ = some (.int .i64 x.bk) ∧ W.cell? ⟨q, 10, none⟩ = some (.int .i64 x.st) ∧ W.cell? ⟨q, 11, none⟩ = some (.int .i64 x.sl) ∧ W.cell? ⟨q, 12, none⟩ = some (.int .u64 x.gen) ∧ W.cell? ⟨q, 13, none⟩ = some (.int .i64 x.due)
theorem EntAt.chg {q : Nat} {x : Slt} {W W' : World} {F : Nat → Prop} (h : EntAt q x W) (hc : Chg F W W') (hF : ¬ F q) : EntAt q x W' := by
 obtain ⟨h0, h1, h2, h3, h4, h5, h6, h7, h8, h9, h10, h11, h12, h13⟩ := h
 exact ⟨(cell_chg hc (block_lt_of_cell h0) hF).trans h0, (cell_chg hc (block_lt_of_cell h1) hF).trans h1, (cell_chg hc (block_lt_of_cell h2) hF).trans h2, (cell_chg hc (block_lt_of_cell h3) hF).trans h3, (cell_chg hc (block_lt_of_cell h4) hF).trans h4, (cell_chg hc (block_lt_of_cell h5) hF).trans h5, (cell_chg hc (block_lt_of_cell h6) hF).trans h6, (cell_chg hc (block_lt_of_cell h7) hF).trans h7, (cell_chg hc (block_lt_of_cell h8) hF).trans h8, (cell_chg hc (block_lt_of_cell h9) hF).trans h9, (cell_chg hc (block_lt_of_cell h10) hF).trans h10, (cell_chg hc (block_lt_of_cell h11) hF).trans h11, (cell_chg hc (block_lt_of_cell h12) hF).trans h12, (cell_chg hc (block_lt_of_cell h13) hF).trans h13⟩
theorem EntAt.call {q : Nat} {x : Slt} {W W' : World} (h : EntAt q x W) (hb : Below W.heap.size W W') : EntAt q x W' := h.chg (F := fun _ => False) (Chg.of_below hb) (fun h => h)
theorem EntAt.of {q : Nat} {x : Slt} {W : World} (h : Blk W q 101 x.entA) : EntAt q x W := ⟨h.cell 0, h.cell 1, h.cell 2, h.cell 3, h.cell 4, h.cell 5, h.cell 6, h.cell 7, h.cell 8, h.cell 9, h.cell 10, h.cell 11, h.cell 12, h.cell 13⟩
end
def entB (x y : Slt) : Bool := tupB x.t y.t && (x.bk == y.bk && (x.st == y.st && (x.sl == y.sl && (x.gen == y.gen && x.due == y.due))))
abbrev lwC : TCfg := ⟨3, 20, 5, 8, 4⟩
theorem TabN.drewN {w0 w : World} {g sb n : Nat} {c : TCfg} {s : TSt} {K : Nat → Prop} (h : TabN w0 w g sb n c s K) (m : Nat) : TabN w0 (w.drewN m) g sb n c s K := h.call0 (below_drewN (Below.refl _ _) m)
structure Again (n k : Nat) (s : TSt) (x : Slt) (s1 s2 s3 : TSt) (a : Slt) : Prop where
 xk : x.sl = k
 e1 : s1 = closeS n s k
 e2 : s2 = lookS n k s1
 e3 : s3 = openS lwC n s2 x.t 7 2
 no1 : findOk n s1 x.t k 0 0 = false
 l1 : s2.L.length = s.L.length + 1
 g1 : genI n s2.E k = IntKind.u64.wrap (x.gen + 1)
 oe : openE s2 x.t 7 2 = 0
 ov : openV lwC s2 x.t 7 2 = a
 ak : a.sl = k
 ag : a.gen = IntKind.u64.wrap (x.gen + 1)
 ab : a.bk = 7
 at_ : a.t = x.t
 l3 : s3.L.length = s.L.length
 find : ∀ (lk : Int) (y : Tup) (low : Int), findOk n { s3 with lk := lk } y k low 1 = (tupB x.t y && (a.gen % 2 == low))
 par : 0 ≤ a.gen ∧ (a.gen % 2 == x.gen % 2) = false
def StepR (n : Nat) (s s' : TSt) : Prop :=
 (∀ k : Nat, k < n → (s'.E k).gen = if (s.E k).used && !(s'.E k).used then IntKind.u64.wrap ((s.E k).gen + 1) else (s.E k).gen) ∧ (s'.lk = s.lk ∨ s'.lk = s.lk + 1)
section
variable {n : Nat} {s s' : TSt}
theorem StepR.refl (n : Nat) (s : TSt) : StepR n s s := ⟨fun k _ => by cases (s.E k).used <;> rfl, .inl rfl⟩
theorem mem_liveL {x : Slt} : x ∈ liveL n s ↔ ∃ k : Nat, k < n ∧ (s.E k).used = true ∧ s.E k = x := by
 unfold liveL entsOf allL
 rw [List.mem_map]
 constructor
 ·
  rintro ⟨k, hk, rfl⟩
  rw [List.mem_filter, List.mem_range, Bool.and_true] at hk
  exact ⟨k, hk.1, hk.2, rfl⟩
 ·
  rintro ⟨k, hk, hu, rfl⟩
  exact ⟨k, by rw [List.mem_filter, List.mem_range, Bool.and_true]; exact ⟨hk, hu⟩, rfl⟩
def atB (L : List Slt) (k : Nat) : Bool := L.any fun x => x.sl == (k : Int)
theorem count_two (L : List Int) : ∀ n : Nat, L.Nodup → (∀ x ∈ L, 0 ≤ x ∧ x < n) → ((List.range n).filter fun k : Nat => !decide ((k : Int) ∈ L)).length + L.length = n
 | 0, _, h => by
  have : L = [] := List.eq_nil_iff_forall_not_mem.2 fun x hx => by have := h x hx; omega
  subst this
  rfl
 | n + 1, hn, h => by
  rw [List.range_succ, List.filter_append, List.length_append]
  by_cases hm : (n : Int) ∈ L
  ·
   have hp := List.perm_cons_erase hm
   have ih := count_two (L.erase n) n (hn.erase _) (fun x hx => by
    have h1 := h x (List.mem_of_mem_erase hx)
    have h2 : x ≠ n := fun e => by rw [e] at hx; exact (hn.not_mem_erase) hx
    omega)
   have e : ((List.range n).filter fun k : Nat => !decide ((k : Int) ∈ L)) = (List.range n).filter fun k : Nat => !decide ((k : Int) ∈ L.erase n) := by
    refine List.filter_congr fun k hk => ?_
    have hk := List.mem_range.1 hk
    congr 1
    rw [decide_eq_decide, List.mem_erase_of_ne (by omega)]
   rw [e]
   have hl := List.length_erase_of_mem hm
   have hpos : 0 < L.length := List.length_pos_of_mem hm
   simp [hm]
   omega
  ·
   have ih := count_two L n hn (fun x hx => by
    have h1 := h x hx
    have h2 : x ≠ n := fun e => hm (e ▸ hx)
    omega)
   simp [hm]
   omega
theorem live_free (hi : TI n s) : (liveL n s).length + s.L.length = n := by
 have h := count_two s.L n hi.nd hi.rng
 refine Eq.trans ?_ h
 unfold liveL entsOf allL
 rw [List.length_map]
 congr 2
 refine List.filter_congr fun k hk => ?_
 have := hi.used k (List.mem_range.1 hk)
 rw [Bool.and_true, Bool.eq_iff_iff, this]
 simp
end
end Go.Proofs.YtohapcacckapoaaGreat
