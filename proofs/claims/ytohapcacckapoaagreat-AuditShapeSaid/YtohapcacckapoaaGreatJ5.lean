/- What a call may turn: 'Chg F w w'': outside the blocks of F nothing that was there has turned. -/
import Derived.Test.YtohapcacckapoaaGreatJ2
import Derived.Deep.OwnRows
import Derived.WalkSmall
import Derived.OneCell
namespace Go.Proofs.YtohapcacckapoaaGreat
open Go Go.RowKit Go.Deep
def Chg (F : Nat → Prop) (w w' : World) : Prop :=
 w'.os = w.os ∧ w'.tape = w.tape ∧ w'.output = w.output ∧ w.heap.size ≤ w'.heap.size ∧ ∀ b, b < w.heap.size → ¬ F b → w'.heap[b]? = w.heap[b]?
section
variable {F G : Nat → Prop} {w w1 w2 : World}
theorem Chg.refl (F : Nat → Prop) (w : World) : Chg F w w := ⟨rfl, rfl, rfl, Nat.le_refl _, fun _ _ _ => rfl⟩
theorem Chg.size (h : Chg F w w1) : w.heap.size ≤ w1.heap.size := h.2.2.2.1
theorem Chg.block (h : Chg F w w1) {b : Nat} (hb : b < w.heap.size) (hF : ¬ F b) : w1.heap[b]? = w.heap[b]? := h.2.2.2.2 b hb hF
theorem Chg.mono (h : Chg F w w1) (hF : ∀ b, b < w.heap.size → F b → G b) : Chg G w w1 :=
 ⟨h.1, h.2.1, h.2.2.1, h.size, fun b hb hg => h.block hb fun hf => hg (hF b hb hf)⟩
theorem Chg.trans (h : Chg F w w1) (k : Chg G w1 w2) (hG : ∀ b, b < w.heap.size → G b → F b) : Chg F w w2 :=
 ⟨k.1.trans h.1, k.2.1.trans h.2.1, k.2.2.1.trans h.2.2.1, Nat.le_trans h.size k.size, fun b hb hF =>
  (k.block (Nat.lt_of_lt_of_le hb h.size) fun hg => hF (hG b hb hg)).trans (h.block hb hF)⟩
theorem Chg.alloc (h : Chg F w w1) (o : Obj) : Chg F w (w1.alloc o) :=
 ⟨h.1, h.2.1, h.2.2.1, Nat.le_trans h.size (by simp), fun b hb hF => (Below.heap_alloc w1 o b (Nat.lt_of_lt_of_le hb h.size)).trans (h.block hb hF)⟩
theorem Chg.setCell (h : Chg F w w1) {p : Addr} (hp : p.block < w.heap.size → F p.block) (v : Value) : Chg F w (w1.setCell p v) :=
 ⟨h.1, h.2.1, h.2.2.1, by simpa [World.setCell] using h.size, fun b hb hF => (Below.heap_setCell w1 p v b (by rintro rfl; exact hF (hp hb))).trans (h.block hb hF)⟩
theorem Chg.drewN (h : Chg F w w1) (n : Nat) : Chg F w (w1.drewN n) := ⟨h.1, h.2.1, h.2.2.1, h.size, h.2.2.2.2⟩
theorem Chg.drew (h : Chg F w w1) : Chg F w w1.drew := ⟨h.1, h.2.1, h.2.2.1, h.size, h.2.2.2.2⟩
theorem Chg.grown (h : Chg F w w1) {row : Option Nat} (hg : w1.grownBy w2 row) (hr : ∀ k, row = some k → k < w.heap.size → F k) : Chg F w w2 :=
 ⟨hg.os.trans h.1, hg.tape.trans h.2.1, hg.output.trans h.2.2.1, Nat.le_trans h.size hg.size, fun b hb hF =>
  (hg.block b (Nat.lt_of_lt_of_le hb h.size) fun e => hF (hr b e.symm hb)).trans (h.block hb hF)⟩
theorem Chg.below {B : Nat} (h : Chg F w w1) (hF : ∀ b, b < B → ¬ F b) (hB : B ≤ w.heap.size) : Below B w w1 :=
 ⟨h.1, h.2.1, h.2.2.1, h.size, fun b hb => h.block (Nat.lt_of_lt_of_le hb hB) (hF b hb)⟩
theorem Chg.of_below (h : Below w.heap.size w w1) : Chg F w w1 := ⟨h.os, h.tape, h.output, h.size, fun b hb _ => h.block b hb⟩
theorem below_chg {B : Nat} {a : World} (h : Below B a w) (k : Chg F w w1) (hF : ∀ b, b < B → ¬ F b) (hB : B ≤ w.heap.size) : Below B a w1 := h.trans (k.below hF hB)
theorem Chg.undrew (h : Chg F w.drew w1) : Chg F w w1 := h
theorem cell_chg {a : Addr} (k : Chg F w w1) (hlt : a.block < w.heap.size) (hg : ¬ F a.block) : w1.cell? a = w.cell? a := World.cell?_of_block (k.block hlt hg)
theorem Blk.chg {g : Nat} {t : TypeId} {cs : Array Value} (h : Blk w g t cs) (k : Chg F w w1) (hg : ¬ F g) : Blk w1 g t cs := (k.block h.lt hg).trans h
theorem rowIs_chg {g : Nat} {t : TypeId} {n : Nat} {f : Nat → Value} (h : w.rowIs g t n f) (k : Chg F w w1) (hg : ¬ F g) : w1.rowIs g t n f := h.of_block (k.block h.lt hg)
theorem ownsRow_chg {base : Nat} {e : TypeId} {size n : Nat} {v : Value} {xs : List Value} (h : w.ownsRow base e size v n xs) (k : Chg F w w1) (hg : ∀ b, v.ownBlock = some b → ¬ F b) : w1.ownsRow base e size v n xs := by
 refine ⟨h.1, ?_⟩
 rcases h.2 with h0 | ⟨g, cap, cur, rfl, hb, hh, hr⟩
 · exact .inl h0
 ·
  refine .inr ⟨g, cap, cur, rfl, hb, ?_, hr⟩
  have hlt : g < w.heap.size := (Array.getElem?_eq_some_iff.1 hh).1
  rw [k.block hlt (hg g rfl), hh]
theorem Reads.chg {size n : Nat} {A : Option Addr} {xs : List Value} (h : Reads w w.heap.size size A n xs) (k : Chg F w w1) (hg : ∀ ad, A = some ad → ¬ F ad.block) : Reads w1 w1.heap.size size A n xs := by
 refine ⟨h.1, fun hn => ?_⟩
 obtain ⟨ad, rfl, hb, hc⟩ := h.2 hn
 refine ⟨ad, rfl, Nat.lt_of_lt_of_le hb k.size, fun j u hu => ?_⟩
 rw [World.cell?_of_block (w := w) (by rw [block_of_add]; exact k.block hb (hg _ rfl))]
 exact hc j u hu
end
end Go.Proofs.YtohapcacckapoaaGreat
