/- swrr: rows of turns; what a pick does to them. -/
import Derived.Test.YtkpkjpdhlmjchaaSwA
import Derived.Test.YtkpkjpdhlmjchaaMagF
namespace Go.Proofs.Ytkpkjpdhlmjchaa
open Go Go.RowKit Go.Deep

def trn0 : Trn := (bk0, 0)
theorem flat_num (v : Int) : ∀ (L : List Trn) (k : Nat) (x : Trn), L[k]? = some x → (L.flatMap tcell).set (k * 7 + 6) (.int .i64 v) = (L.set k (x.1, v)).flatMap tcell
  | [], k, x, h => by simp at h
  | y :: L, 0, x, h => by
    simp at h; subst h
    simp
  | y :: L, k + 1, x, h => by
    have ih := flat_num v L k x (by simpa using h)
    simp only [List.flatMap_cons, List.set_cons_succ]
    rw [← ih]
    simp only [tcell, List.cons_append, List.nil_append]
    rw [show (k + 1) * 7 + 6 = (k * 7 + 6) + 1 + 1 + 1 + 1 + 1 + 1 + 1 by omega]
    simp only [List.set_cons_succ]
/-- A row of turns at the head of a block of the call's own. -/
def RowT (w : World) (base g n cap : Nat) (L : List Trn) : Prop := L.length = n ∧ w.ownsRow base 187 7 (.slice (some ⟨g, 0, none⟩) n cap) n (L.flatMap tcell)
section
variable {w w' : World} {base g n cap : Nat} {L : List Trn}
theorem RowT.blk (h : RowT w base g n cap L) : base ≤ g ∧ g < w.heap.size := h.2.lt g rfl
theorem RowT.far (h : RowT w base g n cap L) {p : Addr} (hp : ¬ p.block = g) (u : Value) : RowT (w.setCell p u) base g n cap L :=
  ⟨h.1, ownsRow_setCell_other h.2 (by simp [Value.ownBlock]; exact fun e => hp e.symm) u⟩
theorem RowT.cells (h : RowT w base g n cap L) {k : Nat} {x : Trn} (hx : L[k]? = some x) :
    w.cell? ⟨g, k * 7, none⟩ = some (.int .i64 x.1.id) ∧ w.cell? ⟨g, k * 7 + 1, none⟩ = some (.int .i64 x.1.w) ∧ w.cell? ⟨g, k * 7 + 6, none⟩ = some (.int .i64 x.2) ∧ ∀ j, w.frozen? ⟨g, j, none⟩ = false := by
  have hk : k < n := h.1 ▸ (List.getElem?_eq_some_iff.1 hx).1
  have f : ∀ j, j < 7 → w.cell? ⟨g, k * 7 + j, none⟩ = (tcell x)[j]? := fun j hj => by
    rw [h.2.cellAt (k * 7 + j) (by omega)]
    exact flat_at tcell 7 (fun _ => rfl) L k j _ hx hj
  exact ⟨f 0 (by omega), f 1 (by omega), f 6 (by omega), fun j => h.2.frozenAt j⟩
theorem RowT.num (h : RowT w base g n cap L) {k : Nat} {x : Trn} (hx : L[k]? = some x) (v : Int) : RowT (w.setCell ⟨g, k * 7 + 6, none⟩ (.int .i64 v)) base g n cap (L.set k (x.1, v)) := by
  refine ⟨by rw [List.length_set]; exact h.1, ?_⟩
  rw [← flat_num v L k x hx]
  exact (h.2.stored (k * 7 + 6) (.int .i64 v)).1
end
/-! The plain rule. -/
def addN (ts : List Trn) (k : Nat) : List Trn := (ts.take k).map (fun x => (x.1, x.2 + x.1.w)) ++ ts.drop k
def addT (ts : List Trn) : List Trn := ts.map fun x => (x.1, x.2 + x.1.w)
theorem addN_zero (ts : List Trn) : addN ts 0 = ts := by simp [addN]
theorem addN_all (ts : List Trn) : addN ts ts.length = addT ts := by simp [addN, addT]
theorem addN_len (ts : List Trn) (k : Nat) (hk : k ≤ ts.length) : (addN ts k).length = ts.length := by simp [addN]; omega
theorem addN_at (ts : List Trn) (k : Nat) (x : Trn) (h : ts[k]? = some x) : (addN ts k)[k]? = some x := by
  obtain ⟨hk, rfl⟩ := List.getElem?_eq_some_iff.1 h
  unfold addN
  rw [List.getElem?_append_right (by rw [List.length_map, List.length_take]; omega), List.length_map, List.length_take, List.getElem?_drop]
  rw [show k + (k - min k ts.length) = k by omega]
  exact List.getElem?_eq_getElem hk
theorem addN_succ (ts : List Trn) (k : Nat) (x : Trn) (h : ts[k]? = some x) : addN ts (k + 1) = (addN ts k).set k (x.1, x.2 + x.1.w) := by
  obtain ⟨hk, rfl⟩ := List.getElem?_eq_some_iff.1 h
  unfold addN
  rw [List.take_succ_eq_append_getElem hk, List.map_append, List.set_append, if_neg (by rw [List.length_map, List.length_take]; omega), List.length_map, List.length_take]
  rw [show k - min k ts.length = 0 by omega]
  have e : ts.drop k = ts[k] :: ts.drop (k + 1) := (List.drop_eq_getElem_cons hk)
  rw [e, List.set_cons_zero]
  simp
def bestN (ts : List Trn) : Nat → Nat
  | 0 => 0
  | k + 1 => if (ts.getD (bestN ts k) trn0).2 < (ts.getD k trn0).2 then k else bestN ts k
theorem bestN_lt (ts : List Trn) (h : 0 < ts.length) : ∀ k, k ≤ ts.length → bestN ts k < ts.length
  | 0, _ => h
  | k + 1, hk => by
    unfold bestN
    split
    · omega
    · exact bestN_lt ts h k (by omega)
def bestI (ts : List Trn) : Nat := bestN (addT ts) ts.length
def pickId (ts : List Trn) : Int := if ts.length = 0 then 0 else ((addT ts).getD (bestI ts) trn0).1.id
def pickTs (wt : Int) (ts : List Trn) : List Trn := if ts.length = 0 then ts else (addT ts).set (bestI ts) (((addT ts).getD (bestI ts) trn0).1, ((addT ts).getD (bestI ts) trn0).2 - wt)
theorem addT_len (ts : List Trn) : (addT ts).length = ts.length := by simp [addT]
end Go.Proofs.Ytkpkjpdhlmjchaa
