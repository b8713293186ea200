/- One record appended to a slice of the call's own. -/
import Derived.Test.YtdkcjfcjckpjcaaKitB
namespace Go.Proofs.Ytdkcjfcjckpjcaa
open Go Go.RowKit Go.Deep

theorem lits_read (w : World) (B m n : Nat) (t : TypeId) (xs : List Value) (hl : xs.length = n * m) (hB : w.heap.size < B) : Reads (w.alloc (.cells xs.toArray t)) B m (some ⟨w.heap.size, 0, none⟩) n xs := by
  refine ⟨hl, fun _ => ⟨_, rfl, hB, fun j u hu => ?_⟩⟩
  have e : (⟨w.heap.size, 0, none⟩ : Addr).add j = ⟨w.heap.size, j, none⟩ := by unfold Addr.add; split <;> simp_all
  rw [e, (Blk.new w t xs.toArray).cell j]
  simpa using hu

/-- Does a slice's address lie in block b? -/
def InB (A : Option Addr) (b : Nat) : Prop := ∃ a, A = some a ∧ a.block = b
/-- A slice of the call's own that reads as the records l. -/
def OwnA {α : Type} (cells : α → List Value) (m : Nat) (e : TypeId) (w : World) (base : Nat) (A : Option Addr) (c : Nat) (l : List α) : Prop := w.ownsRow base e m (.slice A l.length c) l.length (l.flatMap cells)

section
variable {α : Type} {cells : α → List Value} {m : Nat} {e : TypeId} {w w' : World} {base : Nat} {A : Option Addr} {c : Nat} {l : List α}
theorem OwnA.nil (w : World) (base : Nat) : OwnA cells m e w base none 0 ([] : List α) := World.ownsRow_nil _ _ _ _
theorem OwnA.reads (h : OwnA cells m e w base A c l) : Reads w w.heap.size m A l.length (l.flatMap cells) := Reads.of_own h
theorem OwnA.own_block (h : OwnA cells m e w base A c l) : ∀ k, (Value.slice A l.length c).ownBlock = some k ↔ InB A k := by
  intro k
  rcases h.2 with ⟨h1, _⟩ | ⟨g, cap, cur, h1, _⟩
  · simp only [Value.slice.injEq] at h1; obtain ⟨rfl, _⟩ := h1; simp [Value.ownBlock, InB]
  · simp only [Value.slice.injEq] at h1; obtain ⟨rfl, _⟩ := h1; simp [Value.ownBlock, InB]
theorem OwnA.block (h : OwnA cells m e w base A c l) {b : Nat} (hb : InB A b) : base ≤ b ∧ b < w.heap.size := by
  obtain ⟨a, rfl, rfl⟩ := hb
  rcases h.2 with ⟨h1, _⟩ | ⟨g, cap, cur, h1, hg, hh, _⟩
  · simp at h1
  · simp only [Value.slice.injEq, Option.some.injEq] at h1; obtain ⟨rfl, _⟩ := h1; exact ⟨hg, (Array.getElem?_eq_some_iff.1 hh).1⟩
theorem OwnA.stay (h : OwnA cells m e w base A c l) (hk : ∀ b, InB A b → w'.heap[b]? = w.heap[b]?) : OwnA cells m e w' base A c l := by
  refine ⟨h.1, ?_⟩
  rcases h.2 with h0 | ⟨g, cap, cur, hv, hg, hh, hr⟩
  · exact .inl h0
  · refine .inr ⟨g, cap, cur, hv, hg, ?_, hr⟩
    simp only [Value.slice.injEq] at hv
    rw [hk g ⟨_, hv.1, rfl⟩, hh]
theorem OwnA.alloc (h : OwnA cells m e w base A c l) (o : Obj) : OwnA cells m e (w.alloc o) base A c l := h.stay fun b hb => Below.heap_alloc w o b (h.block hb).2
theorem OwnA.call (h : OwnA cells m e w base A c l) (hb : Below w.heap.size w w') : OwnA cells m e w' base A c l := h.stay fun b hb' => hb.block b (h.block hb').2
theorem OwnA.chg {F : Nat → Prop} (h : OwnA cells m e w base A c l) (k : Chg F w w') (hF : ∀ b, InB A b → ¬ F b) : OwnA cells m e w' base A c l := h.stay fun b hb => k.block (h.block hb).2 (hF b hb)
theorem OwnA.far (h : OwnA cells m e w base A c l) {p : Addr} (hp : ¬ InB A p.block) (u : Value) : OwnA cells m e (w.setCell p u) base A c l := h.stay fun b hb => Below.heap_setCell w p u b (by rintro rfl; exact hp hb)
theorem OwnA.drew (h : OwnA cells m e w base A c l) : OwnA cells m e w.drew base A c l := h

/-- What an append of the call's own has turned: the slice's own block, and new ones. -/
structure Pushed (w w' : World) (A A' : Option Addr) : Prop where
  chg : Chg (InB A) w w'
  new : ∀ b, InB A' b → InB A b ∨ w.heap.size ≤ b
theorem Pushed.below {w0 : World} {A' : Option Addr} (h : Pushed w w' A A') {B : Nat} (hb : Below B w0 w) (hB : B ≤ w.heap.size) (hA : ∀ b, InB A b → B ≤ b) : Below B w0 w' := below_chg hb h.chg (fun b hb' hF => by have := hA b hF; omega) hB
end

theorem wpList_push {P : Program} {W : World} {e : TypeId} {cs : Array Value} {α : Type} (cells : α → List Value) (m : Nat) (hm : ∀ a, (cells a).length = m) (h1 : ∀ a, ∀ u ∈ cells a, u.oneCell' = true) (hm0 : 0 < m)
    (t : TypeId) (i : TypeInfo) (z : Value) (bytes : Nat) (ht : P.underlying t = some (.slice e)) (hi : P.info? e = some i) (hz : i.zero = some z) (hsize : i.size = m) (hby : i.bytes = bytes) (hzs : z.cells.size = m) (hbb : bytes ≤ 1000)
    {ops : Array Oper} {rest : List Oper} {o : Oper} {a : Act} {Q : Exit → Act → World → Prop} (hgd : o.guard = none) (s x : Operand)
    (ho : o.op = .call { callee := .builtin .append, args := #[s, x], argTypes := #[t, t] })
    (base : Nat) (A : Option Addr) (c : Nat) (l : List α) (v : α) (n : Nat) (hn : l.length = n) (hs : a.eval s = .slice A n c) (hown : OwnA cells m e W base A c l) (g : Nat) (hg : g = W.heap.size) (hcs : (cells v).toArray = cs)
    (hx : a.eval x = .slice (some ⟨g, 0, none⟩) 1 1) (hl : l.length ≤ 1000000) (hbase : base ≤ W.heap.size)
    (h : ∀ A' c' w', OwnA cells m e w' base A' c' (l ++ [v]) → Pushed W w' A A' → wpList P ops Q rest (a.put o.dst (.slice A' (n + 1) c')) w') : wpList P ops Q (o :: rest) a (W.alloc (.cells cs e)) := by
  subst hg hcs hn
  refine wpList_append_sl _ hgd s x t ho base e i z m bytes ht hi hz hsize hby hzs hm0 (.slice A l.length c) l.length (l.flatMap cells) hs (hown.alloc _) (W.heap.size + 1) (some ⟨W.heap.size, 0, none⟩) 1 1 (cells v) hx
    (lits_read W _ m 1 e (cells v) (by rw [hm]; omega) (by omega)) (h1 v) (by unfold maxLen; omega) ?_ (by simp; omega) ?_
  · have : (l.length + 1) * bytes ≤ 1000001 * 1000 := Nat.mul_le_mul (by omega) hbb
    omega
  · intro A' c' w' hown' hg' hat
    have hA : ∀ k, (Value.slice A l.length c).ownBlock = some k ↔ InB A k := hown.own_block
    have hO : OwnA cells m e w' base A' c' (l ++ [v]) := by
      unfold OwnA
      rw [List.length_append, List.flatMap_append]
      simpa using hown'
    refine h A' c' w' hO ⟨?_, ?_⟩
    · exact ((Chg.refl _ W).alloc _).grown hg' (fun k hk _ => (hA k).1 hk)
    · intro b hb
      have e1 : (Value.slice A' (l.length + 1) c').ownBlock = some b := by
        have := (hO.own_block b).2 hb
        simpa [Value.ownBlock] using this
      rcases hat with h2 | h2
      · rw [h2] at e1
        exact .inl ((hA b).1 e1)
      · rw [h2] at e1
        simp at e1
        exact .inr (by omega)

abbrev icell (n : Int) : List Value := [.int .i64 n]
theorem icell_map (l : List Int) : l.flatMap icell = l.map (.int .i64) := by induction l <;> simp_all
abbrev OwnI (w : World) (base : Nat) (A : Option Addr) (c : Nat) (l : List Int) : Prop := OwnA icell 1 3 w base A c l
theorem OwnA.ints {w : World} {base : Nat} {A : Option Addr} {c : Nat} {l : List Int} (h : OwnI w base A c l) : Reads w w.heap.size 1 A l.length (l.map (.int .i64)) := by
  have := h.reads
  rwa [icell_map] at this
theorem wpList_push_int {W : World} {v : Int} {ops : Array Oper} {rest : List Oper} {o : Oper} {a : Act} {Q : Exit → Act → World → Prop} (hgd : o.guard = none) (s x : Operand)
    (ho : o.op = .call { callee := .builtin .append, args := #[s, x], argTypes := #[22, 22] })
    (base : Nat) (A : Option Addr) (c : Nat) (l : List Int) (n : Nat) (hn : l.length = n) (hs : a.eval s = .slice A n c) (hown : OwnI W base A c l) (g : Nat) (hg : g = W.heap.size)
    (hx : a.eval x = .slice (some ⟨g, 0, none⟩) 1 1) (hl : l.length ≤ 1000000) (hbase : base ≤ W.heap.size)
    (h : ∀ A' c' w', OwnI w' base A' c' (l ++ [v]) → Pushed W w' A A' → wpList Try.prog ops Q rest (a.put o.dst (.slice A' (n + 1) c')) w') : wpList Try.prog ops Q (o :: rest) a (W.alloc (.cells #[.int .i64 v] 3)) := by
  obtain ⟨i0, hi0, hz0, hz1, hz2⟩ := info_parts info_int
  exact wpList_push icell 1 (fun _ => rfl) (fun _ u hu => by simp at hu; subst hu; rfl) (by omega) 22 i0 _ 8 Try.underlying22 hi0 hz0 hz1 hz2 rfl (by omega) hgd s x ho base A c l v n hn hs hown g hg rfl hx hl hbase h
end Go.Proofs.Ytdkcjfcjckpjcaa
