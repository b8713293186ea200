/- Small helpers of the later texts: memory that only grows, strings of bytes. More small helpers: rows that stay. One record appended to a slice of the call's own. octet: Put. cloakroomref02: Put. Many cells that a call leaves as they were. objects in memory: what lies where, put together and taken apart. -/
import Derived.Test.YtohapcacckapoaaGreatJ8
import Derived.Test.YtohapcacckapoaaGreatJ3
import Derived.Laws.IdiomStrings
import Derived.Test.YtohapcacckapoaaGreatJ5
namespace Go.Proofs.YtohapcacckapoaaGreat
open Go Go.RowKit Go.Deep
theorem below_alloc {w wr : World} (h : Below w.heap.size w wr) (o : Obj) : Below w.heap.size w (wr.alloc o) := h.alloc h.size o
theorem below_chain {w w1 w2 : World} (h : Below w1.heap.size w1 w2) (h1 : Below w.heap.size w w1) : Below w.heap.size w w2 := below_call h1 h1.size h
theorem hold3 {w0 W w1 : World} {a1 a2 a3 : Addr} {v1 v2 v3 : Value} (h : Below w0.heap.size w0 W ∧ W.cell? a1 = some v1 ∧ W.cell? a2 = some v2 ∧ W.cell? a3 = some v3) (hb : Below W.heap.size W w1) : Below w0.heap.size w0 w1 ∧ w1.cell? a1 = some v1 ∧ w1.cell? a2 = some v2 ∧ w1.cell? a3 = some v3 := by
 obtain ⟨h0, h1, h2, h3⟩ := h
 exact ⟨below_chain hb h0, (hb.cell (block_lt_of_cell h1)).trans h1, (hb.cell (block_lt_of_cell h2)).trans h2, (hb.cell (block_lt_of_cell h3)).trans h3⟩
theorem hold4 {w0 W w1 : World} {a1 a2 a3 a4 : Addr} {v1 v2 v3 v4 : Value} (h : Below w0.heap.size w0 W ∧ W.cell? a1 = some v1 ∧ W.cell? a2 = some v2 ∧ W.cell? a3 = some v3 ∧ W.cell? a4 = some v4) (hb : Below W.heap.size W w1) : Below w0.heap.size w0 w1 ∧ w1.cell? a1 = some v1 ∧ w1.cell? a2 = some v2 ∧ w1.cell? a3 = some v3 ∧ w1.cell? a4 = some v4 := by
 obtain ⟨h0, h1, h2, h3, h4⟩ := h
 exact ⟨below_chain hb h0, (hb.cell (block_lt_of_cell h1)).trans h1, (hb.cell (block_lt_of_cell h2)).trans h2, (hb.cell (block_lt_of_cell h3)).trans h3, (hb.cell (block_lt_of_cell h4)).trans h4⟩
theorem i64_id (n : Int) (h : -9223372036854775808 ≤ n ∧ n < 9223372036854775808) : IntKind.i64.wrap n = n := by
 simp [IntKind.wrap, IntKind.bits, IntKind.signed]; omega
theorem Reads.rec_at {α : Type} {w : World} {B m : Nat} {A : Option Addr} {l : List α} (cells : α → List Value) (hm : ∀ a, (cells a).length = m) (h : Reads w B m A l.length (l.flatMap cells)) {k : Nat} (hk : k < l.length) :
  ∃ ad, A = some ad ∧ ad.block < B ∧ ∀ j u, (cells l[k])[j]? = some u → w.cell? ((ad.add (k * m)).add j) = some u := by
 obtain ⟨ad, rfl, hb, hc⟩ := h.2 (by omega)
 refine ⟨ad, rfl, hb, fun j u hu => ?_⟩
 have hj : j < m := by
  have := (List.getElem?_eq_some_iff.1 hu).1
  rwa [hm] at this
 rw [add_of_add]
 refine hc _ _ ?_
 rw [flat_at cells m hm l k j _ (List.getElem?_eq_getElem hk) hj, hu]
theorem Blk.call {w w' : World} {g : Nat} {t : TypeId} {cs : Array Value} (h : Blk w g t cs) (hb : Below w.heap.size w w') : Blk w' g t cs := h.below hb h.lt
theorem lits_read (w : World) (B m n : Nat) (t : TypeId) (xs : List Value) (hl : xs.length = n * m) (hB : w.heap.size < B) : Reads (w.alloc (.cells xs.toArray t)) B m (some ⟨w.heap.size, 0, none⟩) n xs := by
 refine ⟨hl, fun _ => ⟨_, rfl, hB, fun j u hu => ?_⟩⟩
 have e : (⟨w.heap.size, 0, none⟩ : Addr).add j = ⟨w.heap.size, j, none⟩ := by unfold Addr.add; split <;> simp_all
 rw [e, (Blk.new w t xs.toArray).cell j]
 simpa using hu
def InB (A : Option Addr) (b : Nat) : Prop := ∃ a, A = some a ∧ a.block = b
def OwnA {α : Type} (cells : α → List Value) (m : Nat) (e : TypeId) (w : World) (base : Nat) (A : Option Addr) (c : Nat) (l : List α) : Prop := w.ownsRow base e m (.slice A l.length c) l.length (l.flatMap cells)
section
variable {α : Type} {cells : α → List Value} {m : Nat} {e : TypeId} {w w' : World} {base : Nat} {A : Option Addr} {c : Nat} {l : List α}
theorem OwnA.nil (w : World) (base : Nat) : OwnA cells m e w base none 0 ([] : List α) := World.ownsRow_nil _ _ _ _
theorem OwnA.reads (h : OwnA cells m e w base A c l) : Reads w w.heap.size m A l.length (l.flatMap cells) := Reads.of_own h
theorem OwnA.own_block (h : OwnA cells m e w base A c l) : ∀ k, (Value.slice A l.length c).ownBlock = some k ↔ InB A k := by
 intro k
 rcases h.2 with ⟨h1, _⟩ | ⟨g, cap, cur, h1, _⟩
 · simp only [Value.slice.injEq] at h1; obtain ⟨rfl, _⟩ := h1; simp [Value.ownBlock, InB]
 · simp only [Value.slice.injEq] at h1; obtain ⟨rfl, _⟩ := h1; simp [Value.ownBlock, InB]
theorem OwnA.block (h : OwnA cells m e w base A c l) {b : Nat} (hb : InB A b) : base ≤ b ∧ b < w.heap.size := by
 obtain ⟨a, rfl, rfl⟩ := hb
 rcases h.2 with ⟨h1, _⟩ | ⟨g, cap, cur, h1, hg, hh, _⟩
 · simp at h1
 · simp only [Value.slice.injEq, Option.some.injEq] at h1; obtain ⟨rfl, _⟩ := h1; exact ⟨hg, (Array.getElem?_eq_some_iff.1 hh).1⟩
theorem OwnA.stay (h : OwnA cells m e w base A c l) (hk : ∀ b, InB A b → w'.heap[b]? = w.heap[b]?) : OwnA cells m e w' base A c l := by
 refine ⟨h.1, ?_⟩
 rcases h.2 with h0 | ⟨g, cap, cur, hv, hg, hh, hr⟩
 · exact .inl h0
 ·
  refine .inr ⟨g, cap, cur, hv, hg, ?_, hr⟩
  simp only [Value.slice.injEq] at hv
  rw [hk g ⟨_, hv.1, rfl⟩, hh]
theorem OwnA.alloc (h : OwnA cells m e w base A c l) (o : Obj) : OwnA cells m e (w.alloc o) base A c l := h.stay fun b hb => Below.heap_alloc w o b (h.block hb).2
theorem OwnA.call (h : OwnA cells m e w base A c l) (hb : Below w.heap.size w w') : OwnA cells m e w' base A c l := h.stay fun b hb' => hb.block b (h.block hb').2
theorem OwnA.chg {F : Nat → Prop} (h : OwnA cells m e w base A c l) (k : Chg F w w') (hF : ∀ b, InB A b → ¬ F b) : OwnA cells m e w' base A c l := h.stay fun b hb => k.block (h.block hb).2 (hF b hb)
theorem OwnA.far (h : OwnA cells m e w base A c l) {p : Addr} (hp : ¬ InB A p.block) (u : Value) : OwnA cells m e (w.setCell p u) base A c l := h.stay fun b hb => Below.heap_setCell w p u b (by rintro rfl; exact hp hb)
theorem OwnA.drew (h : OwnA cells m e w base A c l) : OwnA cells m e w.drew base A c l := h
structure Pushed (w w' : World) (A A' : Option Addr) : Prop where
 chg : Chg (InB A) w w'
 new : ∀ b, InB A' b → InB A b ∨ w.heap.size ≤ b
theorem Pushed.below {w0 : World} {A' : Option Addr} (h : Pushed w w' A A') {B : Nat} (hb : Below B w0 w) (hB : B ≤ w.heap.size) (hA : ∀ b, InB A b → B ≤ b) : Below B w0 w' := below_chg hb h.chg (fun b hb' hF => by have := hA b hF; omega) hB
end
theorem wpList_push {P : Program} {W : World} {e : TypeId} {cs : Array Value} {α : Type} (cells : α → List Value) (m : Nat) (hm : ∀ a, (cells a).length = m) (h1 : ∀ a, ∀ u ∈ cells a, u.oneCell' = true) (hm0 : 0 < m)
  (t : TypeId) (i : TypeInfo) (z : Value) (bytes : Nat) (ht : P.underlying t = some (.slice e)) (hi : P.info? e = some i) (hz : i.zero = some z) (hsize : i.size = m) (hby : i.bytes = bytes) (hzs : z.cells.size = m) (hbb : bytes ≤ 1000)
  {ops : Array Oper} {rest : List Oper} {o : Oper} {a : Act} {Q : Exit → Act → World → Prop} (hgd : o.guard = none) (s x : Operand)
  (ho : o.op = .call { callee := .builtin .append, args := #[s, x], argTypes := #[t, t] })
  (base : Nat) (A : Option Addr) (c : Nat) (l : List α) (v : α) (n : Nat) (hn : l.length = n) (hs : a.eval s = .slice A n c) (hown : OwnA cells m e W base A c l) (g : Nat) (hg : g = W.heap.size) (hcs : (cells v).toArray = cs)
  (hx : a.eval x = .slice (some ⟨g, 0, none⟩) 1 1) (hl : l.length ≤ 1000000) (hbase : base ≤ W.heap.size)
  (h : ∀ A' c' w', OwnA cells m e w' base A' c' (l ++ [v]) → Pushed W w' A A' → wpList P ops Q rest (a.put o.dst (.slice A' (n + 1) c')) w') : wpList P ops Q (o :: rest) a (W.alloc (.cells cs e)) := by
 subst hg hcs hn
 refine wpList_append_sl _ hgd s x t ho base e i z m bytes ht hi hz hsize hby hzs hm0 (.slice A l.length c) l.length (l.flatMap cells) hs (hown.alloc _) (W.heap.size + 1) (some ⟨W.heap.size, 0, none⟩) 1 1 (cells v) hx
  (lits_read W _ m 1 e (cells v) (by rw [hm]; omega) (by omega)) (h1 v) (by unfold maxLen; omega) ?_ (by simp; omega) ?_
 ·
  have : (l.length + 1) * bytes ≤ 1000001 * 1000 := Nat.mul_le_mul (by omega) hbb
  omega
 ·
  intro A' c' w' hown' hg' hat
  have hA : ∀ k, (Value.slice A l.length c).ownBlock = some k ↔ InB A k := hown.own_block
  have hO : OwnA cells m e w' base A' c' (l ++ [v]) := by
   unfold OwnA
   rw [List.length_append, List.flatMap_append]
   simpa using hown'
  refine h A' c' w' hO ⟨?_, ?_⟩
  · exact ((Chg.refl _ W).alloc _).grown hg' (fun k hk _ => (hA k).1 hk)
  ·
   intro b hb
   have e1 : (Value.slice A' (l.length + 1) c').ownBlock = some b := by
    have := (hO.own_block b).2 hb
    simpa [Value.ownBlock] using this
   rcases hat with h2 | h2
   ·
    rw [h2] at e1
    exact .inl ((hA b).1 e1)
   ·
    rw [h2] at e1
    simp at e1
    exact .inr (by omega)
abbrev icell (n : Int) : List Value := [.int .i64 n]
theorem icell_map (l : List Int) : l.flatMap icell = l.map (.int .i64) := by induction l <;> simp_all
abbrev OwnI (w : World) (base : Nat) (A : Option Addr) (c : Nat) (l : List Int) : Prop := OwnA icell 1 3 w base A c l
theorem OwnA.ints {w : World} {base : Nat} {A : Option Addr} {c : Nat} {l : List Int} (h : OwnI w base A c l) : Reads w w.heap.size 1 A l.length (l.map (.int .i64)) := by
 have := h.reads
 rwa [icell_map] at this
theorem wpList_push_int {W : World} {v : Int} {ops : Array Oper} {rest : List Oper} {o : Oper} {a : Act} {Q : Exit → Act → World → Prop} (hgd : o.guard = none) (s x : Operand)
  (ho : o.op = .call { callee := .builtin .append, args := #[s, x], argTypes := #[51, 51] })
  (base : Nat) (A : Option Addr) (c : Nat) (l : List Int) (n : Nat) (hn : l.length = n) (hs : a.eval s = .slice A n c) (hown : OwnI W base A c l) (g : Nat) (hg : g = W.heap.size)
  (hx : a.eval x = .slice (some ⟨g, 0, none⟩) 1 1) (hl : l.length ≤ 1000000) (hbase : base ≤ W.heap.size)
  (h : ∀ A' c' w', OwnI w' base A' c' (l ++ [v]) → Pushed W w' A A' → wpList Tryz.prog ops Q rest (a.put o.dst (.slice A' (n + 1) c')) w') : wpList Tryz.prog ops Q (o :: rest) a (W.alloc (.cells #[.int .i64 v] 3)) := by
 obtain ⟨i0, hi0, hz0, hz1, hz2⟩ := info_parts info_int
 exact wpList_push icell 1 (fun _ => rfl) (fun _ u hu => by simp at hu; subst hu; rfl) (by omega) 51 i0 _ 8 Tryz.underlying51 hi0 hz0 hz1 hz2 rfl (by omega) hgd s x ho base A c l v n hn hs hown g hg rfl hx hl hbase h
def octAt (m k i : Nat) : UInt8 := UInt8.ofNat (m / 2 ^ (8 * (k - 1 - i)))
def octB (m k : Nat) : List UInt8 := (List.range k).map (octAt m k)
def octF (m k j : Nat) : Nat → Value := fun i => if i < j then .int .u8 (octAt m k i).toNat else .int .u8 0
end Go.Proofs.YtohapcacckapoaaGreat
namespace Go.Proofs.YtohapcacckapoaaGreat
open Go Go.RowKit Go.Deep Go.Maps Go.ChangeMaps
abbrev Ob := World → (Nat → Prop) → Prop
structure Ob.Ok (P : Ob) : Prop where
 lt : ∀ {w : World} {X : Nat → Prop} {y : Nat}, P w X → X y → y < w.heap.size
 chg : ∀ {w w' : World} {X F : Nat → Prop}, P w X → Chg F w w' → (∀ y, X y → ¬ F y) → P w' X
def Ob.To (P : Ob) (w w' : World) (X : Nat → Prop) : Prop := ∃ X', P w' X' ∧ Chg X w w' ∧ ∀ y, X' y → X y ∨ w.heap.size ≤ y
def Ob.star (P Q : Ob) : Ob := fun w X => ∃ X1 X2, P w X1 ∧ Q w X2 ∧ (∀ y, X1 y → ¬ X2 y) ∧ ∀ y, X y ↔ X1 y ∨ X2 y
def Ob.emp : Ob := fun _ X => ∀ y, ¬ X y
def Ob.pure (P : Ob) (p : Prop) : Ob := fun w X => P w X ∧ p
def Ob.blk (g : Nat) (t : TypeId) (cs : Array Value) : Ob := fun w X => Blk w g t cs ∧ ∀ y, X y ↔ y = g
def Ob.ToZ (P : Ob) (w w' : World) (X Z : Nat → Prop) : Prop := ∃ X', P w' X' ∧ Chg X w w' ∧ (∀ y, X' y → X y ∨ w.heap.size ≤ y) ∧ ∀ y, X' y → ¬ Z y
def Ob.Has (R P : Ob) (G : Ob → Ob) : Prop := ∀ {w : World} {X : Nat → Prop}, R w X → ∃ X1, P w X1 ∧ (∀ y, X1 y → X y) ∧ ∀ P' w' X1', P' w' X1' → Chg X1 w w' → (∀ y, X1' y → X1 y ∨ w.heap.size ≤ y) → ∃ X', (G P') w' X' ∧ Chg X w w' ∧ ∀ y, X' y → X1' y ∨ X y
section
variable {P P' Q Q' R A : Ob} {w0 w w' w1 w2 : World} {X X1 F : Nat → Prop} {G H : Ob → Ob} {g : Nat} {t : TypeId} {cs : Array Value} {p : Prop}
theorem Ob.Ok.call (h : P.Ok) (k : P w X) (hb : Below w.heap.size w w') : P w' X := h.chg (F := fun _ => False) k (Chg.of_below hb) (fun _ _ h => h)
theorem Ob.blk_ok : (Ob.blk g t cs).Ok := ⟨fun h hy => by rw [(h.2 _).1 hy]; exact h.1.lt, fun h k hd => ⟨h.1.chg k (hd _ ((h.2 _).2 rfl)), h.2⟩⟩
theorem Ob.Ok.pure (h : P.Ok) : (P.pure p).Ok := ⟨fun k hy => h.lt k.1 hy, fun k c hd => ⟨h.chg k.1 c hd, k.2⟩⟩
theorem Ob.Ok.star (h : P.Ok) (k : Q.Ok) : (P.star Q).Ok := by
 refine ⟨?_, ?_⟩
 ·
  rintro w X y ⟨X1, X2, h1, h2, -, h3⟩ hy
  rcases (h3 y).1 hy with e | e
  · exact h.lt h1 e
  · exact k.lt h2 e
 ·
  rintro w w' X F ⟨X1, X2, h1, h2, hd, h3⟩ c hF
  exact ⟨X1, X2, h.chg h1 c fun y hy => hF y ((h3 y).2 (.inl hy)), k.chg h2 c fun y hy => hF y ((h3 y).2 (.inr hy)), hd, h3⟩
theorem Ob.To.size (h : P.To w w' X) : w.heap.size ≤ w'.heap.size := by
 obtain ⟨X', -, h2, -⟩ := h
 exact h2.size
theorem Ob.To.mono (h : P.To w w' X) (k : ∀ X', P w' X' → P' w' X') : P'.To w w' X := by
 obtain ⟨X', h1, h2, h3⟩ := h
 exact ⟨X', k _ h1, h2, h3⟩
theorem Ob.To.trans (t : P.To w w1 X) (k : ∀ X1, P w1 X1 → P'.To w1 w2 X1) : P'.To w w2 X := by
 obtain ⟨X1, h1, h2, h3⟩ := t
 obtain ⟨X2, k1, k2, k3⟩ := k X1 h1
 have hz := h2.size
 refine ⟨X2, k1, h2.trans k2 fun y hy hx => ?_, fun y hy => ?_⟩
 ·
  rcases h3 y hx with h | h
  · exact h
  · omega
 ·
  rcases k3 y hy with h | h
  · exact h3 y h
  · exact .inr (by omega)
theorem Ob.To.of (h : P w1 X) (k : Chg X w w1) : P.To w w1 X := ⟨X, h, k, fun _ h => .inl h⟩
theorem Ob.To.refl (h : P w X) : P.To w w X := ⟨X, h, Chg.refl _ _, fun _ h => .inl h⟩
theorem Ob.To.ofBelow (hP : P.Ok) (h : P w X) (hb : Below w.heap.size w w1) : P.To w w1 X := Ob.To.of (hP.call h hb) (Chg.of_below hb)
theorem Ob.To.call (hP : P.Ok) (t : P.To w w1 X) (hb : Below w1.heap.size w1 w2) : P.To w w2 X := t.trans fun _ h1 => Ob.To.ofBelow hP h1 hb
theorem Ob.To.below (hb : Below w.heap.size w w1) (t : P.To w1 w2 X) : P.To w w2 X := by
 obtain ⟨X', h1, h2, h3⟩ := t
 have := hb.size
 exact ⟨X', h1, (Chg.of_below hb).trans h2 fun _ _ h => h, fun y hy => (h3 y hy).imp id fun h => by omega⟩
theorem Ob.To.new (h : P w' X1) (hb : Below w.heap.size w w') (hn : ∀ y, X1 y → w.heap.size ≤ y) : P.To w w' X := ⟨X1, h, Chg.of_below hb, fun y hy => .inr (hn y hy)⟩
theorem Ob.star_comm (h : (P.star Q) w X) : (Q.star P) w X := by
 obtain ⟨X1, X2, h1, h2, h3, h4⟩ := h
 exact ⟨X2, X1, h2, h1, fun y hy e => h3 y e hy, fun y => (h4 y).trans Or.comm⟩
theorem Ob.has_self : P.Has P fun A => A := fun h => ⟨_, h, fun _ hy => hy, fun _ _ X1' h1 h2 _ => ⟨X1', h1, h2, fun _ hy => .inl hy⟩⟩
theorem Ob.has_left (hQ : Q.Ok) (h : P.Has A G) : (P.star Q).Has A fun A' => (G A').star Q := fun k => by
 obtain ⟨X1, X2, k1, k2, k3, k4⟩ := k
 obtain ⟨X3, m1, m2, m3⟩ := h k1
 refine ⟨X3, m1, fun y hy => (k4 y).2 (.inl (m2 y hy)), fun P' w' X1' n1 n2 n3 => ?_⟩
 obtain ⟨X', p1, p2, p3⟩ := m3 P' w' X1' n1 n2 n3
 refine ⟨fun y => X' y ∨ X2 y, ⟨X', X2, p1, hQ.chg k2 p2 fun y hy e => k3 y e hy, fun y hy e => ?_, fun _ => Iff.rfl⟩, p2.mono fun y _ hy => (k4 y).2 (.inl hy), fun y hy => ?_⟩
 ·
  rcases p3 y hy with h | h
  ·
   rcases n3 y h with h | h
   · exact k3 y (m2 y h) e
   ·
    have := hQ.lt k2 e
    omega
  · exact k3 y h e
 ·
  rcases hy with hy | hy
  · exact (p3 y hy).imp id fun h => (k4 y).2 (.inl h)
  · exact .inr ((k4 y).2 (.inr hy))
theorem Ob.has_right (hP : P.Ok) (h : Q.Has A G) : (P.star Q).Has A fun A' => P.star (G A') := fun k => by
 obtain ⟨X1, m1, m2, m3⟩ := Ob.has_left hP h (Ob.star_comm k)
 refine ⟨X1, m1, m2, fun P' w' X1' n1 n2 n3 => ?_⟩
 obtain ⟨X', p1, p2, p3⟩ := m3 P' w' X1' n1 n2 n3
 exact ⟨X', Ob.star_comm p1, p2, p3⟩
theorem Ob.part (hR : R.Has A G) (h : R w X) : ∃ X1, A w X1 ∧ (∀ y, X1 y → X y) ∧ (∀ P' w', Ob.To P' w w' X1 → Ob.To (G P') w w' X) ∧ ∀ P' w' Z, (∀ y, Z y → ¬ X y) → Ob.ToZ P' w w' X1 Z → Ob.ToZ (G P') w w' X Z := by
 obtain ⟨X1, m1, m2, m3⟩ := hR h
 refine ⟨X1, m1, m2, fun P' w' t => ?_, fun P' w' Z hZ t => ?_⟩
 ·
  obtain ⟨X1', n1, n2, n3⟩ := t
  obtain ⟨X', p1, p2, p3⟩ := m3 P' w' X1' n1 n2 n3
  refine ⟨X', p1, p2, fun y hy => ?_⟩
  rcases p3 y hy with h | h
  · exact (n3 y h).imp (m2 y) id
  · exact .inl h
 ·
  obtain ⟨X1', n1, n2, n3, n4⟩ := t
  obtain ⟨X', p1, p2, p3⟩ := m3 P' w' X1' n1 n2 n3
  refine ⟨X', p1, p2, fun y hy => ?_, fun y hy e => ?_⟩
  ·
   rcases p3 y hy with h | h
   · exact (n3 y h).imp (m2 y) id
   · exact .inl h
  ·
   rcases p3 y hy with h | h
   · exact n4 y h e
   · exact hZ y e h
theorem Ob.ToZ.to {Z : Nat → Prop} (h : P.ToZ w w' X Z) : P.To w w' X := by
 obtain ⟨X', h1, h2, h3, -⟩ := h
 exact ⟨X', h1, h2, h3⟩
theorem Ob.To.z (h : P.To w w' X) {Z : Nat → Prop} (hZ : ∀ y, Z y → ¬ X y ∧ y < w.heap.size) : P.ToZ w w' X Z := by
 obtain ⟨X', h1, h2, h3⟩ := h
 refine ⟨X', h1, h2, h3, fun y hy e => ?_⟩
 rcases h3 y hy with h | h
 · exact (hZ y e).1 h
 ·
  have := (hZ y e).2
  omega
theorem Ob.To.and (t : P.To w w' X) (k : ∀ X', P w' X' → (∀ y, X' y → X y ∨ w.heap.size ≤ y) → ∃ X1, Q w' X1 ∧ (∀ y, X1 y → w.heap.size ≤ y) ∧ ∀ y, X' y → ¬ X1 y) : (P.star Q).To w w' X := by
 obtain ⟨X', h1, h2, h3⟩ := t
 obtain ⟨X1, k1, k2, k3⟩ := k X' h1 h3
 exact ⟨fun y => X' y ∨ X1 y, ⟨X', X1, h1, k1, k3, fun _ => Iff.rfl⟩, h2, fun y hy => hy.elim (h3 y) fun e => .inr (k2 y e)⟩
theorem Ob.To.left (t : (P.star Q).To w w' X) : P.To w w' X := by
 obtain ⟨X', ⟨X1, X2, h1, h2, h3, h4⟩, k2, k3⟩ := t
 exact ⟨X1, h1, k2, fun y hy => k3 y ((h4 y).2 (.inl hy))⟩
theorem Ob.To.right (t : (P.star Q).To w w' X) : Q.To w w' X := (t.mono fun _ h => Ob.star_comm h).left
def Ob.In (P : Ob) (w0 w : World) : Prop := Below w0.heap.size w0 w ∧ ∃ X, P w X ∧ ∀ y, X y → w0.heap.size ≤ y
theorem Ob.In.below (h : P.In w0 w) : Below w0.heap.size w0 w := h.1
theorem Ob.In.mono (h : P.In w0 w) (k : ∀ X, P w X → P' w X) : P'.In w0 w := by
 obtain ⟨h1, X, h2, h3⟩ := h
 exact ⟨h1, X, k _ h2, h3⟩
theorem Ob.In.to (h : P.In w0 w) (k : ∀ X, P w X → P'.To w w' X) : P'.In w0 w' := by
 obtain ⟨h1, X, h2, h3⟩ := h
 obtain ⟨X', k1, k2, k3⟩ := k X h2
 have hz := h1.size
 refine ⟨below_chg h1 k2 (fun b hb hx => by have := h3 b hx; omega) hz, X', k1, fun y hy => ?_⟩
 rcases k3 y hy with h | h
 · exact h3 y h
 · omega
theorem Ob.In.call (hP : P.Ok) (h : P.In w0 w) (hb : Below w.heap.size w w') : P.In w0 w' := h.to fun _ h => Ob.To.ofBelow hP h hb
theorem Ob.In.refl (w : World) : Ob.emp.In w w := ⟨Below.refl _ _, fun _ => False, fun _ h => h, fun _ h => h.elim⟩
end
end Go.Proofs.YtohapcacckapoaaGreat
