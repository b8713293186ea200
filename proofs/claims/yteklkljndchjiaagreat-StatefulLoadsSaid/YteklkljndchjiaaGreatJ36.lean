/- table: the document's list of live entries, in plain words. table: the document's table in memory: look, At. table: the document's put. table: the document's put, walked. table: the document's table goes on; its parts and how they are put back; gone. table: the document's gone. table: the document's table as the code's own state tells it; Close. table: the document's Touch. table: .. -/
import Derived.Test.YteklkljndchjiaaGreatJ34
import Derived.Test.YteklkljndchjiaaGreatJ35
import Derived.Deep.MidRow
import Derived.Deep.CutRange
import Derived.StillTailTactics
import Derived.Deep.RegionHeld3
import Derived.Deep.CutBlock
import Derived.Laws.StructEq
namespace Go.Proofs.YteklkljndchjiaaGreat
open Go Go.RowKit Go.Deep Go.Maps Go.ChangeMaps
def putL (L : List Slt) (x : Slt) : List Slt := L.filter (fun y => decide (y.sl < x.sl)) ++ x :: L.filter (fun y => decide (x.sl < y.sl))
def delL (L : List Slt) (i : Int) : List Slt := L.filter fun y => !(y.sl == i)
def liveE (E : Nat → Slt) (n : Nat) : List Slt := entsOf E (allL E (fun _ => true) n)
section
variable {E : Nat → Slt} {n : Nat} {s : TSt}
end
theorem run_loadAt_ent (w : World) (a : Addr) (x : Slt) (hc : ∀ j u, x.ent[j]? = some u → w.cell? (a.add j) = some u) : (Instr.loadAt 52 (.pointer (some a))).run Tryz.prog w = .ok (.agg x.entA) w := by
 have hl : (loadCells a 14).run Tryz.prog w = .ok x.ent.toArray w := run_loadCells_list (P := Tryz.prog) w a x.ent hc
 have hs : (Tryz.prog.info? 52).map (·.size) = some 14 := by kernel_rfl
 cases hq : Tryz.prog.info? 52 with
 | none => simp [hq] at hs
 | some i =>
  have hs2 : i.size = 14 := by simpa [hq] using hs
  have hagg : (isAgg 52).run Tryz.prog w = .ok true w := by
   unfold isAgg
   rw [Sem.run_bind, run_underlying Tryz.underlying52 w]
   rfl
  simp only [Instr.loadAt, Instr.sureAddr, Sem.run_bind, Sem.run_pure, Result.andThen_ok]
  simp [loadVar, Sem.run_bind, hagg, sizeOf, typeInfo, hq, hs2, hl]
theorem wpList_load_entR {ops : Array Oper} {rest : List Oper} {op : Oper} {a : Act} {w : World} {Q : Exit → Act → World → Prop} (hgd : op.guard = none) (y : Operand) (ho : op.op = .load 52 y) (ad : Addr) (hx : a.eval y = .pointer (some ad)) (x : Slt)
  (hc : ∀ j u, x.ent[j]? = some u → w.cell? (ad.add j) = some u) (h : wpList Tryz.prog ops Q rest (a.put op.dst (.agg x.entA)) w) : wpList Tryz.prog ops Q (op :: rest) a w :=
 wpList_plain hgd fun _ hK => by
  unfold Oper.wp execOp
  simp only [ho, hx]
  rw [Sem.run_bind, run_loadAt_ent w ad x hc]
  exact hK _ _ h
theorem wpList_push_ents2 {W : World} {ops : Array Oper} {rest : List Oper} {o : Oper} {a : Act} {Q : Exit → Act → World → Prop} (hgd : o.guard = none) (s x : Operand)
  (ho : o.op = .call { callee := .builtin .append, args := #[s, x], argTypes := #[58, 58] })
  (base : Nat) (A : Option Addr) (c : Nat) (l : List Slt) (n : Nat) (hn : l.length = n) (hs : a.eval s = .slice A n c) (hown : OwnE W base A c l) (A2 : Option Addr) (c2 : Nat) (l2 : List Slt) (m : Nat) (hm : l2.length = m)
  (hx : a.eval x = .slice A2 m c2) (hr : Reads W W.heap.size 14 A2 m (l2.flatMap Slt.ent)) (hl : n + m ≤ 1000000) (hbase : base ≤ W.heap.size)
  (h : ∀ A' c' w', OwnE w' base A' c' (l ++ l2) → Pushed W w' A A' → wpList Tryz.prog ops Q rest (a.put o.dst (.slice A' (n + m) c')) w') : wpList Tryz.prog ops Q (o :: rest) a W := by
 subst hn hm
 obtain ⟨i0, hi0, hz0, hz1, hz2⟩ := info_parts info_ent
 refine wpList_append_sl _ hgd s x 58 ho base 52 i0 _ 14 112 Tryz.underlying58 hi0 hz0 hz1 hz2 rfl (by decide) (.slice A l.length c) l.length (l.flatMap Slt.ent) hs hown W.heap.size A2 l2.length c2 (l2.flatMap Slt.ent) hx hr (fun u hu => by
  obtain ⟨y, -, hy⟩ := List.mem_flatMap.1 hu
  unfold Slt.ent at hy
  simp at hy
  rcases hy with rfl | rfl | rfl | rfl | rfl | rfl | rfl | rfl | rfl | rfl | rfl | rfl | rfl | rfl <;> rfl) (by unfold maxLen; omega) (by omega) hbase ?_
 intro A' c' w' hown' hg' hat
 have hA : ∀ k, (Value.slice A l.length c).ownBlock = some k ↔ InB A k := hown.own_block
 have hO : OwnE w' base A' c' (l ++ l2) := by
  unfold OwnE OwnA
  rw [List.length_append, List.flatMap_append]
  exact hown'
 refine h A' c' w' hO ⟨?_, ?_⟩
 · exact (Chg.refl _ W).grown hg' (fun k hk _ => (hA k).1 hk)
 ·
  intro b hb
  have e1 : (Value.slice A' (l.length + l2.length) c').ownBlock = some b := by
   have := (hO.own_block b).2 hb
   simpa [Value.ownBlock] using this
  rcases hat with h2 | h2
  ·
   rw [h2] at e1
   exact .inl ((hA b).1 e1)
  ·
   rw [h2] at e1
   simp at e1
   exact .inr (by omega)
structure DTs where
 now : Int
 M : LM
 L : List Int
 LL : List Slt
 gen : Nat → Int
 lk : Int
def DTabP (w : World) (g n : Nat) (b : Int) (c : TCfg) (d : DTs) (X : Nat → Prop) : Prop :=
 ∃ (fs wg gb : Nat) (F Y : Nat → Prop) (A : Option Addr) (q : Nat), Blk w g 142 #[.int .i64 b, .int .i64 c.a, .int .i64 c.b, .int .i64 c.c, .int .i64 c.d, .pointer (some ⟨fs, 0, none⟩), .pointer (some ⟨wg, 0, none⟩), .slice A d.LL.length q, .slice (some ⟨gb, 0, none⟩) n n, .int .i64 d.lk] ∧
  RefP w fs n d.L F ∧ RWheelP w wg c.G d.now d.M Y ∧ OwnE w 0 A q d.LL ∧ w.rowIs gb 24 n (fun k => .int .u64 (d.gen k)) ∧ (∀ x, X x ↔ x = g ∨ x = gb ∨ InB A x ∨ F x ∨ Y x) ∧ (∀ x, F x → ¬ Y x) ∧ (∀ x, F x ∨ Y x → x ≠ g ∧ x ≠ gb ∧ ¬ InB A x) ∧ g ≠ gb ∧ (∀ x, InB A x → x ≠ g ∧ x ≠ gb) ∧ n ≤ 4096
section
variable {w w' : World} {g n : Nat} {b : Int} {c : TCfg} {d : DTs} {X F : Nat → Prop}
theorem DTabP.chg (h : DTabP w g n b c d X) (k : Chg F w w') (hd : ∀ x, X x → ¬ F x) : DTabP w' g n b c d X := by
 obtain ⟨fs, wg, gb, F', Y, A, q, h1, h2, h3, h4, h5, h6, h7⟩ := h
 exact ⟨fs, wg, gb, F', Y, A, q, h1.chg k (hd _ ((h6 _).2 (.inl rfl))), h2.chg k (fun x hx => hd x ((h6 x).2 (.inr (.inr (.inr (.inl hx)))))), h3.chg k (fun x hx => hd x ((h6 x).2 (.inr (.inr (.inr (.inr hx)))))), h4.chg k (fun x hx => hd x ((h6 x).2 (.inr (.inr (.inl hx))))), rowIs_chg h5 k (hd _ ((h6 _).2 (.inr (.inl rfl)))), h6, h7⟩
theorem DTabP.call (h : DTabP w g n b c d X) (hb : Below w.heap.size w w') : DTabP w' g n b c d X := h.chg (F := fun _ => False) (Chg.of_below hb) (fun _ _ h => h)
theorem DTabP.lt (h : DTabP w g n b c d X) {x : Nat} (hx : X x) : x < w.heap.size := by
 obtain ⟨fs, wg, gb, F', Y, A, q, h1, h2, h3, h4, h5, h6, h7⟩ := h
 rcases (h6 x).1 hx with rfl | rfl | hx | hx | hx
 · exact h1.lt
 · exact h5.lt
 · exact (h4.block hx).2
 · exact h2.lt hx
 · exact h3.lt hx
theorem DTabP.gX (h : DTabP w g n b c d X) : X g := by
 obtain ⟨fs, wg, gb, F', Y, A, q, h1, h2, h3, h4, h5, h6, h7⟩ := h
 exact (h6 g).2 (.inl rfl)
theorem DTabP.cells (h : DTabP w g n b c d X) : ∃ (fs wg gb : Nat) (A : Option Addr) (q : Nat), w.cell? ⟨g, 5, none⟩ = some (.pointer (some ⟨fs, 0, none⟩)) ∧ w.cell? ⟨g, 6, none⟩ = some (.pointer (some ⟨wg, 0, none⟩)) ∧ w.cell? ⟨g, 7, none⟩ = some (.slice A d.LL.length q) ∧ w.cell? ⟨g, 8, none⟩ = some (.slice (some ⟨gb, 0, none⟩) n n) ∧ w.cell? ⟨g, 9, none⟩ = some (.int .i64 d.lk) ∧ (∀ j, w.frozen? ⟨g, j, none⟩ = false) ∧ OwnE w 0 A q d.LL ∧ w.rowIs gb 24 n (fun k => .int .u64 (d.gen k)) ∧ w.cell? ⟨wg, 1, none⟩ = some (.int .i64 d.now) ∧ n ≤ 4096 := by
 obtain ⟨fs, wg, gb, F', Y, A, q, h1, h2, h3, h4, h5, h6, h7, h8, h9, h10, h11⟩ := h
 exact ⟨fs, wg, gb, A, q, h1.cell 5, h1.cell 6, h1.cell 7, h1.cell 8, h1.cell 9, h1.frozen, h4, h5, h3.now_, h11⟩
theorem DTabP.setLk (h : DTabP w g n b c d X) (l : Int) : DTabP (w.setCell ⟨g, 9, none⟩ (.int .i64 l)) g n b c { d with lk := l } X ∧ Chg X w (w.setCell ⟨g, 9, none⟩ (.int .i64 l)) := by
 have hX := h.gX
 obtain ⟨fs, wg, gb, F', Y, A, q, h1, h2, h3, h4, h5, h6, h7, h8, h9, h10, h11⟩ := h
 have k : Chg (· = g) w (w.setCell ⟨g, 9, none⟩ (.int .i64 l)) := Chg.setCell (F := (· = g)) (p := ⟨g, 9, none⟩) (Chg.refl _ _) (fun _ => rfl) _
 refine ⟨⟨fs, wg, gb, F', Y, A, q, ?_, h2.chg k (fun x hx e => (h8 x (.inl hx)).1 e), h3.chg k (fun x hx e => (h8 x (.inr hx)).1 e), h4.chg k (fun x hx e => (h10 x hx).1 e), rowIs_chg h5 k (fun e => h9 e.symm), h6, h7, h8, h9, h10, h11⟩, k.mono fun x _ e => by have e2 : x = g := e; exact e2 ▸ hX⟩
 have := h1.set_ 9 (.int .i64 l)
 simpa using this
end
section
variable {w w' : World} {g n : Nat} {b : Int} {c : TCfg} {d : DTs} {X F : Nat → Prop}
end
section
variable {w w' : World} {g n : Nat} {b : Int} {c : TCfg} {d : DTs} {X F : Nat → Prop}
end
def DTo (w w' : World) (g n : Nat) (b : Int) (c : TCfg) (d : DTs) (X : Nat → Prop) : Prop :=
 ∃ X', DTabP w' g n b c d X' ∧ Chg X w w' ∧ ∀ y, X' y → X y ∨ w.heap.size ≤ y
section
variable {w w' w1 w2 : World} {g n : Nat} {b : Int} {c : TCfg} {d d' : DTs} {X F : Nat → Prop}
theorem DTo.of (h : DTabP w1 g n b c d X) (k : Chg X w w1) : DTo w w1 g n b c d X := ⟨X, h, k, fun _ h => .inl h⟩
theorem DTo.trans (t : DTo w w1 g n b c d X) (k : ∀ X1, DTabP w1 g n b c d X1 → DTo w1 w2 g n b c d' X1) : DTo w w2 g n b c d' X := by
 obtain ⟨X1, h1, h2, h3⟩ := t
 obtain ⟨X2, k1, k2, k3⟩ := k X1 h1
 have hz := h2.size
 refine ⟨X2, k1, h2.trans k2 fun y hy hx => ?_, fun y hy => ?_⟩
 ·
  rcases h3 y hx with h | h
  · exact h
  · omega
 ·
  rcases k3 y hy with h | h
  · exact h3 y h
  · exact .inr (by omega)
theorem DTo.call (t : DTo w w1 g n b c d X) (hb : Below w1.heap.size w1 w2) : DTo w w2 g n b c d X :=
 t.trans fun X1 h1 => ⟨X1, h1.call hb, Chg.of_below hb, fun _ h => .inl h⟩
theorem DTo.ofBelow (h : DTabP w g n b c d X) (hb : Below w.heap.size w w1) : DTo w w1 g n b c d X := (DTo.of h (Chg.refl _ _)).call hb
theorem DTo.get (t : DTo w w1 g n b c d X) : ∃ X1, DTabP w1 g n b c d X1 := by
 obtain ⟨X1, h1, -⟩ := t
 exact ⟨X1, h1⟩
theorem DTabP.wheel (h : DTabP w g n b c d X) : ∃ wg Y, w.cell? ⟨g, 6, none⟩ = some (.pointer (some ⟨wg, 0, none⟩)) ∧ RWheelP w wg c.G d.now d.M Y ∧ ∀ (w' : World) (now' : Int) (M' : LM) (Y' : Nat → Prop), RWheelP w' wg c.G now' M' Y' → Chg Y w w' → (∀ y, Y' y → Y y ∨ w.heap.size ≤ y) → DTo w w' g n b c { d with now := now', M := M' } X := by
 have hlt := fun x (hx : X x) => h.lt hx
 obtain ⟨fs, wg, gb, F', Y, A, q, h1, h2, h3, h4, h5, h6, h7, h8, h9, h10, h11⟩ := h
 refine ⟨wg, Y, h1.cell 6, h3, fun w' now' M' Y' k1 k2 k3 => ?_⟩
 have hY : ∀ y, Y y → X y := fun y hy => (h6 y).2 (.inr (.inr (.inr (.inr hy))))
 have hnew : ∀ y, X y → ¬ Y y → ¬ Y' y := fun y hx hn hy => (k3 y hy).elim hn fun h => by have := hlt y hx; omega
 have gX : X g := (h6 g).2 (.inl rfl)
 have gbX : X gb := (h6 gb).2 (.inr (.inl rfl))
 have gY : ¬ Y g := fun hy => (h8 g (.inr hy)).1 rfl
 have gbY : ¬ Y gb := fun hy => (h8 gb (.inr hy)).2.1 rfl
 have AY : ∀ y, InB A y → ¬ Y y := fun y hi hy => (h8 y (.inr hy)).2.2 hi
 refine ⟨fun x => x = g ∨ x = gb ∨ InB A x ∨ F' x ∨ Y' x, ⟨fs, wg, gb, F', Y', A, q, h1.chg k2 gY, h2.chg k2 h7, k1, h4.chg k2 AY, rowIs_chg h5 k2 gbY, fun x => Iff.rfl, fun x hx => hnew x ((h6 x).2 (.inr (.inr (.inr (.inl hx))))) (h7 x hx), fun x hx => ?_, h9, h10, h11⟩, k2.mono fun y _ hy => hY y hy, fun y hy => ?_⟩
 ·
  rcases hx with hx | hx
  · exact h8 x (.inl hx)
  ·
   refine ⟨?_, ?_, fun hi => hnew x ((h6 x).2 (.inr (.inr (.inl hi)))) (AY x hi) hx⟩
   ·
    rintro rfl
    exact hnew _ gX gY hx
   ·
    rintro rfl
    exact hnew _ gbX gbY hx
 ·
  rcases hy with rfl | rfl | hy | hy | hy
  · exact .inl gX
  · exact .inl gbX
  · exact .inl ((h6 y).2 (.inr (.inr (.inl hy))))
  · exact .inl ((h6 y).2 (.inr (.inr (.inr (.inl hy)))))
  · exact (k3 y hy).imp (hY y) id
end
def goneD (n : Nat) (d : DTs) (i : Nat) : DTs := { d with M := lmDel d.M i, L := pushL n d.L i, LL := delL d.LL i, gen := fun k => if k = i then IntKind.u64.wrap (d.gen i + 1) else d.gen k }
section
variable {w w' w1 w2 : World} {g n : Nat} {b : Int} {c : TCfg} {d d' : DTs} {X X1 X2 F : Nat → Prop}
def XTo (w w1 : World) (X X1 : Nat → Prop) : Prop := Chg X w w1 ∧ ∀ y, X1 y → X y ∨ w.heap.size ≤ y
theorem XTo.trans (h : XTo w w1 X X1) (k : XTo w1 w2 X1 X2) : XTo w w2 X X2 := by
 have hz := h.1.size
 refine ⟨h.1.trans k.1 fun y hy hx => ?_, fun y hy => ?_⟩
 ·
  rcases h.2 y hx with h | h
  · exact h
  · omega
 ·
  rcases k.2 y hy with h' | h'
  · exact h.2 y h'
  · exact .inr (by omega)
theorem XTo.of (k : Chg X w w1) : XTo w w1 X X := ⟨k, fun _ h => .inl h⟩
theorem XTo.call (hb : Below w.heap.size w w1) : XTo w w1 X X := ⟨Chg.of_below hb, fun _ h => .inl h⟩
theorem DTo.mk (h : DTabP w1 g n b c d X1) (k : XTo w w1 X X1) : DTo w w1 g n b c d X := ⟨X1, h, k⟩
theorem DTo.fin {r : Nat} {w3 : World} (hX : ∀ y, X y → y < w.heap.size) (hb : Below w.heap.size w w1) (t : DTo w1 w2 g n b c d X) (k : Chg (· = r) w2 w3) (hr : w.heap.size ≤ r) (hr1 : r < w1.heap.size) : DTo w w3 g n b c d X := by
 obtain ⟨X', h1, h2, h3⟩ := t
 have hz := hb.size
 have hn : ∀ y, X' y → y ≠ r := fun y hx => by
  rcases h3 y hx with h | h
  ·
   have := hX y h
   omega
  · omega
 exact ⟨X', h1.chg k fun y hx e => hn y hx e, ((Chg.of_below hb).trans (G := X) h2 (fun _ _ h => h)).trans (G := (· = r)) k (fun y hb e => by have e2 : y = r := e; omega), fun y hx => (h3 y hx).imp id (fun h => Nat.le_trans hz h)⟩
end
@[reducible] def dOf (n : Nat) (s : TSt) : DTs := ⟨s.now, s.M, s.L, liveE s.E n, fun k => (s.E k).gen, s.lk⟩
section
variable {w w' w1 w2 : World} {g n : Nat} {b : Int} {c : TCfg} {s : TSt} {X X1 X2 F : Nat → Prop}
end
section
variable {w w' w1 w2 : World} {g n : Nat} {b : Int} {c : TCfg} {s : TSt} {X X1 X2 F : Nat → Prop}
theorem DTabP.rule {d : DTs} (h : DTabP w g n b c d X) : w.cell? ⟨g, 1, none⟩ = some (.int .i64 c.a) ∧ w.cell? ⟨g, 2, none⟩ = some (.int .i64 c.b) ∧ w.cell? ⟨g, 3, none⟩ = some (.int .i64 c.c) ∧ w.cell? ⟨g, 4, none⟩ = some (.int .i64 c.d) ∧ (1 ≤ c.G ∧ c.G ≤ 1024) ∧ (0 ≤ d.now ∧ d.now ≤ 1099511627776) := by
 obtain ⟨fs, wg, gb, F', Y, A, q, h1, h2, h3, h4⟩ := h
 exact ⟨h1.cell 1, h1.cell 2, h1.cell 3, h1.cell 4, h3.rng⟩
end
section
variable {w w' w1 w2 : World} {g n : Nat} {b : Int} {c : TCfg} {s : TSt} {X X1 X2 F : Nat → Prop}
end
section
variable {w w' w1 w2 : World} {g n : Nat} {b : Int} {c : TCfg} {s : TSt} {X X1 X2 F : Nat → Prop}
end
section
variable {w w' w1 w2 : World} {g n : Nat} {b : Int} {c : TCfg} {d : DTs} {s : TSt} {X X1 X2 F : Nat → Prop}
end
end Go.Proofs.YteklkljndchjiaaGreat
