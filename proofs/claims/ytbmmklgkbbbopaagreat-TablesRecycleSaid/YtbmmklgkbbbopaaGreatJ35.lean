/- table: the document's list of live entries, in plain words. table: the document's table in memory: look, At. table: the document's put. table: the document's put, walked. table: the document's table goes on; its parts and how they are put back; gone. table: the document's gone. table: the document's table as the code's own state tells it; Close. table: the document's Touch. -/
import Derived.Test.YtbmmklgkbbbopaaGreatJ33
import Derived.Test.YtbmmklgkbbbopaaGreatJ34
import Derived.Deep.MidRow
import Derived.Deep.CutRange
import Derived.StillTailTactics
import Derived.Deep.RegionHeld3
import Derived.Deep.CutBlock
namespace Go.Proofs.YtbmmklgkbbbopaaGreat
open Go Go.RowKit Go.Deep Go.Maps Go.ChangeMaps

/-- An entry laid among others, by its slot. -/
def putL (L : List Slt) (x : Slt) : List Slt := L.filter (fun y => decide (y.sl < x.sl)) ++ x :: L.filter (fun y => decide (x.sl < y.sl))
/-- A slot's entry goes. -/
def delL (L : List Slt) (i : Int) : List Slt := L.filter fun y => !(y.sl == i)
def liveE (E : Nat → Slt) (n : Nat) : List Slt := entsOf E (allL E (fun _ => true) n)
section
variable {E : Nat → Slt} {n : Nat} {s : TSt}
theorem liveE_succ (E : Nat → Slt) (m : Nat) : liveE E (m + 1) = if (E m).used = true then liveE E m ++ [E m] else liveE E m := by
  unfold liveE entsOf
  rw [allL_succ, Bool.and_true]
  split
  · rw [List.map_append]
    rfl
  · rfl
theorem liveE_zero (E : Nat → Slt) : liveE E 0 = [] := rfl
theorem liveE_rng (m : Nat) (h : ∀ k, k < m → (E k).sl = k) {y : Slt} (hy : y ∈ liveE E m) : 0 ≤ y.sl ∧ y.sl < m ∧ y.used = true ∧ E y.sl.toNat = y := by
  unfold liveE entsOf at hy
  obtain ⟨k, hk, rfl⟩ := List.mem_map.1 hy
  have h1 := allL_lt hk
  unfold allL at hk
  have h2 := (List.mem_filter.1 hk).2
  rw [Bool.and_true] at h2
  rw [h k h1]
  exact ⟨by omega, by omega, h2, by rw [Int.toNat_natCast]⟩
theorem liveE_sorted : ∀ (m : Nat), (∀ k, k < m → (E k).sl = k) → (liveE E m).Pairwise fun x y => x.sl < y.sl
  | 0, _ => List.Pairwise.nil
  | m + 1, h => by
    rw [liveE_succ]
    have ih := liveE_sorted m fun k hk => h k (by omega)
    split
    · refine List.pairwise_append.2 ⟨ih, by simp, fun x hx y hy => ?_⟩
      rw [List.mem_singleton] at hy
      subst hy
      rw [h m (by omega)]
      exact (liveE_rng m (fun k hk => h k (by omega)) hx).2.1
    · exact ih
theorem liveE_congr {E' : Nat → Slt} : ∀ (m : Nat), (∀ k, k < m → E' k = E k) → liveE E' m = liveE E m
  | 0, _ => rfl
  | m + 1, h => by rw [liveE_succ, liveE_succ, liveE_congr m fun k hk => h k (by omega), h m (by omega)]
theorem liveE_put {i : Nat} {x : Slt} (hx : x.used = true) (hs : x.sl = i) : ∀ (m : Nat), (∀ k, k < m → (E k).sl = k) → liveE (updE E i x) m = if i < m then putL (liveE E m) x else liveE E m
  | 0, _ => by rw [if_neg (by omega)]; rfl
  | m + 1, h => by
    have ih := liveE_put (i := i) hx hs m fun k hk => h k (by omega)
    rw [liveE_succ, ih]
    rcases Nat.lt_trichotomy m i with hm | rfl | hm
    · rw [if_neg (show ¬ i < m by omega), if_neg (show ¬ i < m + 1 by omega), updE_ne E x (show m ≠ i by omega), liveE_succ]
    · rw [if_neg (show ¬ m < m by omega), if_pos (show m < m + 1 by omega), updE_self, if_pos hx]
      have h1 : ∀ y ∈ liveE E m, y.sl < x.sl := fun y hy => by rw [hs]; exact (liveE_rng m (fun k hk => h k (by omega)) hy).2.1
      have h2 : (liveE E m).filter (fun y => decide (y.sl < x.sl)) = liveE E m := List.filter_eq_self.2 fun y hy => by simpa using h1 y hy
      have h3 : (liveE E m).filter (fun y => decide (x.sl < y.sl)) = [] := List.filter_eq_nil_iff.2 fun y hy => by have := h1 y hy; simp; omega
      have h4 := h m (by omega)
      unfold putL
      rw [liveE_succ]
      split
      · rw [List.filter_append, List.filter_append, h2, h3, List.filter_cons_of_neg (by simp; omega), List.filter_cons_of_neg (by simp; omega)]
        simp
      · rw [h2, h3]
    · have h4 := h m (by omega)
      rw [if_pos hm, if_pos (show i < m + 1 by omega), updE_ne E x (show m ≠ i by omega), liveE_succ]
      split
      · unfold putL
        rw [List.filter_append, List.filter_append, List.filter_cons_of_neg (by simp; omega), List.filter_cons_of_pos (by simp; omega)]
        simp
      · rfl
theorem liveE_del {i : Nat} {x : Slt} (hx : x.used = false) : ∀ (m : Nat), (∀ k, k < m → (E k).sl = k) → liveE (updE E i x) m = delL (liveE E m) i
  | 0, _ => rfl
  | m + 1, h => by
    have ih := liveE_del (i := i) hx m fun k hk => h k (by omega)
    have h4 := h m (by omega)
    rw [liveE_succ, ih, liveE_succ]
    by_cases e : m = i
    · subst e
      rw [updE_self, if_neg (by rw [hx]; decide)]
      unfold delL
      split
      · rw [List.filter_append, List.filter_cons_of_neg (by simp [h4])]
        simp
      · rfl
    · rw [updE_ne E x e]
      unfold delL
      split
      · rw [List.filter_append, List.filter_cons_of_pos (by simp [h4]; omega)]
        rfl
      · rfl
/-- Where the walk over the entries stops. -/
theorem putL_at {L : List Slt} (hL : L.Pairwise fun x y => x.sl < y.sl) (x : Slt) (k : Nat) (hk : k ≤ L.length) (h1 : ∀ j (hj : j < L.length), j < k → L[j].sl < x.sl) (h2 : ∀ h : k < L.length, x.sl ≤ L[k].sl) :
    putL L x = L.take k ++ x :: L.drop (if ∃ h : k < L.length, L[k].sl = x.sl then k + 1 else k) := by
  have e := List.take_append_drop k L
  have a1 : ∀ y ∈ L.take k, y.sl < x.sl := fun y hy => by
    obtain ⟨j, hj, rfl⟩ := List.mem_iff_getElem.1 hy
    rw [List.length_take] at hj
    rw [List.getElem_take]
    exact h1 j (by omega) (by omega)
  have f1 : (L.take k).filter (fun y => decide (y.sl < x.sl)) = L.take k := List.filter_eq_self.2 fun y hy => by simpa using a1 y hy
  have f2 : (L.take k).filter (fun y => decide (x.sl < y.sl)) = [] := List.filter_eq_nil_iff.2 fun y hy => by have := a1 y hy; simp; omega
  have fA : L.filter (fun y => decide (y.sl < x.sl)) = (L.take k).filter (fun y => decide (y.sl < x.sl)) ++ (L.drop k).filter (fun y => decide (y.sl < x.sl)) := by rw [← List.filter_append, e]
  have fB : L.filter (fun y => decide (x.sl < y.sl)) = (L.take k).filter (fun y => decide (x.sl < y.sl)) ++ (L.drop k).filter (fun y => decide (x.sl < y.sl)) := by rw [← List.filter_append, e]
  unfold putL
  rw [fA, fB, f1, f2]
  by_cases hlt : k < L.length
  · have hd : L.drop k = L[k] :: L.drop (k + 1) := List.drop_eq_getElem_cons hlt
    have hge := h2 hlt
    have hp : ∀ y ∈ L.drop (k + 1), L[k].sl < y.sl := by
      have hq : (L.drop k).Pairwise fun x y => x.sl < y.sl := hL.sublist (List.drop_sublist _ _)
      rw [hd] at hq
      exact (List.pairwise_cons.1 hq).1
    have f3 : (L.drop (k + 1)).filter (fun y => decide (y.sl < x.sl)) = [] := List.filter_eq_nil_iff.2 fun y hy => by have := hp y hy; simp; omega
    have f4 : (L.drop (k + 1)).filter (fun y => decide (x.sl < y.sl)) = L.drop (k + 1) := List.filter_eq_self.2 fun y hy => by have := hp y hy; simp; omega
    by_cases he : L[k].sl = x.sl
    · rw [if_pos ⟨hlt, he⟩, hd, List.filter_cons_of_neg (by simp; omega), List.filter_cons_of_neg (by simp; omega), f3, f4]
      simp
    · rw [if_neg (fun h => he h.2), hd, List.filter_cons_of_neg (by simp; omega), List.filter_cons_of_pos (by simp; omega), f3, f4]
      simp
  · have hd : L.drop k = [] := List.drop_eq_nil_iff.2 (by omega)
    rw [if_neg (fun h => hlt h.1), hd]
    simp
theorem liveL_eq : liveL n s = liveE s.E n := rfl
/-- A used slot's entry among the live ones. -/
theorem live_idx (h : ∀ k, k < n → (E k).sl = k) {i : Nat} (hi : i < n) (hu : (E i).used = true) : ∃ j, ∃ hj : j < (liveE E n).length, (liveE E n)[j] = E i ∧ ∀ k (hk : k < (liveE E n).length), k < j → (liveE E n)[k].sl ≠ i := by
  have hm : E i ∈ liveE E n := by
    unfold liveE entsOf allL
    exact List.mem_map.2 ⟨i, List.mem_filter.2 ⟨List.mem_range.2 hi, by rw [Bool.and_true]; exact hu⟩, rfl⟩
  obtain ⟨j, hj, e⟩ := List.mem_iff_getElem.1 hm
  refine ⟨j, hj, e, fun k hk hkj => ?_⟩
  have := List.pairwise_iff_getElem.1 (liveE_sorted n h) k j hk hj hkj
  rw [e, h i hi] at this
  omega
theorem live_none (h : ∀ k, k < n → (E k).sl = k) {i : Int} (hi : ¬ (0 ≤ i ∧ i < n ∧ (E i.toNat).used = true)) {y : Slt} (hy : y ∈ liveE E n) : y.sl ≠ i := fun e => by
  obtain ⟨a, b, c, d⟩ := liveE_rng n h hy
  rw [e] at a b d
  exact hi ⟨a, b, by rw [d]; exact c⟩
theorem liveE_len (E : Nat → Slt) : ∀ m : Nat, (liveE E m).length ≤ m
  | 0 => Nat.le_refl _
  | m + 1 => by
    have ih := liveE_len E m
    rw [liveE_succ]
    split
    · rw [List.length_append]
      simp
      omega
    · omega
end
end Go.Proofs.YtbmmklgkbbbopaaGreat

namespace Go.Proofs.YtbmmklgkbbbopaaGreat
open Go Go.RowKit Go.Deep Go.Maps Go.ChangeMaps

/-- An entry is loaded whole, from wherever it lies. -/
theorem run_loadAt_ent (w : World) (a : Addr) (x : Slt) (hc : ∀ j u, x.ent[j]? = some u → w.cell? (a.add j) = some u) : (Instr.loadAt 52 (.pointer (some a))).run Tryz.prog w = .ok (.agg x.entA) w := by
  have hl : (loadCells a 14).run Tryz.prog w = .ok x.ent.toArray w := run_loadCells_list (P := Tryz.prog) w a x.ent hc
  have hs : (Tryz.prog.info? 52).map (·.size) = some 14 := by kernel_rfl
  cases hq : Tryz.prog.info? 52 with
  | none => simp [hq] at hs
  | some i =>
    have hs2 : i.size = 14 := by simpa [hq] using hs
    have hagg : (isAgg 52).run Tryz.prog w = .ok true w := by
      unfold isAgg
      rw [Sem.run_bind, run_underlying Tryz.underlying52 w]
      rfl
    simp only [Instr.loadAt, Instr.sureAddr, Sem.run_bind, Sem.run_pure, Result.andThen_ok]
    simp [loadVar, Sem.run_bind, hagg, sizeOf, typeInfo, hq, hs2, hl]
theorem wpList_load_entR {ops : Array Oper} {rest : List Oper} {op : Oper} {a : Act} {w : World} {Q : Exit → Act → World → Prop} (hgd : op.guard = none) (y : Operand) (ho : op.op = .load 52 y) (ad : Addr) (hx : a.eval y = .pointer (some ad)) (x : Slt)
    (hc : ∀ j u, x.ent[j]? = some u → w.cell? (ad.add j) = some u) (h : wpList Tryz.prog ops Q rest (a.put op.dst (.agg x.entA)) w) : wpList Tryz.prog ops Q (op :: rest) a w :=
  wpList_plain hgd fun _ hK => by
    unfold Oper.wp execOp
    simp only [ho, hx]
    rw [Sem.run_bind, run_loadAt_ent w ad x hc]
    exact hK _ _ h
theorem wpList_push_ents2 {W : World} {ops : Array Oper} {rest : List Oper} {o : Oper} {a : Act} {Q : Exit → Act → World → Prop} (hgd : o.guard = none) (s x : Operand)
    (ho : o.op = .call { callee := .builtin .append, args := #[s, x], argTypes := #[58, 58] })
    (base : Nat) (A : Option Addr) (c : Nat) (l : List Slt) (n : Nat) (hn : l.length = n) (hs : a.eval s = .slice A n c) (hown : OwnE W base A c l) (A2 : Option Addr) (c2 : Nat) (l2 : List Slt) (m : Nat) (hm : l2.length = m)
    (hx : a.eval x = .slice A2 m c2) (hr : Reads W W.heap.size 14 A2 m (l2.flatMap Slt.ent)) (hl : n + m ≤ 1000000) (hbase : base ≤ W.heap.size)
    (h : ∀ A' c' w', OwnE w' base A' c' (l ++ l2) → Pushed W w' A A' → wpList Tryz.prog ops Q rest (a.put o.dst (.slice A' (n + m) c')) w') : wpList Tryz.prog ops Q (o :: rest) a W := by
  subst hn hm
  obtain ⟨i0, hi0, hz0, hz1, hz2⟩ := info_parts info_ent
  refine wpList_append_sl _ hgd s x 58 ho base 52 i0 _ 14 112 Tryz.underlying58 hi0 hz0 hz1 hz2 rfl (by decide) (.slice A l.length c) l.length (l.flatMap Slt.ent) hs hown W.heap.size A2 l2.length c2 (l2.flatMap Slt.ent) hx hr (fun u hu => by
    obtain ⟨y, -, hy⟩ := List.mem_flatMap.1 hu
    unfold Slt.ent at hy
    simp at hy
    rcases hy with rfl | rfl | rfl | rfl | rfl | rfl | rfl | rfl | rfl | rfl | rfl | rfl | rfl | rfl <;> rfl) (by unfold maxLen; omega) (by omega) hbase ?_
  intro A' c' w' hown' hg' hat
  have hA : ∀ k, (Value.slice A l.length c).ownBlock = some k ↔ InB A k := hown.own_block
  have hO : OwnE w' base A' c' (l ++ l2) := by
    unfold OwnE OwnA
    rw [List.length_append, List.flatMap_append]
    exact hown'
  refine h A' c' w' hO ⟨?_, ?_⟩
  · exact (Chg.refl _ W).grown hg' (fun k hk _ => (hA k).1 hk)
  · intro b hb
    have e1 : (Value.slice A' (l.length + l2.length) c').ownBlock = some b := by
      have := (hO.own_block b).2 hb
      simpa [Value.ownBlock] using this
    rcases hat with h2 | h2
    · rw [h2] at e1
      exact .inl ((hA b).1 e1)
    · rw [h2] at e1
      simp at e1
      exact .inr (by omega)
/-- What the document's table holds. -/
structure DTs where
  now : Int
  M : LM
  L : List Int
  LL : List Slt
  gen : Nat → Int
  lk : Int
/-- The document's table in memory, its n slots, by its blocks X. -/
def DTabP (w : World) (g n : Nat) (b : Int) (c : TCfg) (d : DTs) (X : Nat → Prop) : Prop :=
  ∃ (fs wg gb : Nat) (F Y : Nat → Prop) (A : Option Addr) (q : Nat), Blk w g 99 #[.int .i64 b, .int .i64 c.a, .int .i64 c.b, .int .i64 c.c, .int .i64 c.d, .pointer (some ⟨fs, 0, none⟩), .pointer (some ⟨wg, 0, none⟩), .slice A d.LL.length q, .slice (some ⟨gb, 0, none⟩) n n, .int .i64 d.lk] ∧
    RefP w fs n d.L F ∧ RWheelP w wg c.G d.now d.M Y ∧ OwnE w 0 A q d.LL ∧ w.rowIs gb 24 n (fun k => .int .u64 (d.gen k)) ∧ (∀ x, X x ↔ x = g ∨ x = gb ∨ InB A x ∨ F x ∨ Y x) ∧ (∀ x, F x → ¬ Y x) ∧ (∀ x, F x ∨ Y x → x ≠ g ∧ x ≠ gb ∧ ¬ InB A x) ∧ g ≠ gb ∧ (∀ x, InB A x → x ≠ g ∧ x ≠ gb) ∧ n ≤ 4096
section
variable {w w' : World} {g n : Nat} {b : Int} {c : TCfg} {d : DTs} {X F : Nat → Prop}
theorem DTabP.chg (h : DTabP w g n b c d X) (k : Chg F w w') (hd : ∀ x, X x → ¬ F x) : DTabP w' g n b c d X := by
  obtain ⟨fs, wg, gb, F', Y, A, q, h1, h2, h3, h4, h5, h6, h7⟩ := h
  exact ⟨fs, wg, gb, F', Y, A, q, h1.chg k (hd _ ((h6 _).2 (.inl rfl))), h2.chg k (fun x hx => hd x ((h6 x).2 (.inr (.inr (.inr (.inl hx)))))), h3.chg k (fun x hx => hd x ((h6 x).2 (.inr (.inr (.inr (.inr hx)))))), h4.chg k (fun x hx => hd x ((h6 x).2 (.inr (.inr (.inl hx))))), rowIs_chg h5 k (hd _ ((h6 _).2 (.inr (.inl rfl)))), h6, h7⟩
theorem DTabP.call (h : DTabP w g n b c d X) (hb : Below w.heap.size w w') : DTabP w' g n b c d X := h.chg (F := fun _ => False) (Chg.of_below hb) (fun _ _ h => h)
theorem DTabP.lt (h : DTabP w g n b c d X) {x : Nat} (hx : X x) : x < w.heap.size := by
  obtain ⟨fs, wg, gb, F', Y, A, q, h1, h2, h3, h4, h5, h6, h7⟩ := h
  rcases (h6 x).1 hx with rfl | rfl | hx | hx | hx
  · exact h1.lt
  · exact h5.lt
  · exact (h4.block hx).2
  · exact h2.lt hx
  · exact h3.lt hx
theorem DTabP.gX (h : DTabP w g n b c d X) : X g := by
  obtain ⟨fs, wg, gb, F', Y, A, q, h1, h2, h3, h4, h5, h6, h7⟩ := h
  exact (h6 g).2 (.inl rfl)
/-- The parts, as they lie. -/
theorem DTabP.cells (h : DTabP w g n b c d X) : ∃ (fs wg gb : Nat) (A : Option Addr) (q : Nat), w.cell? ⟨g, 5, none⟩ = some (.pointer (some ⟨fs, 0, none⟩)) ∧ w.cell? ⟨g, 6, none⟩ = some (.pointer (some ⟨wg, 0, none⟩)) ∧ w.cell? ⟨g, 7, none⟩ = some (.slice A d.LL.length q) ∧ w.cell? ⟨g, 8, none⟩ = some (.slice (some ⟨gb, 0, none⟩) n n) ∧ w.cell? ⟨g, 9, none⟩ = some (.int .i64 d.lk) ∧ (∀ j, w.frozen? ⟨g, j, none⟩ = false) ∧ OwnE w 0 A q d.LL ∧ w.rowIs gb 24 n (fun k => .int .u64 (d.gen k)) ∧ w.cell? ⟨wg, 1, none⟩ = some (.int .i64 d.now) ∧ n ≤ 4096 := by
  obtain ⟨fs, wg, gb, F', Y, A, q, h1, h2, h3, h4, h5, h6, h7, h8, h9, h10, h11⟩ := h
  exact ⟨fs, wg, gb, A, q, h1.cell 5, h1.cell 6, h1.cell 7, h1.cell 8, h1.cell 9, h1.frozen, h4, h5, h3.now_, h11⟩
theorem DTabP.setLk (h : DTabP w g n b c d X) (l : Int) : DTabP (w.setCell ⟨g, 9, none⟩ (.int .i64 l)) g n b c { d with lk := l } X ∧ Chg X w (w.setCell ⟨g, 9, none⟩ (.int .i64 l)) := by
  have hX := h.gX
  obtain ⟨fs, wg, gb, F', Y, A, q, h1, h2, h3, h4, h5, h6, h7, h8, h9, h10, h11⟩ := h
  have k : Chg (· = g) w (w.setCell ⟨g, 9, none⟩ (.int .i64 l)) := Chg.setCell (F := (· = g)) (p := ⟨g, 9, none⟩) (Chg.refl _ _) (fun _ => rfl) _
  refine ⟨⟨fs, wg, gb, F', Y, A, q, ?_, h2.chg k (fun x hx e => (h8 x (.inl hx)).1 e), h3.chg k (fun x hx e => (h8 x (.inr hx)).1 e), h4.chg k (fun x hx e => (h10 x hx).1 e), rowIs_chg h5 k (fun e => h9 e.symm), h6, h7, h8, h9, h10, h11⟩, k.mono fun x _ e => by have e2 : x = g := e; exact e2 ▸ hX⟩
  have := h1.set_ 9 (.int .i64 l)
  simpa using this
theorem dtab_look (h : DTabP w g n b c d X) (i : Int) : Calls Tryz.prog 77 #[.pointer (some ⟨g, 0, none⟩), .int .i64 i] w fun e w' => e = .returned (.tuple #[]) ∧ DTabP w' g n b c { d with lk := if lookOk n i then wrap64 (d.lk + 1) else d.lk } X ∧ Chg X w w' := by
  obtain ⟨fs, wg, gb, A, q, -, -, -, c8, c9, fz, -, -, -, hn⟩ := h.cells
  have f9 := fz 9
  by_cases h0 : 0 ≤ i
  · have d0 : decide (0 ≤ i) = true := by simpa using h0
    by_cases h1 : i < (n : Int)
    · have d1 : decide (i < (n : Int)) = true := by simpa using h1
      have e : lookOk n i = true := by unfold lookOk; simp; omega
      rw [e]
      have hs := h.setLk (wrap64 (d.lk + 1))
      replace hs := Lib.hid hs
      clear fz e h
      go_enter Tryz.func77, Tryz.ntmps77
      go_wp2_with fail
      go_end0
      exact ⟨rfl, hs.out⟩
    · have d1 : decide (i < (n : Int)) = false := by simpa using h1
      have e : lookOk n i = false := by unfold lookOk; simp; omega
      rw [e]
      clear fz e
      replace h := Lib.hid h
      go_enter Tryz.func77, Tryz.ntmps77
      go_wp2_with fail
      go_end0
      exact ⟨rfl, h.out, Chg.refl _ _⟩
  · have d0 : decide (0 ≤ i) = false := by simpa using h0
    have e : lookOk n i = false := by unfold lookOk; simp; omega
    rw [e]
    clear fz e
    replace h := Lib.hid h
    go_enter Tryz.func77, Tryz.ntmps77
    go_wp2_with fail
    go_end0
    exact ⟨rfl, h.out, Chg.refl _ _⟩
/-- A slot that no entry has. -/
theorem dtab_at_no (h : DTabP w g n b c d X) (hl : d.LL.length ≤ 1000000) (i : Int) (hno : ∀ y ∈ d.LL, y.sl ≠ i) : Calls Tryz.prog 89 #[.pointer (some ⟨g, 0, none⟩), .int .i64 i] w fun e w' => e = .returned (.int .i64 (-1)) ∧ w = w' := by
  obtain ⟨fs, wg, gb, A, q, -, -, c7, -, -, -, hO, -, -, -⟩ := h.cells
  obtain ⟨LL, hLL⟩ : ∃ L, d.LL = L := ⟨_, rfl⟩
  rw [hLL] at c7 hO hl hno
  have hr := hO.reads
  replace hr := Lib.hid hr
  clear h hO hLL
  replace hno := Lib.hid hno
  go_enter Tryz.func89, Tryz.ntmps89
  go_wp2_with fail
  go_loop [5] (fun iv => ∃ j : Nat, j ≤ LL.length ∧ iv = .int .i64 (j : Nat)) (fun iv => LL.length - (intOf iv).toNat)
  case atStart => exact ⟨0, by omega, rfl⟩
  case round =>
    obtain ⟨j, hj, rfl⟩ := hrel
    by_cases hlt : j < LL.length
    · have hlti : (j : Int) < (LL.length : Int) := by omega
      obtain ⟨ad, rfl, hbl, hc⟩ := hr.out.rec_at Slt.ent (fun _ => rfl) hlt
      have c11 : w.cell? ⟨(ad.add (j * 14)).block, (ad.add (j * 14)).off + 11, none⟩ = some (.int .i64 LL[j].sl) := hc 11 _ rfl
      have hne : (LL[j].sl == i) = false := by simpa using hno.out _ (List.getElem_mem hlt)
      generalize LL[j].sl = y at *
      clear hc
      go_wp2_with fail
      go_round
      case rel => exact ⟨j + 1, by omega, by go_num⟩
      case measure => simp [intOf]; omega
    · obtain rfl : j = LL.length := by omega
      have hlti : ¬ (LL.length : Int) < (LL.length : Int) := by omega
      go_wp2_with fail
      go_ret
      exact ⟨rfl, rfl⟩
/-- A slot that an entry has. -/
theorem dtab_at (h : DTabP w g n b c d X) (hl : d.LL.length ≤ 1000000) (i : Int) (k : Nat) (hk : k < d.LL.length) (hki : d.LL[k].sl = i) (hno : ∀ j (hj : j < d.LL.length), j < k → d.LL[j].sl ≠ i) : Calls Tryz.prog 89 #[.pointer (some ⟨g, 0, none⟩), .int .i64 i] w fun e w' => e = .returned (.int .i64 (k : Int)) ∧ w = w' := by
  obtain ⟨fs, wg, gb, A, q, -, -, c7, -, -, -, hO, -, -, -⟩ := h.cells
  obtain ⟨now, M, L, LL, gen, lk⟩ := d
  dsimp only at c7 hO hl hk hki hno
  have hr := hO.reads
  replace hr := Lib.hid hr
  clear h hO
  replace hno := Lib.hid hno
  replace hki := Lib.hid hki
  go_enter Tryz.func89, Tryz.ntmps89
  go_wp2_with fail
  go_loop [5] (fun iv => ∃ j : Nat, j ≤ k ∧ iv = .int .i64 (j : Nat)) (fun iv => LL.length - (intOf iv).toNat)
  case atStart => exact ⟨0, by omega, rfl⟩
  case round =>
    obtain ⟨j, hj, rfl⟩ := hrel
    have hlt : j < LL.length := by omega
    have hlti : (j : Int) < (LL.length : Int) := by omega
    obtain ⟨ad, rfl, hbl, hc⟩ := hr.out.rec_at Slt.ent (fun _ => rfl) hlt
    have c11 : w.cell? ⟨(ad.add (j * 14)).block, (ad.add (j * 14)).off + 11, none⟩ = some (.int .i64 LL[j].sl) := hc 11 _ rfl
    clear hc
    by_cases e : j = k
    · subst e
      have hne : (LL[j].sl == i) = true := by simpa using hki.out
      generalize LL[j].sl = y at *
      go_wp2_with fail
      go_ret
      exact ⟨rfl, rfl⟩
    · have hne : (LL[j].sl == i) = false := by simpa using hno.out j hlt (by omega)
      generalize LL[j].sl = y at *
      go_wp2_with fail
      go_round
      case rel => exact ⟨j + 1, by omega, by go_num⟩
      case measure => simp [intOf]; omega
end
end Go.Proofs.YtbmmklgkbbbopaaGreat

namespace Go.Proofs.YtbmmklgkbbbopaaGreat
open Go Go.RowKit Go.Deep Go.Maps Go.ChangeMaps

theorem flat_drop : ∀ (k : Nat) (l : List Slt), (l.flatMap Slt.ent).drop (k * 14) = (l.drop k).flatMap Slt.ent
  | 0, l => by simp
  | k + 1, [] => by simp
  | k + 1, x :: r => by
    have ih := flat_drop k r
    rw [List.flatMap_cons, List.drop_succ_cons, ← ih, List.drop_append]
    have hl : x.ent.length = 14 := rfl
    rw [List.drop_eq_nil_iff.2 (by rw [hl]; omega), hl, List.nil_append]
    congr 1
    omega
theorem info_entSize : (Tryz.prog.info? 52).map (·.size) = some 14 := by kernel_rfl
set_option maxRecDepth 100000 in
theorem slice_from_ent (A : Option Addr) (n c k : Nat) (hk : k ≤ n) (hc : n ≤ c) : ∃ A2 c2, (∀ W, (Instr.slice 58 (.slice A n c) (some (.int .i64 (k : Int))) none none).run Tryz.prog W = .ok (.slice A2 (n - k) c2) W) ∧ ∀ (W : World) (B : Nat) (l : List Slt), Reads W B 14 A n (l.flatMap Slt.ent) → Reads W B 14 A2 (n - k) ((l.drop k).flatMap Slt.ent) := by
  refine ⟨if c = k then A else A.map (·.add (k * 14)), c - k, fun W => ?_, fun W B xs h => ?_⟩
  · rw [run_slice_l _ _ _ _ _ (by kernel_rfl) .i64 (k : Int) (by omega) (by omega)]
    have : (sizeOf (Tryz.prog.elem 58)).run Tryz.prog W = .ok 14 W := by
      first | rfl | exact Tryz.sizeOf52 W | simp [go_sem]
    rw [this]
    simp [Result.andThen, sliced]
  · rw [← flat_drop]
    exact h.cut (k := k) hk hc
theorem ownE_cap {w : World} {base c : Nat} {A : Option Addr} {l : List Slt} (h : OwnE w base A c l) : l.length ≤ c := by
  rcases h.2 with ⟨h2, h3⟩ | ⟨g', cap', cur, hv, hb, hh, hc, hm, hs, hx⟩
  · simp only [Value.slice.injEq] at h2
    omega
  · simp only [Value.slice.injEq] at hv
    rw [hv.2.2]
    exact hc
theorem drop_getD_take {α : Type} (L : List α) (k : Nat) (hk : k < L.length) : L.take (k + 1) = L.take k ++ [L[k]] := List.take_succ_eq_append_getElem hk
section
variable {w w' : World} {g n : Nat} {b : Int} {c : TCfg} {d : DTs} {X F : Nat → Prop}
/-- The entries anew. -/
theorem DTabP.setLL (h0 : DTabP w g n b c d X) {W : World} (hb : Below w.heap.size w W) {A' : Option Addr} {q' : Nat} {LL' : List Slt} {B : Nat} (hO : OwnE W B A' q' LL') (hB : w.heap.size ≤ B) :
    ∃ X', DTabP (W.setCell ⟨g, 7, none⟩ (.slice A' LL'.length q')) g n b c { d with LL := LL' } X' ∧ Chg X w (W.setCell ⟨g, 7, none⟩ (.slice A' LL'.length q')) ∧ ∀ x, X' x → X x ∨ w.heap.size ≤ x := by
  have hX := h0.gX
  have hlt := fun x (hx : X x) => h0.lt hx
  obtain ⟨fs, wg, gb, F', Y, A, q, h1, h2, h3, h4, h5, h6, h7, h8, h9, h10, h11⟩ := h0.call hb
  have k : Chg (· = g) W (W.setCell ⟨g, 7, none⟩ (.slice A' LL'.length q')) := Chg.setCell (F := (· = g)) (p := ⟨g, 7, none⟩) (Chg.refl _ _) (fun _ => rfl) _
  have hgw := hlt g hX
  have hn : ∀ x, InB A' x → w.heap.size ≤ x := fun x hx => Nat.le_trans hB (hO.block hx).1
  refine ⟨fun x => x = g ∨ x = gb ∨ InB A' x ∨ F' x ∨ Y x, ⟨fs, wg, gb, F', Y, A', q', ?_, h2.chg k (fun x hx e => (h8 x (.inl hx)).1 e), h3.chg k (fun x hx e => (h8 x (.inr hx)).1 e), ?_, rowIs_chg h5 k (fun e => h9 e.symm), fun x => Iff.rfl, h7, fun x hx => ⟨(h8 x hx).1, (h8 x hx).2.1, fun hi => ?_⟩, h9, fun x hx => ⟨?_, ?_⟩, h11⟩, ?_, fun x hx => ?_⟩
  · have := h1.set_ 7 (.slice A' LL'.length q')
    simpa using this
  · refine OwnA.chg (OwnA.low hO (Nat.zero_le _)) k (fun x hx e => ?_)
    have e2 : x = g := e
    have := hn x hx
    omega
  · have h12 := hn x hi
    have h13 := hlt x ((h6 x).2 (hx.elim (fun h => .inr (.inr (.inr (.inl h)))) (fun h => .inr (.inr (.inr (.inr h))))))
    omega
  · rintro rfl
    have := hn _ hx
    omega
  · rintro rfl
    have := hn _ hx
    have := hlt _ ((h6 _).2 (.inr (.inl rfl)))
    omega
  · exact (Chg.of_below hb).trans (G := (· = g)) k (fun x _ e => by have e2 : x = g := e; exact e2 ▸ hX)
  · rcases hx with rfl | rfl | hx | hx | hx
    · exact .inl hX
    · exact .inl ((h6 _).2 (.inr (.inl rfl)))
    · exact .inr (hn x hx)
    · exact .inl ((h6 _).2 (.inr (.inr (.inr (.inl hx)))))
    · exact .inl ((h6 _).2 (.inr (.inr (.inr (.inr hx)))))
end
end Go.Proofs.YtbmmklgkbbbopaaGreat

namespace Go.Proofs.YtbmmklgkbbbopaaGreat
open Go Go.RowKit Go.Deep Go.Maps Go.ChangeMaps

section
variable {w w' : World} {g n : Nat} {b : Int} {c : TCfg} {d : DTs} {X F : Nat → Prop}
theorem blk_at {w : World} {r : Nat} {x : Slt} (h : Blk w r 52 x.entA) : ∀ j u, x.ent[j]? = some u → w.cell? ((⟨r, 0, none⟩ : Addr).add j) = some u := fun j u hu => by
  rw [Addr.add_mid, Nat.zero_add, h.cell j]
  exact (List.getElem?_toArray ..).trans hu
theorem entR_at {w : World} {B : Nat} {ad : Addr} {L : List Slt} (h : Reads w B 14 (some ad) L.length (L.flatMap Slt.ent)) {k : Nat} (hk : k < L.length) : ∀ j u, L[k].ent[j]? = some u → w.cell? ((ad.add (k * 14)).add j) = some u := by
  obtain ⟨ad', e, -, hc⟩ := h.rec_at Slt.ent (fun _ => rfl) hk
  cases e
  exact hc
set_option maxRecDepth 100000 in
set_option maxHeartbeats 8000000 in
theorem dtab_put (h : DTabP w g n b c d X) (hs : d.LL.Pairwise fun x y => x.sl < y.sl) (hl : d.LL.length ≤ 4096) (x : Slt) :
    Calls Tryz.prog 79 #[.pointer (some ⟨g, 0, none⟩), x.val] w fun e w' => e = .returned (.tuple #[]) ∧ ∃ X', DTabP w' g n b c { d with LL := putL d.LL x } X' ∧ Chg X w w' ∧ ∀ y, X' y → X y ∨ w.heap.size ≤ y := by
  have HF := Lib.hid fun (W : World) (hb : Below w.heap.size w W) (A' : Option Addr) (q' : Nat) (LL' : List Slt) (B : Nat) (hO : OwnE W B A' q' LL') (hB : w.heap.size ≤ B) => h.setLL hb hO hB
  obtain ⟨fs, wg, gb, A, q, -, -, c7, -, -, fz, hO, -, -, -⟩ := h.cells
  have hglt := h.lt h.gX
  have f7 := fz 7
  obtain ⟨now, M, L, LL, gen, lk⟩ := d
  dsimp only at c7 hO hl hs HF
  dsimp only
  obtain ⟨PL, hPL⟩ : ∃ P, putL LL x = P := ⟨_, rfl⟩
  have hput := Lib.hid (putL_at hs x)
  rw [hPL] at hput ⊢
  have hcap := ownE_cap hO
  clear h fz hPL hs
  replace hO := Lib.hid hO
  go_enter Tryz.func79, Tryz.ntmps79
  go_upto_region 1 with fail
  have hB0 := Blk.new w 52 x.entA
  have hb0 := below_alloc (Below.refl w.heap.size w) (.cells x.entA 52)
  have hz0 := World.size_alloc w (.cells x.entA 52)
  have c7' := (hb0.cell (block_lt_of_cell c7)).trans c7
  have f7' : (w.alloc (.cells x.entA 52)).frozen? ⟨g, 7, none⟩ = false := (hb0.frozen hglt).trans f7
  obtain ⟨r, hr⟩ : ∃ r, w.heap.size = r := ⟨_, rfl⟩
  rw [hr] at hB0
  try rw [hr]
  generalize w.alloc (.cells x.entA 52) = w1 at *
  clear c7 f7
  replace hB0 := Lib.hid hB0
  go_wp2_with fail
  go_loopw [4, 5] (fun ov iv wr => ∃ (k : Nat) (A' : Option Addr) (q' : Nat), k ≤ LL.length ∧ iv = .int .i64 (k : Nat) ∧ ov = .slice A' k q' ∧ OwnE wr w1.heap.size A' q' (LL.take k) ∧ Below w1.heap.size w1 wr ∧ ∀ j (hj : j < LL.length), j < k → LL[j].sl < x.sl) (fun _ iv _ => LL.length - (intOf iv).toNat)
  case atStart => exact ⟨0, none, 0, by omega, rfl, rfl, OwnA.nil _ _, Below.refl _ _, fun j _ hj => absurd hj (by omega)⟩
  case round =>
    obtain ⟨k, A', q', hk, rfl, rfl, hT, hb, hall⟩ := hrel
    have hz := hb.size
    have hlk : (LL.take k).length = k := by rw [List.length_take]; omega
    have c7 := (hb.cell (block_lt_of_cell c7')).trans c7'
    have hBr := hB0.out.call hb
    have cx : wr.cell? ⟨r, 11, none⟩ = some (.int .i64 x.sl) := hBr.cell 11
    have hRd := (hO.out.call (below_chain hb hb0)).reads
    by_cases hs1 : ∃ hlt : k < LL.length, LL[k].sl < x.sl
    · obtain ⟨hlt, hs1⟩ := hs1
      have hlti : (k : Int) < (LL.length : Int) := by omega
      obtain ⟨ad, rfl, hbl, hc⟩ := hRd.rec_at Slt.ent (fun _ => rfl) hlt
      have c11 : wr.cell? ⟨(ad.add (k * 14)).block, (ad.add (k * 14)).off + 11, none⟩ = some (.int .i64 LL[k].sl) := hc 11 _ rfl
      have hd1 : decide (LL[k].sl < x.sl) = true := by simpa using hs1
      have hst : LL.take (k + 1) = LL.take k ++ [LL[k]] := List.take_succ_eq_append_getElem hlt
      obtain ⟨y, hy⟩ : ∃ y, LL[k] = y := ⟨_, rfl⟩
      rw [hy] at c11 hd1 hst hs1 hc
      replace hy := Lib.hid hy
      replace hs1 := Lib.hid hs1
      replace hst := Lib.hid hst
      replace hall := Lib.hid hall
      replace hc := Lib.hid hc
      replace hT := Lib.hid hT
      clear hRd hBr
      go_upto_region 3 with fail
      go_quiet (fail)
      have hbn := below_drewN (Below.refl wr.heap.size wr) nq
      have c7n := (hbn.cell (block_lt_of_cell c7)).trans c7
      have hcn : ∀ j u, y.ent[j]? = some u → (wr.drewN nq).cell? ((ad.add (k * 14)).add j) = some u := fun j u hu => (hbn.cell (block_lt_of_cell (hc.out j u hu))).trans (hc.out j u hu)
      have hTn := hT.out.call hbn
      have hb2 := below_chain hbn hb
      clear c7 cx c11 hc hT hbn hb
      generalize wr.drewN nq = wz at *
      have hz2 := hb2.size
      replace hcn := Lib.hid hcn
      replace hTn := Lib.hid hTn
      go_wp2_with (first
        | (refine wpList_load_entR rfl (.tmp 34) rfl (ad.add (k * 14)) rfl y hcn.out ?_)
        | (at_builtin; refine wpList_push_ent rfl (.tmp 28) (.tmp 36) rfl w1.heap.size A' q' (LL.take k) y k hlk rfl hTn.out _ rfl rfl rfl (by omega) (by omega) ?_; intro A4 a4 w4 hO4 hp4))
      have hb4 := hp4.below hb2 (by omega) (fun z hz => (hTn.out.block hz).1)
      go_roundw
      case rel => exact ⟨k + 1, A4, a4, by omega, by go_num, rfl, by rw [hst.out]; exact hO4, hb4, fun j hj hjk => by
        by_cases e : j = k
        · subst e
          rw [hy.out]
          exact hs1.out
        · exact hall.out j hj (by omega)⟩
      case measure => simp [intOf]; omega
    · obtain ⟨k2, hk2⟩ : ∃ k2, (if ∃ h : k < LL.length, LL[k].sl = x.sl then k + 1 else k) = k2 := ⟨_, rfl⟩
      have hp := hput.out k hk hall (fun hlt => Int.not_lt.1 fun h => hs1 ⟨hlt, h⟩)
      rw [hk2] at hp
      have hk3 : k2 ≤ LL.length := by
        rw [← hk2]
        split
        · next h => obtain ⟨h1, -⟩ := h; omega
        · omega
      obtain ⟨A2, c2, hsl, hrd⟩ := slice_from_ent A LL.length q k2 hk3 hcap
      have hRA := Lib.hid fun W (hW : Below w1.heap.size w1 W) => (hrd W _ LL (hO.out.call (below_chain hW hb0)).reads)
      have hdl : (LL.drop k2).length = LL.length - k2 := List.length_drop ..
      have hPl : PL.length = k + 1 + (LL.length - k2) := by
        rw [hp, List.length_append, List.length_cons, hlk, hdl]
        omega
      have hk3i : (k2 : Int) ≤ (LL.length : Int) := by omega
      have hk0i : (0 : Int) ≤ (k2 : Int) := by omega
      have FZ := Lib.hid fun W (hW : Below w1.heap.size w1 W) => And.intro ((hW.cell (block_lt_of_cell c7')).trans c7') ((hW.frozen (p := ⟨g, 7, none⟩) (block_lt_of_cell c7')).trans f7')
      have XB := Lib.hid fun W (hW : Below w1.heap.size w1 W) => blk_at (hB0.out.call hW)
      have CX := Lib.hid fun W (hW : Below w1.heap.size w1 W) => show W.cell? ⟨r, 11, none⟩ = some (.int .i64 x.sl) from (hB0.out.call hW).cell 11
      have hcase : (∃ hlt : k < LL.length, x.sl ≤ LL[k].sl) ∨ k = LL.length := by
        by_cases hlt : k < LL.length
        · exact .inl ⟨hlt, Int.not_lt.1 fun h => hs1 ⟨hlt, h⟩⟩
        · exact .inr (by omega)
      rcases hcase with ⟨hlt, hge⟩ | rfl
      · have hlti : (k : Int) < (LL.length : Int) := by omega
        obtain ⟨ad, rfl, -, -⟩ := hRd.rec_at Slt.ent (fun _ => rfl) hlt
        have HC := Lib.hid fun W (hW : Below w1.heap.size w1 W) (hlt : k < LL.length) => show W.cell? ((ad.add (k * 14)).add 11) = some (.int .i64 LL[k].sl) from entR_at (hO.out.call (below_chain hW hb0)).reads hlt 11 _ rfl
        by_cases he : LL[k].sl = x.sl
        · obtain rfl : k + 1 = k2 := by rw [← hk2, if_pos ⟨hlt, he⟩]
          have hd1 : decide (LL[k].sl < x.sl) = false := by simpa using hge
          have C11 := Lib.hid fun W (hW : Below w1.heap.size w1 W) => show W.cell? ⟨(ad.add (k * 14)).block, (ad.add (k * 14)).off + 11, none⟩ = some (.int .i64 LL[k].sl) from HC.out W hW hlt
          have c11 := C11.out wr hb
          have hE : (LL[k].sl == x.sl) = true := by simpa using he
          generalize LL[k].sl = y at *
          clear he hge
          have hsl2 : ∀ W, (Instr.slice 58 (.slice (some ad) LL.length q) (some (.int .i64 ((k : Int) + 1))) none none).run Tryz.prog W = .ok (.slice A2 (LL.length - (k + 1)) c2) W := fun W => by rw [show (k : Int) + 1 = ((k + 1 : Nat) : Int) from rfl]; exact hsl W
          have hk3i2 : (k : Int) + 1 ≤ (LL.length : Int) := by omega
          clear hsl hk3i hk0i
          replace hp := Lib.hid hp
          replace hPl := Lib.hid hPl
          replace hdl := Lib.hid hdl
          replace hlk := Lib.hid hlk
          replace hT := Lib.hid hT
          clear hRd hBr HC
          go_upto_region 3 with fail
          go_quiet (fail)
          have hbn := below_drewN (Below.refl wr.heap.size wr) nq
          have hTn := Lib.hid (hT.out.call hbn)
          have hb2 := below_chain hbn hb
          clear c7 cx hT hbn hb c11
          generalize wr.drewN nq = wz at *
          have hz2 := hb2.size
          go_upto_region 7 with (first
            | (refine wpList_load_entR rfl (.tmp 3) rfl ⟨r, 0, none⟩ rfl x (XB.out _ hb2) ?_)
            | (at_builtin; refine wpList_push_ent rfl (.tmp 38) (.tmp 40) rfl w1.heap.size A' q' (LL.take k) x k hlk.out rfl hTn.out _ rfl rfl rfl (by have := hlk.out; omega) (by omega) ?_; intro A5 q5 w5 hO5 hp5))
          have hb5 := hp5.below hb2 (by omega) (fun z hz => (hTn.out.block hz).1)
          have hz5 := hb5.size
          obtain ⟨c7, f7⟩ := FZ.out w5 hb5
          have cx := CX.out w5 hb5
          have c11 := C11.out w5 hb5
          replace hO5 := Lib.hid hO5
          clear hTn hp5 hb2 hz2 hz
          go_quiet (fail)
          have hbm := below_drewN (Below.refl w5.heap.size w5) nq
          have hO6 := Lib.hid (hO5.out.call hbm)
          have hb6 := below_chain hbm hb5
          clear c7 f7 cx hO5 hbm hb5 hz5 c11
          generalize w5.drewN nq = w6 at *
          have hz6 := hb6.size
          obtain ⟨c7, f7⟩ := FZ.out w6 hb6
          go_wp2_with (first
            | (at_builtin; refine wpList_push_ents2 rfl (.tmp 65) (.tmp 71) rfl w1.heap.size A5 q5 (LL.take k ++ [x]) (k + 1) (by rw [List.length_append, hlk.out]; rfl) rfl hO6.out A2 c2 (LL.drop (k + 1)) (LL.length - (k + 1)) hdl.out rfl (hRA.out _ hb6) (by omega) (by omega) ?_; intro A7 q7 w7 hO7 hp7; have hb7 := hp7.below hb6 (by omega) (fun z hz => (hO6.out.block hz).1); obtain ⟨c7, f7⟩ := FZ.out w7 hb7))
          have hfin := HF.out w7 (below_chain hb7 hb0) A7 q7 PL w1.heap.size (by rw [hp.out]; simpa using hO7) (by omega)
          rw [hPl.out] at hfin
          rw [show k + 1 + (LL.length - (k + 1)) = LL.length by omega] at hfin
          replace hfin := Lib.hid hfin
          go_end0
          first | exact ⟨rfl, hfin.out⟩ | (have h9 := hfin.out; rw [hr] at h9; exact ⟨rfl, h9⟩)
        · obtain rfl : k = k2 := by rw [← hk2, if_neg (fun h => he h.2)]
          have hd1 : decide (LL[k].sl < x.sl) = false := by simpa using hge
          have C11 := Lib.hid fun W (hW : Below w1.heap.size w1 W) => show W.cell? ⟨(ad.add (k * 14)).block, (ad.add (k * 14)).off + 11, none⟩ = some (.int .i64 LL[k].sl) from HC.out W hW hlt
          have c11 := C11.out wr hb
          have hE : (LL[k].sl == x.sl) = false := by simpa using he
          generalize LL[k].sl = y at *
          clear he hge
          replace hp := Lib.hid hp
          replace hPl := Lib.hid hPl
          replace hdl := Lib.hid hdl
          replace hlk := Lib.hid hlk
          replace hT := Lib.hid hT
          clear hRd hBr HC
          go_upto_region 3 with fail
          go_quiet (fail)
          have hbn := below_drewN (Below.refl wr.heap.size wr) nq
          have hTn := Lib.hid (hT.out.call hbn)
          have hb2 := below_chain hbn hb
          clear c7 cx hT hbn hb c11
          generalize wr.drewN nq = wz at *
          have hz2 := hb2.size
          go_upto_region 7 with (first
            | (refine wpList_load_entR rfl (.tmp 3) rfl ⟨r, 0, none⟩ rfl x (XB.out _ hb2) ?_)
            | (at_builtin; refine wpList_push_ent rfl (.tmp 38) (.tmp 40) rfl w1.heap.size A' q' (LL.take k) x k hlk.out rfl hTn.out _ rfl rfl rfl (by have := hlk.out; omega) (by omega) ?_; intro A5 q5 w5 hO5 hp5))
          have hb5 := hp5.below hb2 (by omega) (fun z hz => (hTn.out.block hz).1)
          have hz5 := hb5.size
          obtain ⟨c7, f7⟩ := FZ.out w5 hb5
          have cx := CX.out w5 hb5
          have c11 := C11.out w5 hb5
          replace hO5 := Lib.hid hO5
          clear hTn hp5 hb2 hz2 hz
          go_quiet (fail)
          have hbm := below_drewN (Below.refl w5.heap.size w5) nq
          have hO6 := Lib.hid (hO5.out.call hbm)
          have hb6 := below_chain hbm hb5
          clear c7 f7 cx hO5 hbm hb5 hz5 c11
          generalize w5.drewN nq = w6 at *
          have hz6 := hb6.size
          obtain ⟨c7, f7⟩ := FZ.out w6 hb6
          go_wp2_with (first
            | (at_builtin; refine wpList_push_ents2 rfl (.tmp 65) (.tmp 71) rfl w1.heap.size A5 q5 (LL.take k ++ [x]) (k + 1) (by rw [List.length_append, hlk.out]; rfl) rfl hO6.out A2 c2 (LL.drop k) (LL.length - k) hdl.out rfl (hRA.out _ hb6) (by omega) (by omega) ?_; intro A7 q7 w7 hO7 hp7; have hb7 := hp7.below hb6 (by omega) (fun z hz => (hO6.out.block hz).1); obtain ⟨c7, f7⟩ := FZ.out w7 hb7))
          have hfin := HF.out w7 (below_chain hb7 hb0) A7 q7 PL w1.heap.size (by rw [hp.out]; simpa using hO7) (by omega)
          rw [hPl.out] at hfin
          replace hfin := Lib.hid hfin
          go_end0
          first | exact ⟨rfl, hfin.out⟩ | (have h9 := hfin.out; rw [hr] at h9; exact ⟨rfl, h9⟩)
      · obtain rfl : LL.length = k2 := by rw [← hk2, if_neg (fun h => by obtain ⟨h1, -⟩ := h; omega)]
        have hlti : ¬ ((LL.length : Nat) : Int) < (LL.length : Int) := by omega
        replace hp := Lib.hid hp
        replace hPl := Lib.hid hPl
        replace hdl := Lib.hid hdl
        replace hlk := Lib.hid hlk
        replace hT := Lib.hid hT
        clear hRd hBr
        go_upto_region 3 with fail
        go_quiet (fail)
        have hbn := below_drewN (Below.refl wr.heap.size wr) nq
        have hTn := Lib.hid (hT.out.call hbn)
        have hb2 := below_chain hbn hb
        clear c7 cx hT hbn hb
        generalize wr.drewN nq = wz at *
        have hz2 := hb2.size
        go_upto_region 7 with (first
          | (refine wpList_load_entR rfl (.tmp 3) rfl ⟨r, 0, none⟩ rfl x (XB.out _ hb2) ?_)
          | (at_builtin; refine wpList_push_ent rfl (.tmp 38) (.tmp 40) rfl w1.heap.size A' q' (LL.take LL.length) x LL.length hlk.out rfl hTn.out _ rfl rfl rfl (by have := hlk.out; omega) (by omega) ?_; intro A5 q5 w5 hO5 hp5))
        have hb5 := hp5.below hb2 (by omega) (fun z hz => (hTn.out.block hz).1)
        have hz5 := hb5.size
        obtain ⟨c7, f7⟩ := FZ.out w5 hb5
        have cx := CX.out w5 hb5
        replace hO5 := Lib.hid hO5
        clear hTn hp5 hb2 hz2 hz
        go_quiet (fail)
        have hbm := below_drewN (Below.refl w5.heap.size w5) nq
        have hO6 := Lib.hid (hO5.out.call hbm)
        have hb6 := below_chain hbm hb5
        clear c7 f7 cx hO5 hbm hb5 hz5
        generalize w5.drewN nq = w6 at *
        have hz6 := hb6.size
        obtain ⟨c7, f7⟩ := FZ.out w6 hb6
        go_wp2_with (first
          | (at_builtin; refine wpList_push_ents2 rfl (.tmp 65) (.tmp 71) rfl w1.heap.size A5 q5 (LL.take LL.length ++ [x]) (LL.length + 1) (by rw [List.length_append, hlk.out]; rfl) rfl hO6.out A2 c2 [] 0 rfl rfl (by have h9 := hRA.out _ hb6; rw [Nat.sub_self, List.drop_length] at h9; exact h9) (by omega) (by omega) ?_; intro A7 q7 w7 hO7 hp7; have hb7 := hp7.below hb6 (by omega) (fun z hz => (hO6.out.block hz).1); obtain ⟨c7, f7⟩ := FZ.out w7 hb7))
        have hfin := HF.out w7 (below_chain hb7 hb0) A7 q7 PL w1.heap.size (by rw [hp.out]; simpa using hO7) (by omega)
        rw [hPl.out] at hfin
        rw [show LL.length + 1 + (LL.length - LL.length) = LL.length + 1 by omega] at hfin
        replace hfin := Lib.hid hfin
        go_end0
        first | exact ⟨rfl, hfin.out⟩ | (have h9 := hfin.out; rw [hr] at h9; exact ⟨rfl, h9⟩)
end
end Go.Proofs.YtbmmklgkbbbopaaGreat

namespace Go.Proofs.YtbmmklgkbbbopaaGreat
open Go Go.RowKit Go.Deep Go.Maps Go.ChangeMaps

/-- The document's table goes on, its blocks of old or new. -/
def DTo (w w' : World) (g n : Nat) (b : Int) (c : TCfg) (d : DTs) (X : Nat → Prop) : Prop :=
  ∃ X', DTabP w' g n b c d X' ∧ Chg X w w' ∧ ∀ y, X' y → X y ∨ w.heap.size ≤ y
section
variable {w w' w1 w2 : World} {g n : Nat} {b : Int} {c : TCfg} {d d' : DTs} {X F : Nat → Prop}
theorem DTo.of (h : DTabP w1 g n b c d X) (k : Chg X w w1) : DTo w w1 g n b c d X := ⟨X, h, k, fun _ h => .inl h⟩
theorem DTo.trans (t : DTo w w1 g n b c d X) (k : ∀ X1, DTabP w1 g n b c d X1 → DTo w1 w2 g n b c d' X1) : DTo w w2 g n b c d' X := by
  obtain ⟨X1, h1, h2, h3⟩ := t
  obtain ⟨X2, k1, k2, k3⟩ := k X1 h1
  have hz := h2.size
  refine ⟨X2, k1, h2.trans k2 fun y hy hx => ?_, fun y hy => ?_⟩
  · rcases h3 y hx with h | h
    · exact h
    · omega
  · rcases k3 y hy with h | h
    · exact h3 y h
    · exact .inr (by omega)
theorem DTo.call (t : DTo w w1 g n b c d X) (hb : Below w1.heap.size w1 w2) : DTo w w2 g n b c d X :=
  t.trans fun X1 h1 => ⟨X1, h1.call hb, Chg.of_below hb, fun _ h => .inl h⟩
theorem DTo.ofBelow (h : DTabP w g n b c d X) (hb : Below w.heap.size w w1) : DTo w w1 g n b c d X := (DTo.of h (Chg.refl _ _)).call hb
/-- A world in which the table is known. -/
theorem DTo.get (t : DTo w w1 g n b c d X) : ∃ X1, DTabP w1 g n b c d X1 := by
  obtain ⟨X1, h1, -⟩ := t
  exact ⟨X1, h1⟩
theorem DTabP.wheel (h : DTabP w g n b c d X) : ∃ wg Y, w.cell? ⟨g, 6, none⟩ = some (.pointer (some ⟨wg, 0, none⟩)) ∧ RWheelP w wg c.G d.now d.M Y ∧ ∀ (w' : World) (now' : Int) (M' : LM) (Y' : Nat → Prop), RWheelP w' wg c.G now' M' Y' → Chg Y w w' → (∀ y, Y' y → Y y ∨ w.heap.size ≤ y) → DTo w w' g n b c { d with now := now', M := M' } X := by
  have hlt := fun x (hx : X x) => h.lt hx
  obtain ⟨fs, wg, gb, F', Y, A, q, h1, h2, h3, h4, h5, h6, h7, h8, h9, h10, h11⟩ := h
  refine ⟨wg, Y, h1.cell 6, h3, fun w' now' M' Y' k1 k2 k3 => ?_⟩
  have hY : ∀ y, Y y → X y := fun y hy => (h6 y).2 (.inr (.inr (.inr (.inr hy))))
  have hnew : ∀ y, X y → ¬ Y y → ¬ Y' y := fun y hx hn hy => (k3 y hy).elim hn fun h => by have := hlt y hx; omega
  have gX : X g := (h6 g).2 (.inl rfl)
  have gbX : X gb := (h6 gb).2 (.inr (.inl rfl))
  have gY : ¬ Y g := fun hy => (h8 g (.inr hy)).1 rfl
  have gbY : ¬ Y gb := fun hy => (h8 gb (.inr hy)).2.1 rfl
  have AY : ∀ y, InB A y → ¬ Y y := fun y hi hy => (h8 y (.inr hy)).2.2 hi
  refine ⟨fun x => x = g ∨ x = gb ∨ InB A x ∨ F' x ∨ Y' x, ⟨fs, wg, gb, F', Y', A, q, h1.chg k2 gY, h2.chg k2 h7, k1, h4.chg k2 AY, rowIs_chg h5 k2 gbY, fun x => Iff.rfl, fun x hx => hnew x ((h6 x).2 (.inr (.inr (.inr (.inl hx))))) (h7 x hx), fun x hx => ?_, h9, h10, h11⟩, k2.mono fun y _ hy => hY y hy, fun y hy => ?_⟩
  · rcases hx with hx | hx
    · exact h8 x (.inl hx)
    · refine ⟨?_, ?_, fun hi => hnew x ((h6 x).2 (.inr (.inr (.inl hi)))) (AY x hi) hx⟩
      · rintro rfl
        exact hnew _ gX gY hx
      · rintro rfl
        exact hnew _ gbX gbY hx
  · rcases hy with rfl | rfl | hy | hy | hy
    · exact .inl gX
    · exact .inl gbX
    · exact .inl ((h6 y).2 (.inr (.inr (.inl hy))))
    · exact .inl ((h6 y).2 (.inr (.inr (.inr (.inl hy)))))
    · exact (k3 y hy).imp (hY y) id
theorem DTabP.stack (h : DTabP w g n b c d X) : ∃ fs F, w.cell? ⟨g, 5, none⟩ = some (.pointer (some ⟨fs, 0, none⟩)) ∧ RefP w fs n d.L F ∧ ∀ (w' : World) (L' : List Int) (F' : Nat → Prop), RefP w' fs n L' F' → Chg F w w' → (∀ y, F' y → F y ∨ w.heap.size ≤ y) → DTo w w' g n b c { d with L := L' } X := by
  have hlt := fun x (hx : X x) => h.lt hx
  obtain ⟨fs, wg, gb, F', Y, A, q, h1, h2, h3, h4, h5, h6, h7, h8, h9, h10, h11⟩ := h
  refine ⟨fs, F', h1.cell 5, h2, fun w' L' F2 k1 k2 k3 => ?_⟩
  have hY : ∀ y, F' y → X y := fun y hy => (h6 y).2 (.inr (.inr (.inr (.inl hy))))
  have hnew : ∀ y, X y → ¬ F' y → ¬ F2 y := fun y hx hn hy => (k3 y hy).elim hn fun h => by have := hlt y hx; omega
  have gX : X g := (h6 g).2 (.inl rfl)
  have gbX : X gb := (h6 gb).2 (.inr (.inl rfl))
  have gY : ¬ F' g := fun hy => (h8 g (.inl hy)).1 rfl
  have gbY : ¬ F' gb := fun hy => (h8 gb (.inl hy)).2.1 rfl
  have AY : ∀ y, InB A y → ¬ F' y := fun y hi hy => (h8 y (.inl hy)).2.2 hi
  have YF : ∀ y, Y y → ¬ F' y := fun y hy hf => h7 y hf hy
  refine ⟨fun x => x = g ∨ x = gb ∨ InB A x ∨ F2 x ∨ Y x, ⟨fs, wg, gb, F2, Y, A, q, h1.chg k2 gY, k1, h3.chg k2 YF, h4.chg k2 AY, rowIs_chg h5 k2 gbY, fun x => Iff.rfl, fun x hx hy => hnew x ((h6 x).2 (.inr (.inr (.inr (.inr hy))))) (YF x hy) hx, fun x hx => ?_, h9, h10, h11⟩, k2.mono fun y _ hy => hY y hy, fun y hy => ?_⟩
  · rcases hx with hx | hx
    · refine ⟨?_, ?_, fun hi => hnew x ((h6 x).2 (.inr (.inr (.inl hi)))) (AY x hi) hx⟩
      · rintro rfl
        exact hnew _ gX gY hx
      · rintro rfl
        exact hnew _ gbX gbY hx
    · exact h8 x (.inr hx)
  · rcases hy with rfl | rfl | hy | hy | hy
    · exact .inl gX
    · exact .inl gbX
    · exact .inl ((h6 y).2 (.inr (.inr (.inl hy))))
    · exact (k3 y hy).imp (hY y) id
    · exact .inl ((h6 y).2 (.inr (.inr (.inr (.inr hy)))))
/-- A generation anew. -/
theorem DTabP.setGen (h : DTabP w g n b c d X) (i : Nat) (v : Int) {gb : Nat} (hc : w.cell? ⟨g, 8, none⟩ = some (.slice (some ⟨gb, 0, none⟩) n n)) : DTabP (w.setCell ⟨gb, i, none⟩ (.int .u64 v)) g n b c { d with gen := fun k => if k = i then v else d.gen k } X ∧ Chg X w (w.setCell ⟨gb, i, none⟩ (.int .u64 v)) := by
  obtain ⟨fs, wg, gb', F', Y, A, q, h1, h2, h3, h4, h5, h6, h7, h8, h9, h10, h11⟩ := h
  have c8 : w.cell? ⟨g, 8, none⟩ = some (.slice (some ⟨gb', 0, none⟩) n n) := h1.cell 8
  obtain rfl : gb' = gb := by
    rw [c8] at hc
    simpa using hc
  have k : Chg (· = gb') w (w.setCell ⟨gb', i, none⟩ (.int .u64 v)) := Chg.setCell (F := (· = gb')) (p := ⟨gb', i, none⟩) (Chg.refl _ _) (fun _ => rfl) _
  refine ⟨⟨fs, wg, gb', F', Y, A, q, h1.chg k (fun e => h9 e), h2.chg k (fun x hx e => (h8 x (.inl hx)).2.1 e), h3.chg k (fun x hx e => (h8 x (.inr hx)).2.1 e), h4.chg k (fun x hx e => (h10 x hx).2 e), (h5.set i (.int .u64 v)).congr fun j hj => ?_, h6, h7, h8, h9, h10, h11⟩, k.mono fun x _ e => by have e2 : x = gb' := e; exact (h6 x).2 (.inr (.inl e2))⟩
  by_cases e : j = i <;> simp [e]
theorem dtab_unset (h : DTabP w g n b c d X) (hM : d.M.length ≤ 100000) (id : Int) : ∃ wg, w.cell? ⟨g, 6, none⟩ = some (.pointer (some ⟨wg, 0, none⟩)) ∧ Calls Tryz.prog 121 #[.pointer (some ⟨wg, 0, none⟩), .int .i64 id] w fun e w' => e = .returned (.bool (lmHas d.M id)) ∧ DTo w w' g n b c { d with M := lmDel d.M id } X := by
  obtain ⟨wg, Y, h1, h2, h3⟩ := h.wheel
  refine ⟨wg, h1, (rwheelp_unset h2 hM id).mono ?_⟩
  rintro e w' ⟨rfl, Y', k1, k2, k3⟩
  exact ⟨rfl, h3 w' _ _ Y' k1 k2 k3⟩
theorem dtab_set (h : DTabP w g n b c d X) (hM : d.M.length ≤ 100000) (i : Nat) (hi : i < 4096) (due : Int) (hd : 0 ≤ due ∧ due ≤ 2199023255552) : ∃ wg, w.cell? ⟨g, 6, none⟩ = some (.pointer (some ⟨wg, 0, none⟩)) ∧ Calls Tryz.prog 80 #[.pointer (some ⟨wg, 0, none⟩), .int .i64 (i : Int), .int .i64 due] w fun e w' => e = .returned (.bool true) ∧ DTo w w' g n b c { d with M := lmPut d.M i due } X := by
  obtain ⟨wg, Y, h1, h2, h3⟩ := h.wheel
  refine ⟨wg, h1, (rwheelp_set h2 i hi due hd hM).mono ?_⟩
  rintro e w' ⟨rfl, Y', k1, k2, k3⟩
  exact ⟨rfl, h3 w' _ _ Y' k1 k2 k3⟩
theorem dtab_pop (h : DTabP w g n b c d X) (hL : d.L.length ≤ 1000000) : ∃ fs, w.cell? ⟨g, 5, none⟩ = some (.pointer (some ⟨fs, 0, none⟩)) ∧ Calls Tryz.prog 76 #[.pointer (some ⟨fs, 0, none⟩)] w fun e w' => e = .returned (.tuple #[.int .i64 (d.L.headD 0), .bool (!d.L.isEmpty)]) ∧ DTo w w' g n b c { d with L := d.L.tail } X := by
  obtain ⟨fs, F, h1, h2, h3⟩ := h.stack
  refine ⟨fs, h1, (refpop fs n d.L F w h2 hL).mono ?_⟩
  rintro e w' ⟨rfl, k1, k2⟩
  exact ⟨rfl, h3 w' _ F k1 k2 fun y hy => .inl hy⟩
theorem dtab_push (h : DTabP w g n b c d X) (hL : d.L.length ≤ 1000000) (i : Int) : ∃ fs, w.cell? ⟨g, 5, none⟩ = some (.pointer (some ⟨fs, 0, none⟩)) ∧ Calls Tryz.prog 128 #[.pointer (some ⟨fs, 0, none⟩), .int .i64 i] w fun e w' => e = .returned (.bool (pushOk n d.L i)) ∧ DTo w w' g n b c { d with L := pushL n d.L i } X := by
  obtain ⟨fs, F, h1, h2, h3⟩ := h.stack
  refine ⟨fs, h1, (refpush_any fs n d.L F i w h2 hL).mono ?_⟩
  rintro e w' ⟨rfl, Y', k1, k2, k3⟩
  exact ⟨rfl, h3 w' _ Y' k1 k2 k3⟩
end
end Go.Proofs.YtbmmklgkbbbopaaGreat

namespace Go.Proofs.YtbmmklgkbbbopaaGreat
open Go Go.RowKit Go.Deep Go.Maps Go.ChangeMaps

/-- A slot's entry goes. -/
def goneD (n : Nat) (d : DTs) (i : Nat) : DTs := { d with M := lmDel d.M i, L := pushL n d.L i, LL := delL d.LL i, gen := fun k => if k = i then IntKind.u64.wrap (d.gen i + 1) else d.gen k }
theorem delL_take {L : List Slt} {i : Int} {k : Nat} (hk : k < L.length) : delL (L.take (k + 1)) i = if L[k].sl = i then delL (L.take k) i else delL (L.take k) i ++ [L[k]] := by
  unfold delL
  rw [List.take_succ_eq_append_getElem hk, List.filter_append]
  by_cases e : L[k].sl = i
  · rw [if_pos e, List.filter_cons_of_neg (by simpa using e)]
    simp
  · rw [if_neg e, List.filter_cons_of_pos (by simpa using e)]
    simp
theorem delL_len (L : List Slt) (i : Int) : (delL L i).length ≤ L.length := List.length_filter_le _ _
section
variable {w w' w1 w2 : World} {g n : Nat} {b : Int} {c : TCfg} {d d' : DTs} {X X1 X2 F : Nat → Prop}
/-- How the blocks go on. -/
def XTo (w w1 : World) (X X1 : Nat → Prop) : Prop := Chg X w w1 ∧ ∀ y, X1 y → X y ∨ w.heap.size ≤ y
theorem XTo.trans (h : XTo w w1 X X1) (k : XTo w1 w2 X1 X2) : XTo w w2 X X2 := by
  have hz := h.1.size
  refine ⟨h.1.trans k.1 fun y hy hx => ?_, fun y hy => ?_⟩
  · rcases h.2 y hx with h | h
    · exact h
    · omega
  · rcases k.2 y hy with h' | h'
    · exact h.2 y h'
    · exact .inr (by omega)
theorem XTo.of (k : Chg X w w1) : XTo w w1 X X := ⟨k, fun _ h => .inl h⟩
theorem XTo.call (hb : Below w.heap.size w w1) : XTo w w1 X X := ⟨Chg.of_below hb, fun _ h => .inl h⟩
theorem DTo.mk (h : DTabP w1 g n b c d X1) (k : XTo w w1 X X1) : DTo w w1 g n b c d X := ⟨X1, h, k⟩
set_option maxRecDepth 100000 in
set_option maxHeartbeats 8000000 in
theorem dtab_gone (h : DTabP w g n b c d X) (hl : d.LL.length ≤ 4096) (hM : d.M.length ≤ 100000) (hL : d.L.length ≤ 1000000) (i : Nat) (hi : i < n) :
    Calls Tryz.prog 93 #[.pointer (some ⟨g, 0, none⟩), .int .i64 (i : Int)] w fun e w' => e = .returned (.tuple #[]) ∧ DTo w w' g n b c (goneD n d i) X := by
  have HF := Lib.hid fun (W : World) (hb : Below w.heap.size w W) (A' : Option Addr) (q' : Nat) (LL' : List Slt) (B : Nat) (hO : OwnE W B A' q' LL') (hB : w.heap.size ≤ B) => h.setLL hb hO hB
  obtain ⟨fs, wg, gb, A, q, -, -, c7, -, -, fz, hO, -, -, hn⟩ := h.cells
  have f7 := fz 7
  unfold goneD
  obtain ⟨now, M, L, LL, gen, lk⟩ := d
  dsimp only at c7 hO hl hM hL HF ⊢
  have hlt0 := block_lt_of_cell c7
  clear h fz
  replace hO := Lib.hid hO
  have FZ := Lib.hid fun W (hW : Below w.heap.size w W) => And.intro ((hW.cell hlt0).trans c7) ((hW.frozen (p := ⟨g, 7, none⟩) hlt0).trans f7)
  clear c7 f7
  go_enter Tryz.func93, Tryz.ntmps93
  go_wp2_with fail
  go_loopw [4, 5] (fun ov iv wr => ∃ (k : Nat) (out : List Slt) (A' : Option Addr) (q' : Nat), k ≤ LL.length ∧ out = delL (LL.take k) i ∧ iv = .int .i64 (k : Nat) ∧ ov = .slice A' out.length q' ∧ OwnE wr w.heap.size A' q' out ∧ Below w.heap.size w wr) (fun _ iv _ => LL.length - (intOf iv).toNat)
  case atStart => exact ⟨0, [], none, 0, by omega, rfl, rfl, rfl, OwnA.nil _ _, Below.refl _ _⟩
  case round =>
    obtain ⟨k, out, A', q', hk, hout, rfl, rfl, hT, hb⟩ := hrel
    have hz := hb.size
    obtain ⟨c7, f7⟩ := FZ.out wr hb
    have hol : out.length ≤ 4096 := by
      rw [hout]
      refine Nat.le_trans (delL_len _ _) ?_
      rw [List.length_take]
      omega
    by_cases hlt : k < LL.length
    · have hlti : (k : Int) < (LL.length : Int) := by omega
      obtain ⟨ad, rfl, hbl, hc⟩ := (hO.out.call hb).reads.rec_at Slt.ent (fun _ => rfl) hlt
      have c11 : wr.cell? ⟨(ad.add (k * 14)).block, (ad.add (k * 14)).off + 11, none⟩ = some (.int .i64 LL[k].sl) := hc 11 _ rfl
      have hst := delL_take (i := (i : Int)) hlt
      rw [← hout] at hst
      obtain ⟨y, hy⟩ : ∃ y, LL[k] = y := ⟨_, rfl⟩
      rw [hy] at c11 hst hc
      clear hy
      replace hc := Lib.hid hc
      replace hT := Lib.hid hT
      obtain ⟨m, hm⟩ : ∃ m, out.length = m := ⟨_, rfl⟩
      rw [hm] at hol
      try rw [hm]
      replace hm := Lib.hid hm
      replace hout := Lib.hid hout
      by_cases e : y.sl = (i : Int)
      · have hne : (y.sl != (i : Int)) = false := by simpa using e
        rw [if_pos e] at hst
        replace hst := Lib.hid hst
        clear e
        generalize y.sl = z at *
        go_wp2_with fail
        go_roundw
        case rel => exact ⟨k + 1, out, A', q', by omega, hst.out.symm, by go_num, by rw [hm.out], hT.out, hb⟩
        case measure => simp [intOf]; omega
      · have hne : (y.sl != (i : Int)) = true := by simpa using e
        rw [if_neg e] at hst
        replace hst := Lib.hid hst
        clear e
        go_wp2_with (first
          | (refine wpList_load_entR rfl (.tmp 32) rfl (ad.add (k * 14)) rfl y hc.out ?_)
          | (at_builtin; refine wpList_push_ent rfl (.tmp 26) (.tmp 34) rfl w.heap.size A' q' out y m hm.out rfl hT.out _ rfl rfl rfl (by have := hm.out; omega) (by omega) ?_; intro A4 a4 w4 hO4 hp4))
        have hb4 := hp4.below hb (by omega) (fun z hz => (hT.out.block hz).1)
        have hml : (out ++ [y]).length = m + 1 := by rw [List.length_append, hm.out]; rfl
        replace hml := Lib.hid hml
        go_roundw
        case rel => exact ⟨k + 1, out ++ [y], A4, a4, by omega, hst.out.symm, by go_num, by rw [hml.out], hO4, hb4⟩
        case measure => simp [intOf]; omega
    · obtain rfl : k = LL.length := by omega
      have hlti : ¬ ((LL.length : Nat) : Int) < (LL.length : Int) := by omega
      rw [List.take_length] at hout
      have hfin := HF.out wr hb A' q' out w.heap.size hT (Nat.le_refl _)
      rw [hout] at hfin
      replace hfin := Lib.hid hfin
      have hol2 : (delL LL i).length = out.length := by rw [hout]
      replace hol2 := Lib.hid hol2
      replace hT := Lib.hid hT
      clear hO FZ HF
      obtain ⟨m, hm⟩ : ∃ m, out.length = m := ⟨_, rfl⟩
      rw [hm] at hol
      try rw [hm]
      replace hm := Lib.hid hm
      replace hout := Lib.hid hout
      go_upto_region 7 with fail
      obtain ⟨X2, h2, k2⟩ := hfin.out
      rw [hol2.out, hm.out] at h2 k2
      generalize wr.setCell ⟨g, 7, none⟩ (.slice A' m q') = w2 at *
      obtain ⟨wg2, c6, UN⟩ := dtab_unset h2 (by exact hM) i
      replace UN := Lib.hid UN
      have k2 : XTo w w2 X X2 := k2
      replace k2 := Lib.hid k2
      clear h2 c7 f7 hb hz hfin
      go_upto_region 8 with (go_at_call 121; (with_reducible refine UN.out.mono ?_); rintro e w3 ⟨rfl, X3, h3, k3⟩)
      obtain ⟨fs3, c5, PU⟩ := dtab_push h3 (by exact hL) i
      have k3 : XTo w w3 X X3 := k2.out.trans k3
      replace PU := Lib.hid PU
      replace k3 := Lib.hid k3
      clear h3 c6 UN k2
      go_upto_region 9 with (go_at_call 128; (with_reducible refine PU.out.mono ?_); rintro e w4 ⟨rfl, X4, h4, k4⟩)
      have k4 : XTo w w4 X X4 := k3.out.trans k4
      obtain ⟨_, _, gb4, _, _, -, -, -, c8, -, fz, -, hG, -, -⟩ := h4.cells
      have cg : w4.cell? ⟨gb4, i, none⟩ = some (.int .u64 (gen i)) := hG.cell hi
      have fg := hG.frozen i
      have hii : (i : Int) < (n : Int) := by omega
      have hi0 : (0 : Int) ≤ (i : Int) := by omega
      obtain ⟨h5, k5⟩ := h4.setGen i (IntKind.u64.wrap (gen i + 1)) c8
      have k5 := k4.trans (XTo.of k5)
      have hr := DTo.mk h5 k5
      replace hr := Lib.hid hr
      replace k4 := Lib.hid k4
      replace k5 := Lib.hid k5
      replace h5 := Lib.hid h5
      replace h4 := Lib.hid h4
      clear c5 PU k3 hG fz
      go_wp2_with fail
      go_end0
      exact ⟨rfl, hr.out⟩
/-- A block of the call's own, made before and filled behind, is none of the table's. -/
theorem DTo.fin {r : Nat} {w3 : World} (hX : ∀ y, X y → y < w.heap.size) (hb : Below w.heap.size w w1) (t : DTo w1 w2 g n b c d X) (k : Chg (· = r) w2 w3) (hr : w.heap.size ≤ r) (hr1 : r < w1.heap.size) : DTo w w3 g n b c d X := by
  obtain ⟨X', h1, h2, h3⟩ := t
  have hz := hb.size
  have hn : ∀ y, X' y → y ≠ r := fun y hx => by
    rcases h3 y hx with h | h
    · have := hX y h
      omega
    · omega
  exact ⟨X', h1.chg k fun y hx e => hn y hx e, ((Chg.of_below hb).trans (G := X) h2 (fun _ _ h => h)).trans (G := (· = r)) k (fun y hb e => by have e2 : y = r := e; omega), fun y hx => (h3 y hx).imp id (fun h => Nat.le_trans hz h)⟩
theorem entB_there {w : World} {r : Nat} {x : Slt} (h : Blk w r 52 x.entA) : w.there r 0 14 := fun j hj => by
  refine ⟨?_, h.frozen _⟩
  have e : x.entA[j]? = x.ent[j]? := List.getElem?_toArray ..
  rw [Nat.zero_add, h.cell j, e, List.getElem?_eq_getElem (show j < x.ent.length from hj)]
  rfl
theorem entB_one (x : Slt) : x.entA.all (·.oneCell') = true := by
  refine all_oneCell_toArray (cs := x.ent) fun u hu => ?_
  unfold Slt.ent at hu
  simp at hu
  rcases hu with rfl | rfl | rfl | rfl | rfl | rfl | rfl | rfl | rfl | rfl | rfl | rfl | rfl | rfl <;> rfl
/-- An entry is stored into a block of its own. -/
theorem wpList_store_entB {ops : Array Oper} {rest : List Oper} {op : Oper} {a : Act} {w : World} {Q : Exit → Act → World → Prop} (hgd : op.guard = none) (hdst : op.dst = none) (x y : Operand) (ho : op.op = .store 52 x y) {r : Nat} {z : Slt} (hB : Blk w r 52 z.entA) (v : Slt) (hx : a.eval x = .pointer (some ⟨r, 0, none⟩)) (hy : a.eval y = .agg v.entA)
    (h : wpList Tryz.prog ops Q rest a (setEnt w r v)) : wpList Tryz.prog ops Q (op :: rest) a w :=
  wpList_store_mid hgd 52 x y ho r 0 v.entA hx hy (entB_there hB) info_entSize (entB_one v) (by rw [hdst]; exact h)
end
end Go.Proofs.YtbmmklgkbbbopaaGreat

namespace Go.Proofs.YtbmmklgkbbbopaaGreat
open Go Go.RowKit Go.Deep Go.Maps Go.ChangeMaps

/-- What the document's table holds where the code's holds s. -/
@[reducible] def dOf (n : Nat) (s : TSt) : DTs := ⟨s.now, s.M, s.L, liveE s.E n, fun k => (s.E k).gen, s.lk⟩
theorem dOf_look (n : Nat) (i : Int) (s : TSt) : ({ dOf n s with lk := if lookOk n i then wrap64 ((dOf n s).lk + 1) else (dOf n s).lk } : DTs) = dOf n (lookS n i s) := by
  unfold lookS
  split <;> rfl
theorem dOf_gone {n : Nat} {s : TSt} (hsl : ∀ k : Nat, k < n → (s.E k).sl = k) (i : Nat) : goneD n (dOf n s) i = dOf n (goS n s i) := by
  unfold goneD goS
  have e1 : liveE (updE s.E i (clrS (s.E i))) n = delL (liveE s.E n) i := liveE_del rfl n hsl
  have e2 : (fun k => (updE s.E i (clrS (s.E i)) k).gen) = fun k => if k = i then IntKind.u64.wrap ((s.E i).gen + 1) else (s.E k).gen := by
    funext k
    by_cases e : k = i
    · subst e
      rw [updE_self, if_pos rfl]
      rfl
    · rw [updE_ne _ _ e, if_neg e]
  show DTs.mk _ _ _ _ _ _ = DTs.mk _ _ _ _ _ _
  rw [e1, e2]
theorem dOf_put {n : Nat} {s : TSt} (hsl : ∀ k : Nat, k < n → (s.E k).sl = k) (i : Nat) (hi : i < n) (x : Slt) (hx : x.used = true) (hs : x.sl = i) (hg : x.gen = (s.E i).gen) (M' : LM) : ({ dOf n s with LL := putL (liveE s.E n) x, M := M' } : DTs) = dOf n { s with E := updE s.E i x, M := M' } := by
  have e1 : liveE (updE s.E i x) n = putL (liveE s.E n) x := by
    rw [liveE_put hx hs n hsl, if_pos hi]
  have e2 : (fun k => (updE s.E i x k).gen) = fun k => (s.E k).gen := by
    funext k
    by_cases e : k = i
    · subst e
      rw [updE_self, hg]
    · rw [updE_ne _ _ e]
  show DTs.mk _ _ _ _ _ _ = DTs.mk _ _ _ _ _ _
  rw [e1, e2]
section
variable {w w' w1 w2 : World} {g n : Nat} {b : Int} {c : TCfg} {s : TSt} {X X1 X2 F : Nat → Prop}
theorem ddtab_look (h : DTabP w g n b c (dOf n s) X) (i : Int) : Calls Tryz.prog 77 #[.pointer (some ⟨g, 0, none⟩), .int .i64 i] w fun e w' => e = .returned (.tuple #[]) ∧ DTabP w' g n b c (dOf n (lookS n i s)) X ∧ Chg X w w' := by
  have := dtab_look h i
  rw [dOf_look] at this
  exact this
theorem ddtab_gone (h : DTabP w g n b c (dOf n s) X) (hi : TI n s) (hn : n ≤ 4096) (i : Nat) (hin : i < n) :
    Calls Tryz.prog 93 #[.pointer (some ⟨g, 0, none⟩), .int .i64 (i : Int)] w fun e w' => e = .returned (.tuple #[]) ∧ DTo w w' g n b c (dOf n (goS n s i)) X := by
  have := dtab_gone h (Nat.le_trans (liveE_len _ _) hn) (hi.mlen5 hn) (by have := live_free hi; show s.L.length ≤ 1000000; omega) i hin
  rw [dOf_gone hi.sl] at this
  exact this
theorem DTabP.n4096 {d : DTs} (h : DTabP w g n b c d X) : n ≤ 4096 := by
  obtain ⟨_, _, _, _, _, -, -, -, -, -, -, -, -, -, h⟩ := h.cells
  exact h
end
end Go.Proofs.YtbmmklgkbbbopaaGreat

namespace Go.Proofs.YtbmmklgkbbbopaaGreat
open Go Go.RowKit Go.Deep Go.Maps Go.ChangeMaps

theorem goS_touch (n : Nat) (s : TSt) (k : Nat) (fl : Int) : goS n (touchS1 n s k fl) k = goS n (lookS n k s) k := by
  unfold goS touchS1
  rw [Int.toNat_natCast]
  dsimp only
  rw [updE_updE, updE_self, lookS_E]
  rfl
theorem tsE_ext {a b : TSt} (h1 : a.now = b.now) (h2 : a.M = b.M) (h3 : a.L = b.L) (h4 : a.E = b.E) (h5 : a.lk = b.lk) : a = b := by
  cases a
  cases b
  simp_all
theorem awaitS_touch (c : TCfg) (n : Nat) (s : TSt) (k : Nat) (fl : Int) : awaitS c (touchS1 n s k fl) k = { lookS n k s with E := updE (lookS n k s).E k { nextT (s.E k) fl with due := dueT c s.now (nextS (s.E k).st fl) }, M := lmPut (lookS n k s).M k (dueT c s.now (nextS (s.E k).st fl)) } := by
  unfold awaitS touchS1
  rw [Int.toNat_natCast]
  dsimp only
  rw [updE_updE, updE_self, lookS_E, lookS_now]
  rfl
section
variable {w w' w1 w2 : World} {g n : Nat} {b : Int} {c : TCfg} {s : TSt} {X X1 X2 F : Nat → Prop}
theorem DTabP.rule {d : DTs} (h : DTabP w g n b c d X) : w.cell? ⟨g, 1, none⟩ = some (.int .i64 c.a) ∧ w.cell? ⟨g, 2, none⟩ = some (.int .i64 c.b) ∧ w.cell? ⟨g, 3, none⟩ = some (.int .i64 c.c) ∧ w.cell? ⟨g, 4, none⟩ = some (.int .i64 c.d) ∧ (1 ≤ c.G ∧ c.G ≤ 1024) ∧ (0 ≤ d.now ∧ d.now ≤ 1099511627776) := by
  obtain ⟨fs, wg, gb, F', Y, A, q, h1, h2, h3, h4⟩ := h
  exact ⟨h1.cell 1, h1.cell 2, h1.cell 3, h1.cell 4, h3.rng⟩
set_option maxRecDepth 100000 in
set_option maxHeartbeats 16000000 in
theorem ddtab_touch (h : DTabP w g n b c (dOf n s) X) (hti : TI n s) (hI : c.right) (i fl : Int) :
    Calls Tryz.prog 51 #[.pointer (some ⟨g, 0, none⟩), .int .i64 i, .int .i64 fl] w fun e w' => e = .returned (.tuple #[(touchV c n s i fl).val, .bool (closeOk n s i)]) ∧ DTo w w' g n b c (dOf n (touchS c n s i fl)) X := by
  have hn := h.n4096
  have hXlt : ∀ y, X y → y < w.heap.size := fun y hy => h.lt hy
  have B1 := Blk.new w 52 slt0.entA
  have hb1 : Below w.heap.size w (w.alloc (.cells slt0.entA 52)) := below_alloc (Below.refl _ _) _
  have h1 := h.call hb1
  have hzz : w.heap.size < (w.alloc (.cells slt0.entA 52)).heap.size := B1.lt
  clear h
  replace B1 := Lib.hid B1
  replace hti := Lib.hid hti
  replace hXlt := Lib.hid hXlt
  replace h1 := Lib.hid h1
  replace hI := Lib.hid hI
  go_enter Tryz.func51, Tryz.ntmps51
  go_upto_region 1 with fail
  change Code.wp _ _ _ _ (w.alloc (.cells slt0.entA 52))
  obtain ⟨r, hr⟩ : ∃ r, w.heap.size = r := ⟨_, rfl⟩
  rw [hr] at B1 hzz
  generalize w.alloc (.cells slt0.entA 52) = w1 at *
  try rw [hr]
  have LK := Lib.hid (ddtab_look h1.out i)
  go_upto_region 2 with (go_at_call 77; (with_reducible refine LK.out.mono ?_); rintro e w2 ⟨rfl, h2, hc2⟩)
  have B2 := B1.out.chg hc2 (fun e => by have := hXlt.out r e; omega)
  have hT2 := XTo.of hc2
  clear LK hc2
  have ht2 := hti.out.look i
  have hn2 := Nat.le_trans (liveE_len (lookS n i s).E n) hn
  replace hT2 := Lib.hid hT2
  by_cases hO : closeOk n s i = true
  · have hO2 := hO
    unfold closeOk lookOk at hO2
    rw [Bool.and_eq_true, decide_eq_true_eq] at hO2
    obtain ⟨k, rfl⟩ : ∃ k : Nat, i = (k : Int) := ⟨i.toNat, by omega⟩
    rw [Int.toNat_natCast] at hO2
    have hk : k < n := by omega
    obtain ⟨j, hj, hje, hjn⟩ := live_idx (E := (lookS n k s).E) ht2.sl hk (by rw [lookS_E]; exact hO2.2)
    have hsl := hti.out.sl k hk
    have AT := Lib.hid (dtab_at h2 (Nat.le_trans hn2 (by omega)) k j hj (by rw [hje, lookS_E]; exact hsl) hjn)
    obtain ⟨_, _, _, A, q, -, -, c7, -, -, -, hOw, -, -, -⟩ := h2.cells
    obtain ⟨ad, rfl, -, hc⟩ := hOw.reads.rec_at Slt.ent (fun _ => rfl) hj
    have hV : touchV c n s k fl = if nextS (s.E k).st fl = 4 then nextT (s.E k) fl else { nextT (s.E k) fl with due := dueT c s.now (nextS (s.E k).st fl) } := by
      unfold touchV
      rw [if_pos hO, Int.toNat_natCast]
    have hS : touchS c n s k fl = if nextS (s.E k).st fl = 4 then goS n (lookS n k s) k else { lookS n k s with E := updE (lookS n k s).E k { nextT (s.E k) fl with due := dueT c s.now (nextS (s.E k).st fl) }, M := lmPut (lookS n k s).M k (dueT c s.now (nextS (s.E k).st fl)) } := by
      unfold touchS
      rw [if_pos hO, Int.toNat_natCast, goS_touch, awaitS_touch]
    have hPT := dOf_put (s := lookS n k s) ht2.sl k hk { nextT (s.E k) fl with due := dueT c s.now (nextS (s.E k).st fl) } hO2.2 hsl (by rw [lookS_E]; rfl)
    obtain ⟨xs, hxs⟩ : ∃ xs, s.E k = xs := ⟨_, rfl⟩
    rw [hje, lookS_E, hxs] at hc
    rw [hxs] at hV hS hPT hsl
    obtain ⟨ll, hll⟩ : ∃ ll, (liveE (lookS n k s).E n).length = ll := ⟨_, rfl⟩
    dsimp only [dOf] at c7
    have hj2 : j < ll := hll ▸ hj
    rw [hll] at c7
    have GO := Lib.hid fun W (hb : Below w2.heap.size w2 W) => ddtab_gone (h2.call hb) ht2 hn k hk
    have hji : (j : Int) < (ll : Int) := by exact_mod_cast hj2
    have hj0 : ¬ ((j : Int) < 0) := by omega
    have hB3 : Blk (w2.alloc (.cells #[.int .i64 0, .bool false, .int .u64 0, .int .u64 0, .bool false, .int .u64 0, .int .u64 0, .int .i64 0, .int .i64 0, .int .i64 0, .int .i64 0, .int .i64 0, .int .u64 0, .int .i64 0] 52)) w2.heap.size 52 slt0.entA := Blk.new w2 52 slt0.entA
    have hB2 := B2.call (below_alloc (Below.refl w2.heap.size w2) (.cells #[.int .i64 0, .bool false, .int .u64 0, .int .u64 0, .bool false, .int .u64 0, .int .u64 0, .int .i64 0, .int .i64 0, .int .i64 0, .int .i64 0, .int .i64 0, .int .u64 0, .int .i64 0] 52))
    have hsrt := liveE_sorted (E := (lookS n k s).E) n ht2.sl
    replace hsrt := Lib.hid hsrt
    replace hc := Lib.hid hc
    replace hn2 := Lib.hid hn2
    clear hOw hje hjn hj hll hO2 hxs h1
    replace h2 := Lib.hid h2
    replace ht2 := Lib.hid ht2
    replace hV := Lib.hid hV
    replace hS := Lib.hid hS
    replace hPT := Lib.hid hPT
    replace hO := Lib.hid hO
    replace hB3 := Lib.hid hB3
    replace hB2 := Lib.hid hB2
    replace B2 := Lib.hid B2
    replace hsl := Lib.hid hsl
    go_upto_region 6 with (first
      | (go_at_call 89; (with_reducible refine AT.out.mono ?_); rintro e w3 ⟨rfl, rfl⟩)
      | (refine wpList_load_entR rfl (.tmp 24) rfl (ad.add (j * 14)) rfl xs hc.out ?_)
      | (refine wpList_store_entB rfl rfl (.tmp 9) (.tmp 25) rfl hB3.out xs rfl rfl ?_))
    obtain ⟨hB4, hc4⟩ := setEnt_blk hB3.out xs
    have hz2 := hT2.out.1.size
    have hr2 : r ≠ w2.heap.size := by omega
    have hle2 : w.heap.size ≤ w2.heap.size := by omega
    have hB4r := hB2.out.chg hc4 (fun e => hr2 e)
    have hb4 : Below w2.heap.size w2 (setEnt (w2.alloc (.cells #[.int .i64 0, .bool false, .int .u64 0, .int .u64 0, .bool false, .int .u64 0, .int .u64 0, .int .i64 0, .int .i64 0, .int .i64 0, .int .i64 0, .int .i64 0, .int .u64 0, .int .i64 0] 52)) w2.heap.size xs) := below_chg (below_alloc (Below.refl _ _) _) hc4 (fun y hy e => by have e2 : y = w2.heap.size := e; omega) (by rw [World.size_alloc]; omega)
    generalize setEnt (w2.alloc (.cells #[.int .i64 0, .bool false, .int .u64 0, .int .u64 0, .bool false, .int .u64 0, .int .u64 0, .int .i64 0, .int .i64 0, .int .i64 0, .int .i64 0, .int .i64 0, .int .u64 0, .int .i64 0] 52)) w2.heap.size xs = w4 at *
    have hz4 : w2.heap.size < w4.heap.size := hB4.lt
    obtain ⟨r2, hr2e⟩ : ∃ r2, w2.heap.size = r2 := ⟨_, rfl⟩
    clear hB3 hB2 hc4 hc
    have d10 : w4.cell? ⟨r2, 10, none⟩ = some (.int .i64 xs.st) := by rw [← hr2e]; exact hB4.cell 10
    have z10 : w4.frozen? ⟨r2, 10, none⟩ = false := by rw [← hr2e]; exact hB4.frozen 10
    obtain ⟨nx, hnx⟩ : ∃ v, nextS xs.st fl = v := ⟨_, rfl⟩
    have NX := Lib.hid fun W => refnext_any xs.st fl W
    rw [hnx] at NX
    replace hB4 := Lib.hid hB4
    replace hB4r := Lib.hid hB4r
    try rw [hr2e]
    go_upto_region 7 with (go_at_call 92; (with_reducible refine (NX.out _).mono ?_); rintro e w5 ⟨rfl, rfl⟩)
    have hB5 : Blk (w4.setCell ⟨r2, 10, none⟩ (.int .i64 nx)) r2 52 (nextT xs fl).entA := by
      have h9 := hB4.out
      rw [hr2e] at h9
      have := h9.set_ 10 (.int .i64 nx)
      unfold nextT
      rw [hnx]
      simpa using this
    have hB5r : Blk (w4.setCell ⟨r2, 10, none⟩ (.int .i64 nx)) r 52 slt0.entA := hB4r.out.far (p := ⟨r2, 10, none⟩) (by rw [← hr2e]; exact hr2) _
    have hb5 : Below w2.heap.size w2 (w4.setCell ⟨r2, 10, none⟩ (.int .i64 nx)) := hb4.setCell (p := ⟨r2, 10, none⟩) (by show w2.heap.size ≤ r2; omega) _
    clear d10 z10 hB4 hB4r NX hb4 c7 AT hji hj0
    have hz5 : r2 < (w4.setCell ⟨r2, 10, none⟩ (.int .i64 nx)).heap.size := hB5.lt
    generalize w4.setCell ⟨r2, 10, none⟩ (.int .i64 nx) = w5 at *
    rw [hnx] at hV hS hPT
    rw [hr2e] at hr2 hle2 hz2 hz4
    have d10 : w5.cell? ⟨r2, 10, none⟩ = some (.int .i64 nx) := by rw [← hnx]; exact hB5.cell 10
    replace hB5r := Lib.hid hB5r
    by_cases hnx4 : nx = 4
    · rw [if_pos hnx4] at hV hS
      have hn4 : (nx == 4) = true := by simpa using hnx4
      have hT5 := Lib.hid (hT2.out.trans (XTo.call hb5))
      have GO5 := Lib.hid (GO.out w5 hb5)
      replace hB5 := Lib.hid hB5
      replace hV := Lib.hid hV
      replace hS := Lib.hid hS
      clear hPT hnx hnx4 GO hsrt hn2 hb5
      go_upto_region 9 with (go_at_call 93; (with_reducible refine GO5.out.mono ?_); rintro e w6 ⟨rfl, X6, h6, k6⟩)
      have hB6 := hB5.out.chg k6.1 (fun hx => Nat.lt_irrefl _ (Nat.lt_of_lt_of_le (hXlt.out _ hx) hle2))
      have hB6r := hB5r.out.chg k6.1 (fun hx => Nat.lt_irrefl _ (Nat.lt_of_lt_of_le (hXlt.out _ hx) (Nat.le_of_eq hr)))
      have hT6 : DTo w1 w6 g n b c (dOf n (touchS c n s k fl)) X := by rw [hS.out]; exact DTo.mk h6 (hT5.out.trans k6)
      replace hT6 := Lib.hid hT6
      clear GO5 hB5 hB5r h6 k6 d10
      obtain ⟨y, hy⟩ : ∃ y, nextT xs fl = y := ⟨_, rfl⟩
      rw [hy] at hB6
      replace hy := Lib.hid hy
      go_wp2_with (first
        | (refine wpList_load_entR rfl (.tmp 9) rfl ⟨r2, 0, none⟩ rfl y (blk_at hB6) ?_)
        | (refine wpList_store_entB rfl rfl (.tmp 6) (.tmp 37) rfl hB6r y rfl rfl ?_))
      change bodyPost _ _ _ _ _ (setEnt w6 r y)
      obtain ⟨B6, hc6⟩ := setEnt_blk hB6r y
      have hT7 := DTo.fin hXlt.out hb1 hT6.out hc6 (Nat.le_of_eq hr) (by omega)
      generalize setEnt w6 r y = w7 at *
      clear hB6 hB6r
      obtain ⟨r0, r1, r2, r3, r4, r5, r6, r7, r8, r9, r10, r11, r12, r13, -⟩ := ent_blk B6
      clear B6 hc6
      replace hT7 := Lib.hid hT7
      refine bodyPost_ret (v := .tuple #[y.val, .bool true]) (by simp [results, Tryz.results51, go_sem, r0, r1, r2, r3, r4, r5, r6, r7, r8, r9, r10, r11, r12, r13]) rfl ?_
      exact ⟨by rw [hV.out, hO.out, hy.out], hT7.out⟩
    · have hn4 : (nx == 4) = false := by simpa using hnx4
      rw [if_neg hnx4] at hV hS
      have h5 := h2.out.call hb5
      obtain ⟨u1, u2, u3, u4, hG, hnow⟩ := h5.rule
      obtain ⟨_, wg, _, _, _, -, c6, -, -, -, -, -, -, cw, -⟩ := h5.cells
      have d13 := hB5.cell 13
      have z13 := hB5.frozen 13
      have hid := hI.out nx
      dsimp only [dOf] at cw hnow
      rw [lookS_now] at cw hnow
      have hwr : IntKind.i64.wrap (s.now + idleS c.a c.b c.c c.d nx) = dueT c s.now nx := by unfold dueT; simp [IntKind.wrap, IntKind.bits, IntKind.signed]; omega
      have hdr : 0 ≤ dueT c s.now nx ∧ dueT c s.now nx ≤ 2199023255552 := by unfold dueT; omega
      have ID := Lib.hid fun W => refidle_any c.a c.b c.c c.d nx W
      obtain ⟨y, hy⟩ : ∃ y, ({ nextT xs fl with due := dueT c s.now nx } : Slt) = y := ⟨_, rfl⟩
      have hyd : y.due = dueT c s.now nx := by rw [← hy]
      have hB5y := fun W (h : Blk W r2 52 (nextT xs fl).entA) => show Blk (W.setCell ⟨r2, 13, none⟩ (.int .i64 (dueT c s.now nx))) r2 52 y.entA from by
        rw [← hy]
        simpa using h.set_ 13 (.int .i64 (dueT c s.now nx))
      rw [hy] at hV hS hPT
      generalize dueT c s.now nx = due at *
      generalize idleS c.a c.b c.c c.d nx = idl at *
      have hwg : wg < w5.heap.size := block_lt_of_cell cw
      have SB := Lib.hid fun W (hb : Below w5.heap.size w5 W) => show ((W.cell? ⟨g, 1, none⟩ = some (.int .i64 c.a) ∧ W.cell? ⟨g, 2, none⟩ = some (.int .i64 c.b) ∧ W.cell? ⟨g, 3, none⟩ = some (.int .i64 c.c) ∧ W.cell? ⟨g, 4, none⟩ = some (.int .i64 c.d) ∧ W.cell? ⟨g, 6, none⟩ = some (.pointer (some ⟨wg, 0, none⟩)) ∧ W.cell? ⟨wg, 1, none⟩ = some (.int .i64 s.now) ∧ W.cell? ⟨r2, 10, none⟩ = some (.int .i64 nx)) ∧ (∀ v, (W.setCell ⟨r2, 13, none⟩ v).cell? ⟨g, 1, none⟩ = some (.int .i64 c.a) ∧ (W.setCell ⟨r2, 13, none⟩ v).cell? ⟨g, 2, none⟩ = some (.int .i64 c.b) ∧ (W.setCell ⟨r2, 13, none⟩ v).cell? ⟨g, 3, none⟩ = some (.int .i64 c.c) ∧ (W.setCell ⟨r2, 13, none⟩ v).cell? ⟨g, 4, none⟩ = some (.int .i64 c.d) ∧ (W.setCell ⟨r2, 13, none⟩ v).cell? ⟨g, 6, none⟩ = some (.pointer (some ⟨wg, 0, none⟩)) ∧ (W.setCell ⟨r2, 13, none⟩ v).cell? ⟨wg, 1, none⟩ = some (.int .i64 s.now) ∧ (W.setCell ⟨r2, 13, none⟩ v).cell? ⟨r2, 10, none⟩ = some (.int .i64 nx))) ∧ (∃ u, W.cell? ⟨r2, 13, none⟩ = some u) ∧ W.frozen? ⟨r2, 13, none⟩ = false from by
        have hgX : g ≠ r2 := fun e => by have h9 := hXlt.out g h2.out.gX; omega
        have hwX : wg ≠ r2 := fun e => by
          obtain ⟨wg', Y, c6', hW, -⟩ := h2.out.wheel
          have h8 := (hb5.cell (block_lt_of_cell c6')).trans c6'
          rw [c6] at h8
          have h9 : wg = wg' := by simpa using h8
          have h10 := hW.lt hW.gY
          rw [← h9] at h10
          omega
        have e := fun (p : Addr) v (hp : w5.cell? p = some v) => (hb.cell (block_lt_of_cell hp)).trans hp
        have f := fun (p : Addr) (v u : Value) (hp : w5.cell? p = some v) (hne : (⟨r2, 13, none⟩ : Addr) ≠ p) => show (W.setCell ⟨r2, 13, none⟩ u).cell? p = some v from (World.cell?_setCell_other _ _ _ _ hne).trans (e p v hp)
        refine ⟨⟨⟨e _ _ u1, e _ _ u2, e _ _ u3, e _ _ u4, e _ _ c6, e _ _ cw, e _ _ d10⟩, fun v => ⟨f _ _ v u1 ?_, f _ _ v u2 ?_, f _ _ v u3 ?_, f _ _ v u4 ?_, f _ _ v c6 ?_, f _ _ v cw ?_, f _ _ v d10 ?_⟩⟩, ⟨_, e _ _ d13⟩, (hb.frozen (p := ⟨r2, 13, none⟩) (block_lt_of_cell d13)).trans z13⟩
        all_goals (simp; try omega)
      have hb0 : Below w5.heap.size w5 w5.drew := (Below.refl _ _).drew
      have hS0 := (SB.out _ hb0).1.1
      replace hB5 := Lib.hid hB5
      replace hB5y := Lib.hid hB5y
      replace hb5 := Lib.hid hb5
      replace hV := Lib.hid hV
      replace hS := Lib.hid hS
      replace hPT := Lib.hid hPT
      replace hwr := Lib.hid hwr
      replace hyd := Lib.hid hyd
      clear hnx hnx4 GO h5 hy u1 u2 u3 u4 c6 cw d13 z13
      go_upto_region 10 with fail
      clear d10
      go_region_held3 (fun W => W.cell? ⟨g, 1, none⟩ = some (.int .i64 c.a) ∧ W.cell? ⟨g, 2, none⟩ = some (.int .i64 c.b) ∧ W.cell? ⟨g, 3, none⟩ = some (.int .i64 c.c) ∧ W.cell? ⟨g, 4, none⟩ = some (.int .i64 c.d) ∧ W.cell? ⟨g, 6, none⟩ = some (.pointer (some ⟨wg, 0, none⟩)) ∧ W.cell? ⟨wg, 1, none⟩ = some (.int .i64 s.now) ∧ W.cell? ⟨r2, 10, none⟩ = some (.int .i64 nx)) (first | with_reducible assumption | with_reducible exact hS7 _) ((go_at_call 78; (with_reducible refine (ID.out _).mono ?_); rintro e w6 ⟨rfl, hb6⟩; obtain ⟨⟨hS6, hS7⟩, ⟨y13, e13⟩, f13⟩ := SB.out _ (below_chain hb6 hb0)))
      rw [hwr.out]
      have hbb := below_chain hb6 hb0
      have hB7 := hB5y.out w6 (hB5.out.call hbb)
      have hB7r := (hB5r.out.call hbb).far (p := ⟨r2, 13, none⟩) hr2 (.int .i64 due)
      have hb7 : Below w2.heap.size w2 (w6.setCell ⟨r2, 13, none⟩ (.int .i64 due)) := (below_chain hbb hb5.out).setCell (p := ⟨r2, 13, none⟩) (Nat.le_of_eq hr2e) _
      clear hS6 hS7 e13 f13 hb6 hbb SB ID hB5 hB5r hB5y hb5 hS0 hb0 hwr
      generalize w6.setCell ⟨r2, 13, none⟩ (.int .i64 due) = w7 at *
      have h7 := h2.out.call hb7
      have PU := Lib.hid (dtab_put h7 hsrt.out hn2.out y)
      have hT7 := Lib.hid (hT2.out.trans (XTo.call hb7))
      clear h7 hb7
      replace hB7r := Lib.hid hB7r
      go_upto_region 12 with (first
        | (refine wpList_load_entR rfl (.tmp 9) rfl ⟨r2, 0, none⟩ rfl y (blk_at hB7) ?_)
        | (go_at_call 79; (with_reducible refine PU.out.mono ?_); rintro e w8 ⟨rfl, X8, h8, k8⟩))
      have hd8 : Below w8.heap.size w8 w8.drew := (Below.refl _ _).drew
      have k9 : XTo w1 w8.drew X X8 := (hT7.out.trans k8).trans (XTo.call hd8)
      have hB8 := (hB7.chg k8.1 (fun hx => Nat.lt_irrefl _ (Nat.lt_of_lt_of_le (hXlt.out _ hx) hle2))).call hd8
      have hB8r := (hB7r.out.chg k8.1 (fun hx => Nat.lt_irrefl _ (Nat.lt_of_lt_of_le (hXlt.out _ hx) (Nat.le_of_eq hr)))).call hd8
      have hn2X : ¬ X8 r2 := fun hx => (k8.2 _ hx).elim (fun h => Nat.lt_irrefl _ (Nat.lt_of_lt_of_le (hXlt.out _ h) hle2)) (fun h => Nat.lt_irrefl _ (Nat.lt_of_lt_of_le hB7.lt h))
      have hnrX : ¬ X8 r := fun hx => (k8.2 _ hx).elim (fun h => Nat.lt_irrefl _ (Nat.lt_of_lt_of_le (hXlt.out _ h) (Nat.le_of_eq hr))) (fun h => Nat.lt_irrefl _ (Nat.lt_of_lt_of_le hB7r.out.lt h))
      have h9 := h8.call hd8
      obtain ⟨wg9, c6, ST⟩ := dtab_set h9 (by exact ht2.out.mlen5 hn) k (by omega) due hdr
      have d13 : w8.drew.cell? ⟨r2, 13, none⟩ = some (.int .i64 due) := by rw [← hyd.out]; exact hB8.cell 13
      replace ST := Lib.hid ST
      replace k9 := Lib.hid k9
      replace hB8 := Lib.hid hB8
      replace hB8r := Lib.hid hB8r
      clear PU hB7 hB7r h8 k8 h9 hd8 hT7
      have c6' : w8.cell? ⟨g, 6, none⟩ = some (.pointer (some ⟨wg9, 0, none⟩)) := c6
      have d13' : w8.cell? ⟨r2, 13, none⟩ = some (.int .i64 due) := d13
      go_still_tail 7, (by kernel_rfl)
      change wpList _ _ _ _ _ w8.drew
      clear c6' d13'
      generalize w8.drew = w9 at *
      go_upto_region 13 with (go_at_call 80; (with_reducible refine ST.out.mono ?_); rintro e wa ⟨rfl, Xa, ha, ka⟩)
      have hBa := hB8.out.chg ka.1 hn2X
      have hBar := hB8r.out.chg ka.1 hnrX
      have hTa : DTo w1 wa g n b c (dOf n (touchS c n s k fl)) X := DTo.mk (by rw [hS.out, ← hPT.out]; exact ha) (k9.out.trans ka)
      replace hTa := Lib.hid hTa
      clear ha ka ST hB8 hB8r c6 d13
      go_wp2_with (first
        | (refine wpList_load_entR rfl (.tmp 9) rfl ⟨r2, 0, none⟩ rfl y (blk_at hBa) ?_)
        | (refine wpList_store_entB rfl rfl (.tmp 6) (.tmp 65) rfl hBar y rfl rfl ?_))
      change bodyPost _ _ _ _ _ (setEnt wa r y)
      obtain ⟨B6, hc6⟩ := setEnt_blk hBar y
      have hTb := DTo.fin hXlt.out hb1 hTa.out hc6 (Nat.le_of_eq hr) (by omega)
      generalize setEnt wa r y = wb at *
      clear hBa hBar
      obtain ⟨r0, r1, r2, r3, r4, r5, r6, r7, r8, r9, r10, r11, r12, r13, -⟩ := ent_blk B6
      clear B6 hc6
      replace hTb := Lib.hid hTb
      refine bodyPost_ret (v := .tuple #[y.val, .bool true]) (by simp [results, Tryz.results51, go_sem, r0, r1, r2, r3, r4, r5, r6, r7, r8, r9, r10, r11, r12, r13]) rfl ?_
      exact ⟨by rw [hV.out, hO.out], hTb.out⟩
  · have hV : touchV c n s i fl = slt0 := by unfold touchV; rw [if_neg hO]
    have hS : touchS c n s i fl = lookS n i s := by unfold touchS; rw [if_neg hO]
    have hO1 : closeOk n s i = false := by simpa using hO
    have AT := Lib.hid (dtab_at_no h2 (Nat.le_trans hn2 (by omega)) i (fun y hy => live_none (E := (lookS n i s).E) ht2.sl (fun hh => hO (by
      unfold closeOk lookOk
      rw [Bool.and_eq_true, decide_eq_true_eq]
      rw [lookS_E] at hh
      exact ⟨⟨hh.1, hh.2.1⟩, hh.2.2⟩)) hy))
    clear hO
    replace hV := Lib.hid hV
    replace hS := Lib.hid hS
    replace hO1 := Lib.hid hO1
    have hT5 : DTo w1 w2 g n b c (dOf n (lookS n i s)) X := DTo.mk h2 hT2.out
    replace hT5 := Lib.hid hT5
    clear h2 ht2 h1
    go_wp2_with (first
      | (go_at_call 89; (with_reducible refine AT.out.mono ?_); rintro e w3 ⟨rfl, rfl⟩)
      | (refine wpList_store_entB rfl rfl (.tmp 6) (.tmp 18) rfl B2 slt0 rfl rfl ?_))
    change bodyPost _ _ _ _ _ (setEnt w2 r slt0)
    obtain ⟨B6, hc6⟩ := setEnt_blk B2 slt0
    have hT6 := DTo.fin hXlt.out hb1 hT5.out hc6 (Nat.le_of_eq hr) (by omega)
    generalize setEnt w2 r slt0 = w6 at *
    clear B2
    obtain ⟨r0, r1, r2, r3, r4, r5, r6, r7, r8, r9, r10, r11, r12, r13, -⟩ := ent_blk B6
    clear B6 hc6
    replace hT6 := Lib.hid hT6
    refine bodyPost_ret (v := .tuple #[(slt0).val, .bool false]) (by simp [results, Tryz.results51, go_sem, r0, r1, r2, r3, r4, r5, r6, r7, r8, r9, r10, r11, r12, r13]) rfl ?_
    exact ⟨by rw [hV.out, hO1.out], by rw [hS.out]; exact hT6.out⟩
end
end Go.Proofs.YtbmmklgkbbbopaaGreat
