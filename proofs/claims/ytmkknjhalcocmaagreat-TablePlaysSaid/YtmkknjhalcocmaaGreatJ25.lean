/- table: the document's table in memory: look, At. table: the document's put. -/
import Derived.Test.YtmkknjhalcocmaaGreatJ21
import Derived.Test.YtmkknjhalcocmaaGreatJ24
import Derived.Deep.MidRow
namespace Go.Proofs.YtmkknjhalcocmaaGreat
open Go Go.RowKit Go.Deep Go.Maps Go.ChangeMaps

/-- An entry is loaded whole, from wherever it lies. -/
theorem run_loadAt_ent (w : World) (a : Addr) (x : Slt) (hc : ∀ j u, x.ent[j]? = some u → w.cell? (a.add j) = some u) : (Instr.loadAt 55 (.pointer (some a))).run Tryz.prog w = .ok (.agg x.entA) w := by
  have hl : (loadCells a 14).run Tryz.prog w = .ok x.ent.toArray w := run_loadCells_list (P := Tryz.prog) w a x.ent hc
  have hs : (Tryz.prog.info? 55).map (·.size) = some 14 := by kernel_rfl
  cases hq : Tryz.prog.info? 55 with
  | none => simp [hq] at hs
  | some i =>
    have hs2 : i.size = 14 := by simpa [hq] using hs
    have hagg : (isAgg 55).run Tryz.prog w = .ok true w := by
      unfold isAgg
      rw [Sem.run_bind, run_underlying Tryz.underlying55 w]
      rfl
    simp only [Instr.loadAt, Instr.sureAddr, Sem.run_bind, Sem.run_pure, Result.andThen_ok]
    simp [loadVar, Sem.run_bind, hagg, sizeOf, typeInfo, hq, hs2, hl]
theorem wpList_load_entR {ops : Array Oper} {rest : List Oper} {op : Oper} {a : Act} {w : World} {Q : Exit → Act → World → Prop} (hgd : op.guard = none) (y : Operand) (ho : op.op = .load 55 y) (ad : Addr) (hx : a.eval y = .pointer (some ad)) (x : Slt)
    (hc : ∀ j u, x.ent[j]? = some u → w.cell? (ad.add j) = some u) (h : wpList Tryz.prog ops Q rest (a.put op.dst (.agg x.entA)) w) : wpList Tryz.prog ops Q (op :: rest) a w :=
  wpList_plain hgd fun _ hK => by
    unfold Oper.wp execOp
    simp only [ho, hx]
    rw [Sem.run_bind, run_loadAt_ent w ad x hc]
    exact hK _ _ h
theorem wpList_push_ents2 {W : World} {ops : Array Oper} {rest : List Oper} {o : Oper} {a : Act} {Q : Exit → Act → World → Prop} (hgd : o.guard = none) (s x : Operand)
    (ho : o.op = .call { callee := .builtin .append, args := #[s, x], argTypes := #[41, 41] })
    (base : Nat) (A : Option Addr) (c : Nat) (l : List Slt) (n : Nat) (hn : l.length = n) (hs : a.eval s = .slice A n c) (hown : OwnE W base A c l) (A2 : Option Addr) (c2 : Nat) (l2 : List Slt) (m : Nat) (hm : l2.length = m)
    (hx : a.eval x = .slice A2 m c2) (hr : Reads W W.heap.size 14 A2 m (l2.flatMap Slt.ent)) (hl : n + m ≤ 1000000) (hbase : base ≤ W.heap.size)
    (h : ∀ A' c' w', OwnE w' base A' c' (l ++ l2) → Pushed W w' A A' → wpList Tryz.prog ops Q rest (a.put o.dst (.slice A' (n + m) c')) w') : wpList Tryz.prog ops Q (o :: rest) a W := by
  subst hn hm
  obtain ⟨i0, hi0, hz0, hz1, hz2⟩ := info_parts info_ent
  refine wpList_append_sl _ hgd s x 41 ho base 55 i0 _ 14 112 Tryz.underlying41 hi0 hz0 hz1 hz2 rfl (by decide) (.slice A l.length c) l.length (l.flatMap Slt.ent) hs hown W.heap.size A2 l2.length c2 (l2.flatMap Slt.ent) hx hr (fun u hu => by
    obtain ⟨y, -, hy⟩ := List.mem_flatMap.1 hu
    unfold Slt.ent at hy
    simp at hy
    rcases hy with rfl | rfl | rfl | rfl | rfl | rfl | rfl | rfl | rfl | rfl | rfl | rfl | rfl | rfl <;> rfl) (by unfold maxLen; omega) (by omega) hbase ?_
  intro A' c' w' hown' hg' hat
  have hA : ∀ k, (Value.slice A l.length c).ownBlock = some k ↔ InB A k := hown.own_block
  have hO : OwnE w' base A' c' (l ++ l2) := by
    unfold OwnE OwnA
    rw [List.length_append, List.flatMap_append]
    exact hown'
  refine h A' c' w' hO ⟨?_, ?_⟩
  · exact (Chg.refl _ W).grown hg' (fun k hk _ => (hA k).1 hk)
  · intro b hb
    have e1 : (Value.slice A' (l.length + l2.length) c').ownBlock = some b := by
      have := (hO.own_block b).2 hb
      simpa [Value.ownBlock] using this
    rcases hat with h2 | h2
    · rw [h2] at e1
      exact .inl ((hA b).1 e1)
    · rw [h2] at e1
      simp at e1
      exact .inr (by omega)
/-- What the document's table holds. -/
structure DTs where
  now : Int
  M : LM
  L : List Int
  LL : List Slt
  gen : Nat → Int
  lk : Int
/-- The document's table in memory, its n slots, by its blocks X. -/
def DTabP (w : World) (g n : Nat) (b : Int) (c : TCfg) (d : DTs) (X : Nat → Prop) : Prop :=
  ∃ (fs wg gb : Nat) (F Y : Nat → Prop) (A : Option Addr) (q : Nat), Blk w g 47 #[.int .i64 b, .int .i64 c.a, .int .i64 c.b, .int .i64 c.c, .int .i64 c.d, .pointer (some ⟨fs, 0, none⟩), .pointer (some ⟨wg, 0, none⟩), .slice A d.LL.length q, .slice (some ⟨gb, 0, none⟩) n n, .int .i64 d.lk] ∧
    RefP w fs n d.L F ∧ RWheelP w wg c.G d.now d.M Y ∧ OwnE w 0 A q d.LL ∧ w.rowIs gb 33 n (fun k => .int .u64 (d.gen k)) ∧ (∀ x, X x ↔ x = g ∨ x = gb ∨ InB A x ∨ F x ∨ Y x) ∧ (∀ x, F x → ¬ Y x) ∧ (∀ x, F x ∨ Y x → x ≠ g ∧ x ≠ gb ∧ ¬ InB A x) ∧ g ≠ gb ∧ (∀ x, InB A x → x ≠ g ∧ x ≠ gb) ∧ n ≤ 4096
section
variable {w w' : World} {g n : Nat} {b : Int} {c : TCfg} {d : DTs} {X F : Nat → Prop}
theorem DTabP.chg (h : DTabP w g n b c d X) (k : Chg F w w') (hd : ∀ x, X x → ¬ F x) : DTabP w' g n b c d X := by
  obtain ⟨fs, wg, gb, F', Y, A, q, h1, h2, h3, h4, h5, h6, h7⟩ := h
  exact ⟨fs, wg, gb, F', Y, A, q, h1.chg k (hd _ ((h6 _).2 (.inl rfl))), h2.chg k (fun x hx => hd x ((h6 x).2 (.inr (.inr (.inr (.inl hx)))))), h3.chg k (fun x hx => hd x ((h6 x).2 (.inr (.inr (.inr (.inr hx)))))), h4.chg k (fun x hx => hd x ((h6 x).2 (.inr (.inr (.inl hx))))), rowIs_chg h5 k (hd _ ((h6 _).2 (.inr (.inl rfl)))), h6, h7⟩
theorem DTabP.call (h : DTabP w g n b c d X) (hb : Below w.heap.size w w') : DTabP w' g n b c d X := h.chg (F := fun _ => False) (Chg.of_below hb) (fun _ _ h => h)
theorem DTabP.lt (h : DTabP w g n b c d X) {x : Nat} (hx : X x) : x < w.heap.size := by
  obtain ⟨fs, wg, gb, F', Y, A, q, h1, h2, h3, h4, h5, h6, h7⟩ := h
  rcases (h6 x).1 hx with rfl | rfl | hx | hx | hx
  · exact h1.lt
  · exact h5.lt
  · exact (h4.block hx).2
  · exact h2.lt hx
  · exact h3.lt hx
theorem DTabP.gX (h : DTabP w g n b c d X) : X g := by
  obtain ⟨fs, wg, gb, F', Y, A, q, h1, h2, h3, h4, h5, h6, h7⟩ := h
  exact (h6 g).2 (.inl rfl)
/-- The parts, as they lie. -/
theorem DTabP.cells (h : DTabP w g n b c d X) : ∃ (fs wg gb : Nat) (A : Option Addr) (q : Nat), w.cell? ⟨g, 5, none⟩ = some (.pointer (some ⟨fs, 0, none⟩)) ∧ w.cell? ⟨g, 6, none⟩ = some (.pointer (some ⟨wg, 0, none⟩)) ∧ w.cell? ⟨g, 7, none⟩ = some (.slice A d.LL.length q) ∧ w.cell? ⟨g, 8, none⟩ = some (.slice (some ⟨gb, 0, none⟩) n n) ∧ w.cell? ⟨g, 9, none⟩ = some (.int .i64 d.lk) ∧ (∀ j, w.frozen? ⟨g, j, none⟩ = false) ∧ OwnE w 0 A q d.LL ∧ w.rowIs gb 33 n (fun k => .int .u64 (d.gen k)) ∧ w.cell? ⟨wg, 1, none⟩ = some (.int .i64 d.now) ∧ n ≤ 4096 := by
  obtain ⟨fs, wg, gb, F', Y, A, q, h1, h2, h3, h4, h5, h6, h7, h8, h9, h10, h11⟩ := h
  exact ⟨fs, wg, gb, A, q, h1.cell 5, h1.cell 6, h1.cell 7, h1.cell 8, h1.cell 9, h1.frozen, h4, h5, h3.now_, h11⟩
theorem DTabP.setLk (h : DTabP w g n b c d X) (l : Int) : DTabP (w.setCell ⟨g, 9, none⟩ (.int .i64 l)) g n b c { d with lk := l } X ∧ Chg X w (w.setCell ⟨g, 9, none⟩ (.int .i64 l)) := by
  have hX := h.gX
  obtain ⟨fs, wg, gb, F', Y, A, q, h1, h2, h3, h4, h5, h6, h7, h8, h9, h10, h11⟩ := h
  have k : Chg (· = g) w (w.setCell ⟨g, 9, none⟩ (.int .i64 l)) := Chg.setCell (F := (· = g)) (p := ⟨g, 9, none⟩) (Chg.refl _ _) (fun _ => rfl) _
  refine ⟨⟨fs, wg, gb, F', Y, A, q, ?_, h2.chg k (fun x hx e => (h8 x (.inl hx)).1 e), h3.chg k (fun x hx e => (h8 x (.inr hx)).1 e), h4.chg k (fun x hx e => (h10 x hx).1 e), rowIs_chg h5 k (fun e => h9 e.symm), h6, h7, h8, h9, h10, h11⟩, k.mono fun x _ e => by have e2 : x = g := e; exact e2 ▸ hX⟩
  have := h1.set_ 9 (.int .i64 l)
  simpa using this
theorem dtab_look (h : DTabP w g n b c d X) (i : Int) : Calls Tryz.prog 49 #[.pointer (some ⟨g, 0, none⟩), .int .i64 i] w fun e w' => e = .returned (.tuple #[]) ∧ DTabP w' g n b c { d with lk := if lookOk n i then wrap64 (d.lk + 1) else d.lk } X ∧ Chg X w w' := by
  obtain ⟨fs, wg, gb, A, q, -, -, -, c8, c9, fz, -, -, -, hn⟩ := h.cells
  have f9 := fz 9
  by_cases h0 : 0 ≤ i
  · have d0 : decide (0 ≤ i) = true := by simpa using h0
    by_cases h1 : i < (n : Int)
    · have d1 : decide (i < (n : Int)) = true := by simpa using h1
      have e : lookOk n i = true := by unfold lookOk; simp; omega
      rw [e]
      have hs := h.setLk (wrap64 (d.lk + 1))
      replace hs := Lib.hid hs
      clear fz e h
      go_enter Tryz.func49, Tryz.ntmps49
      go_wp2_with fail
      go_end0
      exact ⟨rfl, hs.out⟩
    · have d1 : decide (i < (n : Int)) = false := by simpa using h1
      have e : lookOk n i = false := by unfold lookOk; simp; omega
      rw [e]
      clear fz e
      replace h := Lib.hid h
      go_enter Tryz.func49, Tryz.ntmps49
      go_wp2_with fail
      go_end0
      exact ⟨rfl, h.out, Chg.refl _ _⟩
  · have d0 : decide (0 ≤ i) = false := by simpa using h0
    have e : lookOk n i = false := by unfold lookOk; simp; omega
    rw [e]
    clear fz e
    replace h := Lib.hid h
    go_enter Tryz.func49, Tryz.ntmps49
    go_wp2_with fail
    go_end0
    exact ⟨rfl, h.out, Chg.refl _ _⟩
/-- A slot that no entry has. -/
theorem dtab_at_no (h : DTabP w g n b c d X) (hl : d.LL.length ≤ 1000000) (i : Int) (hno : ∀ y ∈ d.LL, y.sl ≠ i) : Calls Tryz.prog 53 #[.pointer (some ⟨g, 0, none⟩), .int .i64 i] w fun e w' => e = .returned (.int .i64 (-1)) ∧ w = w' := by
  obtain ⟨fs, wg, gb, A, q, -, -, c7, -, -, -, hO, -, -, -⟩ := h.cells
  obtain ⟨LL, hLL⟩ : ∃ L, d.LL = L := ⟨_, rfl⟩
  rw [hLL] at c7 hO hl hno
  have hr := hO.reads
  replace hr := Lib.hid hr
  clear h hO hLL
  replace hno := Lib.hid hno
  go_enter Tryz.func53, Tryz.ntmps53
  go_wp2_with fail
  go_loop [5] (fun iv => ∃ j : Nat, j ≤ LL.length ∧ iv = .int .i64 (j : Nat)) (fun iv => LL.length - (intOf iv).toNat)
  case atStart => exact ⟨0, by omega, rfl⟩
  case round =>
    obtain ⟨j, hj, rfl⟩ := hrel
    by_cases hlt : j < LL.length
    · have hlti : (j : Int) < (LL.length : Int) := by omega
      obtain ⟨ad, rfl, hbl, hc⟩ := hr.out.rec_at Slt.ent (fun _ => rfl) hlt
      have c11 : w.cell? ⟨(ad.add (j * 14)).block, (ad.add (j * 14)).off + 11, none⟩ = some (.int .i64 LL[j].sl) := hc 11 _ rfl
      have hne : (LL[j].sl == i) = false := by simpa using hno.out _ (List.getElem_mem hlt)
      generalize LL[j].sl = y at *
      clear hc
      go_wp2_with fail
      go_round
      case rel => exact ⟨j + 1, by omega, by go_num⟩
      case measure => simp [intOf]; omega
    · obtain rfl : j = LL.length := by omega
      have hlti : ¬ (LL.length : Int) < (LL.length : Int) := by omega
      go_wp2_with fail
      go_ret
      exact ⟨rfl, rfl⟩
/-- A slot that an entry has. -/
theorem dtab_at (h : DTabP w g n b c d X) (hl : d.LL.length ≤ 1000000) (i : Int) (k : Nat) (hk : k < d.LL.length) (hki : d.LL[k].sl = i) (hno : ∀ j (hj : j < d.LL.length), j < k → d.LL[j].sl ≠ i) : Calls Tryz.prog 53 #[.pointer (some ⟨g, 0, none⟩), .int .i64 i] w fun e w' => e = .returned (.int .i64 (k : Int)) ∧ w = w' := by
  obtain ⟨fs, wg, gb, A, q, -, -, c7, -, -, -, hO, -, -, -⟩ := h.cells
  obtain ⟨now, M, L, LL, gen, lk⟩ := d
  dsimp only at c7 hO hl hk hki hno
  have hr := hO.reads
  replace hr := Lib.hid hr
  clear h hO
  replace hno := Lib.hid hno
  replace hki := Lib.hid hki
  go_enter Tryz.func53, Tryz.ntmps53
  go_wp2_with fail
  go_loop [5] (fun iv => ∃ j : Nat, j ≤ k ∧ iv = .int .i64 (j : Nat)) (fun iv => LL.length - (intOf iv).toNat)
  case atStart => exact ⟨0, by omega, rfl⟩
  case round =>
    obtain ⟨j, hj, rfl⟩ := hrel
    have hlt : j < LL.length := by omega
    have hlti : (j : Int) < (LL.length : Int) := by omega
    obtain ⟨ad, rfl, hbl, hc⟩ := hr.out.rec_at Slt.ent (fun _ => rfl) hlt
    have c11 : w.cell? ⟨(ad.add (j * 14)).block, (ad.add (j * 14)).off + 11, none⟩ = some (.int .i64 LL[j].sl) := hc 11 _ rfl
    clear hc
    by_cases e : j = k
    · subst e
      have hne : (LL[j].sl == i) = true := by simpa using hki.out
      generalize LL[j].sl = y at *
      go_wp2_with fail
      go_ret
      exact ⟨rfl, rfl⟩
    · have hne : (LL[j].sl == i) = false := by simpa using hno.out j hlt (by omega)
      generalize LL[j].sl = y at *
      go_wp2_with fail
      go_round
      case rel => exact ⟨j + 1, by omega, by go_num⟩
      case measure => simp [intOf]; omega
end
end Go.Proofs.YtmkknjhalcocmaaGreat

namespace Go.Proofs.YtmkknjhalcocmaaGreat
open Go Go.RowKit Go.Deep Go.Maps Go.ChangeMaps

theorem flat_drop : ∀ (k : Nat) (l : List Slt), (l.flatMap Slt.ent).drop (k * 14) = (l.drop k).flatMap Slt.ent
  | 0, l => by simp
  | k + 1, [] => by simp
  | k + 1, x :: r => by
    have ih := flat_drop k r
    rw [List.flatMap_cons, List.drop_succ_cons, ← ih, List.drop_append]
    have hl : x.ent.length = 14 := rfl
    rw [List.drop_eq_nil_iff.2 (by rw [hl]; omega), hl, List.nil_append]
    congr 1
    omega
theorem info_entSize : (Tryz.prog.info? 55).map (·.size) = some 14 := by kernel_rfl
set_option maxRecDepth 100000 in
theorem slice_from_ent (A : Option Addr) (n c k : Nat) (hk : k ≤ n) (hc : n ≤ c) : ∃ A2 c2, (∀ W, (Instr.slice 41 (.slice A n c) (some (.int .i64 (k : Int))) none none).run Tryz.prog W = .ok (.slice A2 (n - k) c2) W) ∧ ∀ (W : World) (B : Nat) (l : List Slt), Reads W B 14 A n (l.flatMap Slt.ent) → Reads W B 14 A2 (n - k) ((l.drop k).flatMap Slt.ent) := by
  refine ⟨if c = k then A else A.map (·.add (k * 14)), c - k, fun W => ?_, fun W B xs h => ?_⟩
  · rw [run_slice_l _ _ _ _ _ (by kernel_rfl) .i64 (k : Int) (by omega) (by omega)]
    have : (sizeOf (Tryz.prog.elem 41)).run Tryz.prog W = .ok 14 W := by
      first | rfl | exact Tryz.sizeOf55 W | simp [go_sem]
    rw [this]
    simp [Result.andThen, sliced]
  · rw [← flat_drop]
    exact h.cut (k := k) hk hc
theorem ownE_cap {w : World} {base c : Nat} {A : Option Addr} {l : List Slt} (h : OwnE w base A c l) : l.length ≤ c := by
  rcases h.2 with ⟨h2, h3⟩ | ⟨g', cap', cur, hv, hb, hh, hc, hm, hs, hx⟩
  · simp only [Value.slice.injEq] at h2
    omega
  · simp only [Value.slice.injEq] at hv
    rw [hv.2.2]
    exact hc
theorem drop_getD_take {α : Type} (L : List α) (k : Nat) (hk : k < L.length) : L.take (k + 1) = L.take k ++ [L[k]] := List.take_succ_eq_append_getElem hk
section
variable {w w' : World} {g n : Nat} {b : Int} {c : TCfg} {d : DTs} {X F : Nat → Prop}
/-- The entries anew. -/
theorem DTabP.setLL (h0 : DTabP w g n b c d X) {W : World} (hb : Below w.heap.size w W) {A' : Option Addr} {q' : Nat} {LL' : List Slt} {B : Nat} (hO : OwnE W B A' q' LL') (hB : w.heap.size ≤ B) :
    ∃ X', DTabP (W.setCell ⟨g, 7, none⟩ (.slice A' LL'.length q')) g n b c { d with LL := LL' } X' ∧ Chg X w (W.setCell ⟨g, 7, none⟩ (.slice A' LL'.length q')) ∧ ∀ x, X' x → X x ∨ w.heap.size ≤ x := by
  have hX := h0.gX
  have hlt := fun x (hx : X x) => h0.lt hx
  obtain ⟨fs, wg, gb, F', Y, A, q, h1, h2, h3, h4, h5, h6, h7, h8, h9, h10, h11⟩ := h0.call hb
  have k : Chg (· = g) W (W.setCell ⟨g, 7, none⟩ (.slice A' LL'.length q')) := Chg.setCell (F := (· = g)) (p := ⟨g, 7, none⟩) (Chg.refl _ _) (fun _ => rfl) _
  have hgw := hlt g hX
  have hn : ∀ x, InB A' x → w.heap.size ≤ x := fun x hx => Nat.le_trans hB (hO.block hx).1
  refine ⟨fun x => x = g ∨ x = gb ∨ InB A' x ∨ F' x ∨ Y x, ⟨fs, wg, gb, F', Y, A', q', ?_, h2.chg k (fun x hx e => (h8 x (.inl hx)).1 e), h3.chg k (fun x hx e => (h8 x (.inr hx)).1 e), ?_, rowIs_chg h5 k (fun e => h9 e.symm), fun x => Iff.rfl, h7, fun x hx => ⟨(h8 x hx).1, (h8 x hx).2.1, fun hi => ?_⟩, h9, fun x hx => ⟨?_, ?_⟩, h11⟩, ?_, fun x hx => ?_⟩
  · have := h1.set_ 7 (.slice A' LL'.length q')
    simpa using this
  · refine OwnA.chg (OwnA.low hO (Nat.zero_le _)) k (fun x hx e => ?_)
    have e2 : x = g := e
    have := hn x hx
    omega
  · have h12 := hn x hi
    have h13 := hlt x ((h6 x).2 (hx.elim (fun h => .inr (.inr (.inr (.inl h)))) (fun h => .inr (.inr (.inr (.inr h))))))
    omega
  · rintro rfl
    have := hn _ hx
    omega
  · rintro rfl
    have := hn _ hx
    have := hlt _ ((h6 _).2 (.inr (.inl rfl)))
    omega
  · exact (Chg.of_below hb).trans (G := (· = g)) k (fun x _ e => by have e2 : x = g := e; exact e2 ▸ hX)
  · rcases hx with rfl | rfl | hx | hx | hx
    · exact .inl hX
    · exact .inl ((h6 _).2 (.inr (.inl rfl)))
    · exact .inr (hn x hx)
    · exact .inl ((h6 _).2 (.inr (.inr (.inr (.inl hx)))))
    · exact .inl ((h6 _).2 (.inr (.inr (.inr (.inr hx)))))
end
end Go.Proofs.YtmkknjhalcocmaaGreat
