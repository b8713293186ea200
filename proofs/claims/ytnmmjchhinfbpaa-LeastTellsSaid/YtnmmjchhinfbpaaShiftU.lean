/- slices: Clone and DeleteFunc at backends, as shift's Drain calls them. -/
import Derived.Test.YtnmmjchhinfbpaaEligA
import Derived.Lib.SliceRun
namespace Go.Proofs.Ytnmmjchhinfbpaa
open Go Go.RowKit Go.Deep

theorem bk_one (l : List Bk) : ∀ u ∈ l.flatMap Bk.cells, u.oneCell' = true := by
  intro u hu
  obtain ⟨b, _, hb⟩ := List.mem_flatMap.1 hu
  simp at hb
  rcases hb with rfl | rfl | rfl | rfl | rfl | rfl <;> rfl
theorem clone_bk (A : Option Addr) (c : Nat) (l : List Bk) (w : World) (hr : Reads w w.heap.size 6 A l.length (l.flatMap Bk.cells)) (hn : l.length ≤ 65536) :
    Calls Try.prog 60 #[.slice A l.length c] w fun e w' => ∃ A' c', e = .returned (.slice A' l.length c') ∧ OwnB w' w.heap.size A' c' l ∧ Below w.heap.size w w' := by
  obtain ⟨i0, hi0, hz0, hz1, hz2⟩ := info_parts info_bk
  have heq := fun (A : Option Addr) (n c : Nat) (W : World) => Lib.run_eql_slice_nil (P := Try.prog) W 22 46 A n c 0 0 Try.underlying22
  rcases A with _ | ad
  · have hl0 : l.length = 0 := by
      rcases Nat.eq_zero_or_pos l.length with h | h
      · exact h
      · obtain ⟨_, h, _⟩ := hr.2 h; cases h
    obtain rfl : l = [] := List.eq_nil_of_length_eq_zero hl0
    go_enter Try.func60, Try.ntmps60
    go_wp2_with fail
    go_ret
    exact ⟨none, 0, rfl, OwnA.nil _ _, Below.refl _ _⟩
  · go_enter Try.func60, Try.ntmps60
    go_wp2_with (at_builtin; refine wpList_append_any _ rfl (.tmp 5) (.tmp 6) 22 rfl w.heap.size 46 i0 _ 6 48 Try.underlying22 hi0 hz0 hz1 hz2 rfl (by decide) (.slice (some ⟨w.heap.size, 0, none⟩) 0 0) 0 [] rfl (World.ownsRow_made w #[] 0 (Nat.le_refl _) (by unfold maxLen; omega) (by simp)) w.heap.size (some ad) l.length c (l.flatMap Bk.cells) rfl (hr.alloc (Nat.le_refl _) _) (bk_one l) (by unfold maxLen; omega) (by omega) (by simp) ?_; intro v1 w1 hown1 hg1 hat1)
    have hb : Below w.heap.size w w1 := ((Below.refl _ _).alloc (Nat.le_refl _) _).grown hg1 (by simp) (fun k hk => by simp [Value.ownBlock] at hk; omega)
    clear heq
    obtain ⟨A', c', rfl⟩ := slice_of_own w1 hown1
    go_wp2_with fail
    go_ret
    exact ⟨A', c', by simp, by unfold OwnB OwnA; simpa using hown1, hb⟩

theorem flat_set6 (b : Bk) : ∀ (L : List Bk) (i : Nat), i < L.length → ((((((L.flatMap Bk.cells).set (i * 6) (.int .i64 b.id)).set (i * 6 + 1) (.int .i64 b.w)).set (i * 6 + 2) (.int .i64 b.st)).set (i * 6 + 3) (.bool b.v)).set (i * 6 + 4) (.int .u64 b.hi)).set (i * 6 + 5) (.int .u64 b.lo) = (L.set i b).flatMap Bk.cells
  | [], i, h => absurd h (by simp)
  | x :: L, 0, _ => by simp
  | x :: L, i + 1, h => by
    have ih := flat_set6 b L i (by simpa using h)
    simp only [List.flatMap_cons, List.set_cons_succ]
    rw [← ih]
    have e : ∀ j, (i + 1) * 6 + j = (i * 6 + j) + 6 := fun j => by omega
    rw [show (i + 1) * 6 = (i * 6) + 6 by omega]
    simp only [Bk.cells, List.cons_append, List.nil_append]
    rw [show i * 6 + 6 + 1 = (i * 6 + 1) + 6 by omega, show i * 6 + 6 + 2 = (i * 6 + 2) + 6 by omega, show i * 6 + 6 + 3 = (i * 6 + 3) + 6 by omega, show i * 6 + 6 + 4 = (i * 6 + 4) + 6 by omega, show i * 6 + 6 + 5 = (i * 6 + 5) + 6 by omega]
    simp only [show ∀ k, k + 6 = k + 1 + 1 + 1 + 1 + 1 + 1 from fun _ => rfl, List.set_cons_succ]

/-- A row of backends at the head of a block of the call's own. -/
def RowB (w : World) (base g n cap : Nat) (L : List Bk) : Prop := L.length = n ∧ w.ownsRow base 46 6 (.slice (some ⟨g, 0, none⟩) n cap) n (L.flatMap Bk.cells)
section
variable {w w' : World} {base g n cap : Nat} {L : List Bk}
theorem RowB.blk (h : RowB w base g n cap L) : base ≤ g ∧ g < w.heap.size := h.2.lt g rfl
theorem RowB.call (h : RowB w base g n cap L) (hb : Below w.heap.size w w') : RowB w' base g n cap L :=
  ⟨h.1, h.2.1, by
    rcases h.2.2 with h0 | ⟨g', cap', cur, hv, hg, hh, hr⟩
    · exact .inl h0
    · refine .inr ⟨g', cap', cur, hv, hg, ?_, hr⟩
      rw [hb.block g' (Array.getElem?_eq_some_iff.1 hh).1, hh]⟩
theorem RowB.cells (h : RowB w base g n cap L) {k : Nat} {x : Bk} (hx : L[k]? = some x) :
    w.cell? ⟨g, k * 6, none⟩ = some (.int .i64 x.id) ∧ w.cell? ⟨g, k * 6 + 1, none⟩ = some (.int .i64 x.w) ∧ w.cell? ⟨g, k * 6 + 2, none⟩ = some (.int .i64 x.st) ∧ w.cell? ⟨g, k * 6 + 3, none⟩ = some (.bool x.v) ∧ w.cell? ⟨g, k * 6 + 4, none⟩ = some (.int .u64 x.hi) ∧ w.cell? ⟨g, k * 6 + 5, none⟩ = some (.int .u64 x.lo) := by
  have hk : k < n := h.1 ▸ (List.getElem?_eq_some_iff.1 hx).1
  have f : ∀ j, j < 6 → w.cell? ⟨g, k * 6 + j, none⟩ = x.cells[j]? := fun j hj => by
    rw [h.2.cellAt (k * 6 + j) (by omega)]
    exact flat_at Bk.cells 6 (fun _ => rfl) L k j _ hx hj
  exact ⟨f 0 (by omega), f 1 (by omega), f 2 (by omega), f 3 (by omega), f 4 (by omega), f 5 (by omega)⟩
theorem RowB.put (h : RowB w base g n cap L) {p : Nat} (hp : p < n) (b : Bk) :
    RowB ((((((w.setCell ⟨g, p * 6, none⟩ (.int .i64 b.id)).setCell ⟨g, p * 6 + 1, none⟩ (.int .i64 b.w)).setCell ⟨g, p * 6 + 2, none⟩ (.int .i64 b.st)).setCell ⟨g, p * 6 + 3, none⟩ (.bool b.v)).setCell ⟨g, p * 6 + 4, none⟩ (.int .u64 b.hi)).setCell ⟨g, p * 6 + 5, none⟩ (.int .u64 b.lo)) base g n cap (L.set p b) := by
  refine ⟨by rw [List.length_set]; exact h.1, ?_⟩
  rw [← flat_set6 b L p (by rw [h.1]; exact hp)]
  exact ((((((h.2.stored (p * 6) (.int .i64 b.id)).1.stored (p * 6 + 1) (.int .i64 b.w)).1.stored (p * 6 + 2) (.int .i64 b.st)).1.stored (p * 6 + 3) (.bool b.v)).1.stored (p * 6 + 4) (.int .u64 b.hi)).1.stored (p * 6 + 5) (.int .u64 b.lo)).1
end
theorem run_clear_bk (w : World) (b o n c : Nat) (hn : 0 < n) (hc : ∀ j, j < n * 6 → (w.cell? ⟨b, o + j, none⟩).isSome = true) (hf : ∀ j, j < n * 6 → w.frozen? ⟨b, o + j, none⟩ = false) :
    ∃ zs : List Value, zs.length = n * 6 ∧ ∀ ty, (Builtin.clear_ #[22] ty #[.slice (some ⟨b, o, none⟩) n c]).run Try.prog w = .ok (.tuple #[]) (w.setCells b o zs) := by
  have hv : ∀ w, (zeroValue 46).run Try.prog w = .ok (.agg #[.int .i64 0, .int .i64 0, .int .i64 0, .bool false, .int .u64 0, .int .u64 0]) w := fun _ => by kernel_rfl
  refine ⟨(Builtin.zeroCells #[.int .i64 0, .int .i64 0, .int .i64 0, .bool false, .int .u64 0, .int .u64 0] n).toList, by simp [Builtin.zeroCells], fun ty => ?_⟩
  have hst := run_storeCells_cells (P := Try.prog) b o (Builtin.zeroCells #[.int .i64 0, .int .i64 0, .int .i64 0, .bool false, .int .u64 0, .int .u64 0] n).toList 0 w (by simpa [Builtin.zeroCells] using hc) (by simpa [Builtin.zeroCells] using hf) (by
    intro v hv'
    simp [Builtin.zeroCells] at hv'
    obtain ⟨a, _, rfl⟩ := hv'
    have : a % 6 < 6 := Nat.mod_lt _ (by omega)
    generalize a % 6 = r at *
    match r, this with
    | 0, _ => rfl
    | 1, _ => rfl
    | 2, _ => rfl
    | 3, _ => rfl
    | 4, _ => rfl
    | 5, _ => rfl)
  simp only [Nat.add_zero] at hst
  obtain ⟨m, rfl⟩ : ∃ m, n = m + 1 := ⟨n - 1, by omega⟩
  simp [Builtin.clear_, run_underlying Try.underlying22, hv, Value.cells, hst]
theorem filt_step (l : List Bk) (id : Int) (k : Nat) (x : Bk) (h : l[k]? = some x) : (l.take (k + 1)).filter (fun b => b.id != id) = (l.take k).filter (fun b => b.id != id) ++ (if x.id != id then [x] else []) := by
  obtain ⟨hk, rfl⟩ := List.getElem?_eq_some_iff.1 h
  rw [List.take_succ_eq_append_getElem hk, List.filter_append]
  congr 1
  by_cases e : l[k].id != id <;> simp [e]
theorem first_at (l : List Bk) (id : Int) (h : hasB l id = true) : ∃ k : Nat, ∃ x, idxB l id = (k : Int) ∧ l[k]? = some x ∧ x.id = id ∧ (l.take k).filter (fun b => b.id != id) = l.take k := by
  unfold hasB at h
  unfold idxB
  obtain ⟨k, hk⟩ : ∃ k, l.findIdx? (fun b => b.id == id) = some k := by
    cases e : l.findIdx? (fun b => b.id == id) with
    | some k => exact ⟨k, rfl⟩
    | none =>
      rw [List.findIdx?_eq_none_iff] at e
      obtain ⟨x, hx, hx2⟩ := List.any_eq_true.1 h
      have := e x hx
      rw [hx2] at this
      cases this
  obtain ⟨hk1, hk2, hk3⟩ := List.findIdx?_eq_some_iff_getElem.1 hk
  refine ⟨k, l[k], by rw [hk], List.getElem?_eq_getElem hk1, by simpa using hk2, ?_⟩
  rw [List.filter_eq_self]
  intro b hb
  obtain ⟨j, hj, rfl⟩ := List.getElem_of_mem hb
  have hj2 : j < k := by have := hj; rw [List.length_take] at this; omega
  have := hk3 j hj2
  rw [List.getElem_take]
  simpa using this
end Go.Proofs.Ytnmmjchhinfbpaa
