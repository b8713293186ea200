/- stateful: a keeper's Touch and Find. stateful: Open, Find and Cookie of keepers that nobody made. -/
import Derived.Test.YteklkljndchjiaaGreatJ34
import Derived.Great.BuildSlice
import Derived.Test.YteklkljndchjiaaGreatJ53
import Derived.Test.YteklkljndchjiaaGreatJ50
import Derived.Test.YteklkljndchjiaaGreatJ47
import Derived.Test.YteklkljndchjiaaGreatJ44
import Derived.Test.YteklkljndchjiaaGreatJ52
namespace Go.Proofs.YteklkljndchjiaaGreat
open Go Go.RowKit Go.Deep Go.Maps Go.ChangeMaps
theorem wpList_buildEnt1 {ops : Array Oper} {rest : List Oper} {o : Oper} {a : Act} {w : World} {Q : Exit → Act → World → Prop} (hg : o.guard = none) (x : Operand) (ho : o.op = .buildSlice 58 1 #[(0, x)]) (v : Slt) (hx : a.eval x = .agg v.entA)
  (h : wpList Tryz.prog ops Q rest (a.put o.dst (.slice (some ⟨w.heap.size, 0, none⟩) 1 1)) (w.alloc (.cells v.entA 52))) : wpList Tryz.prog ops Q (o :: rest) a w := by
 obtain ⟨ie, hi, hz, hs, hb⟩ := info_parts info_ent
 refine wpList_buildSlice hg 58 52 1 _ ho v.entA ie (.agg slt0.entA) Tryz.underlying58 hi hz (by rw [hs]; decide) (by rw [hs]; decide) ?_ h
 rw [hs]
 simp only [List.map_toArray, List.map_cons, List.map_nil, hx]
 kernel_rfl
end Go.Proofs.YteklkljndchjiaaGreat
namespace Go.Proofs.YteklkljndchjiaaGreat
open Go Go.RowKit Go.Deep Go.Maps Go.ChangeMaps
structure DKPtr where
 g : Nat
 gb : Bool → Nat
def dtabsOb (g : Nat) (r : TRule) (p n : Nat) (S : Nat → TSt) : Ob := fun w X => DTabsP w g r p n S X
def dloadOb (k : DKPtr) (M : LM) : Ob := fun w X => ∃ base P p Q q, Blk w k.g 89 #[ptr0 (k.gb true), ptr0 (k.gb false), .slice P M.length p, .slice Q M.length q] ∧ Two w base P p (pre2 M) Q q (post2 M) ∧ ¬ InB P k.g ∧ ¬ InB Q k.g ∧ ∀ y, X y ↔ y = k.g ∨ InB P y ∨ InB Q y
def dkeepOb (k : DKPtr) (r : KRule) (s : KSt) : Ob :=
 (dloadOb k s.M).star ((dtabsOb (k.gb true) (r.rb true) r.p (r.n true) (s.S true)).star (dtabsOb (k.gb false) (r.rb false) r.p (r.n false) (s.S false)))
section
variable {w w' : World} {X F : Nat → Prop} {k : DKPtr} {r : KRule} {s : KSt} {g p n : Nat} {tr : TRule} {S : Nat → TSt} {M : LM}
end
@[reducible] def KrAt (rt : Nat) (r : KRule) (W : World) : Prop := W.cell? ⟨rt, 0, none⟩ = some (.bool r.nw) ∧ W.cell? ⟨rt, 1, none⟩ = some (.int .i64 r.ns) ∧ W.cell? ⟨rt, 2, none⟩ = some (.int .i64 r.ng) ∧ W.cell? ⟨rt, 3, none⟩ = some (.bool r.ww) ∧ W.cell? ⟨rt, 4, none⟩ = some (.int .i64 r.ws) ∧ W.cell? ⟨rt, 5, none⟩ = some (.int .i64 r.wg) ∧ W.cell? ⟨rt, 6, none⟩ = some (.int .u64 r.ka) ∧ W.cell? ⟨rt, 7, none⟩ = some (.int .u64 r.kb) ∧ W.cell? ⟨rt, 8, none⟩ = some (.int .i64 r.np) ∧ W.cell? ⟨rt, 9, none⟩ = some (.int .i64 r.a) ∧ W.cell? ⟨rt, 10, none⟩ = some (.int .i64 r.b) ∧ W.cell? ⟨rt, 11, none⟩ = some (.int .i64 r.c) ∧ W.cell? ⟨rt, 12, none⟩ = some (.int .i64 r.d) ∧ W.cell? ⟨rt, 13, none⟩ = some (.int .i64 r.G)
theorem KrAt.call {rt : Nat} {r : KRule} {W W' : World} (h : KrAt rt r W) (hb : Below W.heap.size W W') : KrAt rt r W' := by
 obtain ⟨h0, h1, h2, h3, h4, h5, h6, h7, h8, h9, h10, h11, h12, h13⟩ := h
 exact ⟨(hb.cell (block_lt_of_cell h0)).trans h0, (hb.cell (block_lt_of_cell h1)).trans h1, (hb.cell (block_lt_of_cell h2)).trans h2, (hb.cell (block_lt_of_cell h3)).trans h3, (hb.cell (block_lt_of_cell h4)).trans h4, (hb.cell (block_lt_of_cell h5)).trans h5, (hb.cell (block_lt_of_cell h6)).trans h6, (hb.cell (block_lt_of_cell h7)).trans h7, (hb.cell (block_lt_of_cell h8)).trans h8, (hb.cell (block_lt_of_cell h9)).trans h9, (hb.cell (block_lt_of_cell h10)).trans h10, (hb.cell (block_lt_of_cell h11)).trans h11, (hb.cell (block_lt_of_cell h12)).trans h12, (hb.cell (block_lt_of_cell h13)).trans h13⟩
theorem KrAt.of {rt : Nat} {r : KRule} {W : World} {t : TypeId} (h : Blk W rt t r.cells.toArray) : KrAt rt r W := ⟨h.cell 0, h.cell 1, h.cell 2, h.cell 3, h.cell 4, h.cell 5, h.cell 6, h.cell 7, h.cell 8, h.cell 9, h.cell 10, h.cell 11, h.cell 12, h.cell 13⟩
def ksmall (r : KRule) : Bool := decide (r.ns ≤ 3) && decide (r.ws ≤ 3) && decide (r.np ≤ 4)
set_option maxRecDepth 100000 in
theorem ref33_tables (r : KRule) (wd : Bool) (sl gn : Int) (w : World) : Calls Tryz.prog 100 #[r.val, .agg #[.bool wd, .int .i64 sl, .int .i64 gn]] w fun e w' => e = .returned (.agg #[.bool wd, .int .i64 sl, .int .i64 gn, .int .u64 r.ka, .int .u64 r.kb, .int .i64 r.np, .int .i64 r.a, .int .i64 r.b, .int .i64 r.c, .int .i64 r.d, .int .i64 r.G]) ∧ Below w.heap.size w w' := by
 have B1 := (Blk.new w 70 r.cells.toArray).alloc (.cells #[.bool wd, .int .i64 sl, .int .i64 gn] 23)
 have hb0 : Below w.heap.size w ((w.alloc (.cells r.cells.toArray 70)).alloc (.cells #[.bool wd, .int .i64 sl, .int .i64 gn] 23)) := below_alloc (below_alloc (Below.refl _ _) _) _
 have B2 : Blk ((w.alloc (.cells r.cells.toArray 70)).alloc (.cells #[.bool wd, .int .i64 sl, .int .i64 gn] 23)) (w.alloc (.cells r.cells.toArray 70)).heap.size 23 #[.bool wd, .int .i64 sl, .int .i64 gn] := Blk.new _ _ _
 rw [World.size_alloc] at B2
 go_enter Tryz.func100, Tryz.ntmps100
 go_upto_region 1 with fail
 change Code.wp _ _ _ _ (((w.alloc (.cells r.cells.toArray 70)).alloc (.cells #[.bool wd, .int .i64 sl, .int .i64 gn] 23)).alloc (.cells #[.bool false, .int .i64 0, .int .i64 0, .int .u64 0, .int .u64 0, .int .i64 0, .int .i64 0, .int .i64 0, .int .i64 0, .int .i64 0, .int .i64 0] 30))
 have hsz : ((w.alloc (.cells r.cells.toArray 70)).alloc (.cells #[.bool wd, .int .i64 sl, .int .i64 gn] 23)).heap.size = w.heap.size + 1 + 1 := by rw [World.size_alloc, World.size_alloc]
 generalize (w.alloc (.cells r.cells.toArray 70)).alloc (.cells #[.bool wd, .int .i64 sl, .int .i64 gn] 23) = w1 at *
 obtain ⟨rk, hrk⟩ : ∃ r, w.heap.size = r := ⟨_, rfl⟩
 rw [hrk] at B1 B2 hb0 hsz
 try rw [hrk]
 have B3 := Blk.new w1 30 #[.bool false, .int .i64 0, .int .i64 0, .int .u64 0, .int .u64 0, .int .i64 0, .int .i64 0, .int .i64 0, .int .i64 0, .int .i64 0, .int .i64 0]
 have hb1 : Below w1.heap.size w1 (w1.alloc (.cells #[.bool false, .int .i64 0, .int .i64 0, .int .u64 0, .int .u64 0, .int .i64 0, .int .i64 0, .int .i64 0, .int .i64 0, .int .i64 0, .int .i64 0] 30)) := below_alloc (Below.refl _ _) _
 have l2 := B2.lt
 replace B1 := B1.call hb1
 replace B2 := B2.call hb1
 replace hb0 := below_call2 hb1 hb0 (by omega)
 generalize w1.alloc (.cells #[.bool false, .int .i64 0, .int .i64 0, .int .u64 0, .int .u64 0, .int .i64 0, .int .i64 0, .int .i64 0, .int .i64 0, .int .i64 0, .int .i64 0] 30) = w2 at *
 rw [hsz] at B3 l2
 have c8 : w2.cell? ⟨rk, 8, none⟩ = some (.int .i64 r.np) := B1.cell 8
 have c13 : w2.cell? ⟨rk, 13, none⟩ = some (.int .i64 r.G) := B1.cell 13
 have hlr := B3.lt
 clear hb1
 go_wp2_with (first
  | (with_reducible refine wpList_load_blk rfl 23 (.tmp 3) rfl (rk + 1) 0 rfl B2 [.bool wd, .int .i64 sl, .int .i64 gn] rfl _ Tryz.underlying23 rfl (by kernel_rfl) ?_)
  | (with_reducible refine wpList_load_blk rfl 26 (.tmp 6) rfl rk 6 rfl B1 [.int .u64 r.ka, .int .u64 r.kb] rfl _ Tryz.underlying26 rfl (by kernel_rfl) ?_)
  | (with_reducible refine wpList_load_blk rfl 28 (.tmp 10) rfl rk 9 rfl B1 [.int .i64 r.a, .int .i64 r.b, .int .i64 r.c, .int .i64 r.d] rfl _ Tryz.underlying28 rfl (by kernel_rfl) ?_)
  | (with_reducible refine wpList_store_blk rfl rfl 30 (.tmp 4) (.tmp 14) rfl (rk + 1 + 1) 0 rfl B3 [.bool wd, .int .i64 sl, .int .i64 gn, .int .u64 r.ka, .int .u64 r.kb, .int .i64 r.np, .int .i64 r.a, .int .i64 r.b, .int .i64 r.c, .int .i64 r.d, .int .i64 r.G] rfl (Nat.le_of_ble_eq_true (by kernel_rfl)) (by kernel_rfl) rfl ?_; intro w4 hB4 hc4 hz4))
 replace hb0 := below_chg hb0 hc4 (fun y hy e => by have e2 : y = rk + 1 + 1 := e; omega) (by omega)
 refine bodyPost_ret (v := .agg #[.bool wd, .int .i64 sl, .int .i64 gn, .int .u64 r.ka, .int .u64 r.kb, .int .i64 r.np, .int .i64 r.a, .int .i64 r.b, .int .i64 r.c, .int .i64 r.d, .int .i64 r.G]) (results_cell rfl rfl (loadVar_blk 30 hB4 [.bool wd, .int .i64 sl, .int .i64 gn, .int .u64 r.ka, .int .u64 r.kb, .int .i64 r.np, .int .i64 r.a, .int .i64 r.b, .int .i64 r.c, .int .i64 r.d, .int .i64 r.G] rfl _ Tryz.underlying30 rfl (by kernel_rfl))) rfl ?_
 exact ⟨rfl, by rw [hrk]; exact hb0⟩
theorem dkr_right1 (r : KRule) (w : World) : Calls Tryz.prog 7 #[.agg r.l1.toArray] w fun e w' => e = .returned (.bool (ruleOk r.r1)) ∧ Below w.heap.size w w' := ref20_right r.r1 w
theorem dkr_right2 (r : KRule) (w : World) : Calls Tryz.prog 7 #[.agg r.l2.toArray] w fun e w' => e = .returned (.bool (ruleOk r.r2)) ∧ Below w.heap.size w w' := ref20_right r.r2 w
set_option maxRecDepth 100000 in
set_option maxHeartbeats 8000000 in
theorem dkr_right_no (nw ww : Bool) (ns ng ws wg ka kb np a b c d G : Int) (h : nw = true ∨ ww = false) (w : World) : Calls Tryz.prog 34 #[.agg #[.bool nw, .int .i64 ns, .int .i64 ng, .bool ww, .int .i64 ws, .int .i64 wg, .int .u64 ka, .int .u64 kb, .int .i64 np, .int .i64 a, .int .i64 b, .int .i64 c, .int .i64 d, .int .i64 G]] w fun e w' => e = .returned (.bool false) ∧ Below w.heap.size w w' := by
 cases hn : nw
 ·
  obtain rfl : ww = false := by rcases h with h | h <;> simp_all
  subst hn
  have B1 := Blk.new w 70 #[.bool false, .int .i64 ns, .int .i64 ng, .bool false, .int .i64 ws, .int .i64 wg, .int .u64 ka, .int .u64 kb, .int .i64 np, .int .i64 a, .int .i64 b, .int .i64 c, .int .i64 d, .int .i64 G]
  have hb0 : Below w.heap.size w (w.alloc (.cells #[.bool false, .int .i64 ns, .int .i64 ng, .bool false, .int .i64 ws, .int .i64 wg, .int .u64 ka, .int .u64 kb, .int .i64 np, .int .i64 a, .int .i64 b, .int .i64 c, .int .i64 d, .int .i64 G] 70)) := below_alloc (Below.refl _ _) _
  go_enter Tryz.func34, Tryz.ntmps34
  go_upto_region 1 with fail
  change Code.wp _ _ _ _ (w.alloc (.cells #[.bool false, .int .i64 ns, .int .i64 ng, .bool false, .int .i64 ws, .int .i64 wg, .int .u64 ka, .int .u64 kb, .int .i64 np, .int .i64 a, .int .i64 b, .int .i64 c, .int .i64 d, .int .i64 G] 70))
  generalize w.alloc (.cells #[.bool false, .int .i64 ns, .int .i64 ng, .bool false, .int .i64 ws, .int .i64 wg, .int .u64 ka, .int .u64 kb, .int .i64 np, .int .i64 a, .int .i64 b, .int .i64 c, .int .i64 d, .int .i64 G] 70) = w1 at *
  obtain ⟨rk, hrk⟩ : ∃ r, w.heap.size = r := ⟨_, rfl⟩
  rw [hrk] at B1 hb0
  try rw [hrk]
  have hz := B1.lt
  have c0 : w1.cell? ⟨rk, 0, none⟩ = some (.bool false) := B1.cell 0
  have c1 : w1.cell? ⟨rk, 1, none⟩ = some (.int .i64 ns) := B1.cell 1
  have c2 : w1.cell? ⟨rk, 2, none⟩ = some (.int .i64 ng) := B1.cell 2
  have c3 : w1.cell? ⟨rk, 3, none⟩ = some (.bool false) := B1.cell 3
  have c4 : w1.cell? ⟨rk, 4, none⟩ = some (.int .i64 ws) := B1.cell 4
  have c5 : w1.cell? ⟨rk, 5, none⟩ = some (.int .i64 wg) := B1.cell 5
  have c6 : w1.cell? ⟨rk, 6, none⟩ = some (.int .u64 ka) := B1.cell 6
  have c7 : w1.cell? ⟨rk, 7, none⟩ = some (.int .u64 kb) := B1.cell 7
  have c8 : w1.cell? ⟨rk, 8, none⟩ = some (.int .i64 np) := B1.cell 8
  have c9 : w1.cell? ⟨rk, 9, none⟩ = some (.int .i64 a) := B1.cell 9
  have c10 : w1.cell? ⟨rk, 10, none⟩ = some (.int .i64 b) := B1.cell 10
  have c11 : w1.cell? ⟨rk, 11, none⟩ = some (.int .i64 c) := B1.cell 11
  have c12 : w1.cell? ⟨rk, 12, none⟩ = some (.int .i64 d) := B1.cell 12
  have c13 : w1.cell? ⟨rk, 13, none⟩ = some (.int .i64 G) := B1.cell 13
  go_wp2_with fail
  go_ret
  exact ⟨rfl, by (try rw [hrk]); exact hb0⟩
 ·
  subst hn
  clear h
  have B1 := Blk.new w 70 #[.bool true, .int .i64 ns, .int .i64 ng, .bool ww, .int .i64 ws, .int .i64 wg, .int .u64 ka, .int .u64 kb, .int .i64 np, .int .i64 a, .int .i64 b, .int .i64 c, .int .i64 d, .int .i64 G]
  have hb0 : Below w.heap.size w (w.alloc (.cells #[.bool true, .int .i64 ns, .int .i64 ng, .bool ww, .int .i64 ws, .int .i64 wg, .int .u64 ka, .int .u64 kb, .int .i64 np, .int .i64 a, .int .i64 b, .int .i64 c, .int .i64 d, .int .i64 G] 70)) := below_alloc (Below.refl _ _) _
  go_enter Tryz.func34, Tryz.ntmps34
  go_upto_region 1 with fail
  change Code.wp _ _ _ _ (w.alloc (.cells #[.bool true, .int .i64 ns, .int .i64 ng, .bool ww, .int .i64 ws, .int .i64 wg, .int .u64 ka, .int .u64 kb, .int .i64 np, .int .i64 a, .int .i64 b, .int .i64 c, .int .i64 d, .int .i64 G] 70))
  generalize w.alloc (.cells #[.bool true, .int .i64 ns, .int .i64 ng, .bool ww, .int .i64 ws, .int .i64 wg, .int .u64 ka, .int .u64 kb, .int .i64 np, .int .i64 a, .int .i64 b, .int .i64 c, .int .i64 d, .int .i64 G] 70) = w1 at *
  obtain ⟨rk, hrk⟩ : ∃ r, w.heap.size = r := ⟨_, rfl⟩
  rw [hrk] at B1 hb0
  try rw [hrk]
  have hz := B1.lt
  have c0 : w1.cell? ⟨rk, 0, none⟩ = some (.bool true) := B1.cell 0
  have c1 : w1.cell? ⟨rk, 1, none⟩ = some (.int .i64 ns) := B1.cell 1
  have c2 : w1.cell? ⟨rk, 2, none⟩ = some (.int .i64 ng) := B1.cell 2
  have c3 : w1.cell? ⟨rk, 3, none⟩ = some (.bool ww) := B1.cell 3
  have c4 : w1.cell? ⟨rk, 4, none⟩ = some (.int .i64 ws) := B1.cell 4
  have c5 : w1.cell? ⟨rk, 5, none⟩ = some (.int .i64 wg) := B1.cell 5
  have c6 : w1.cell? ⟨rk, 6, none⟩ = some (.int .u64 ka) := B1.cell 6
  have c7 : w1.cell? ⟨rk, 7, none⟩ = some (.int .u64 kb) := B1.cell 7
  have c8 : w1.cell? ⟨rk, 8, none⟩ = some (.int .i64 np) := B1.cell 8
  have c9 : w1.cell? ⟨rk, 9, none⟩ = some (.int .i64 a) := B1.cell 9
  have c10 : w1.cell? ⟨rk, 10, none⟩ = some (.int .i64 b) := B1.cell 10
  have c11 : w1.cell? ⟨rk, 11, none⟩ = some (.int .i64 c) := B1.cell 11
  have c12 : w1.cell? ⟨rk, 12, none⟩ = some (.int .i64 d) := B1.cell 12
  have c13 : w1.cell? ⟨rk, 13, none⟩ = some (.int .i64 G) := B1.cell 13
  go_wp2_with fail
  go_ret
  exact ⟨rfl, by (try rw [hrk]); exact hb0⟩
set_option maxRecDepth 100000 in
set_option maxHeartbeats 8000000 in
theorem dkr_right_yes (ns ng ws wg ka kb np a b c d G : Int) (o1 o2 : Bool) (w : World) (T1 : Hid (∀ W, Calls Tryz.prog 100 #[.agg #[.bool false, .int .i64 ns, .int .i64 ng, .bool true, .int .i64 ws, .int .i64 wg, .int .u64 ka, .int .u64 kb, .int .i64 np, .int .i64 a, .int .i64 b, .int .i64 c, .int .i64 d, .int .i64 G], .agg #[.bool false, .int .i64 ns, .int .i64 ng]] W fun e w' => e = .returned (.agg #[.bool false, .int .i64 ns, .int .i64 ng, .int .u64 ka, .int .u64 kb, .int .i64 np, .int .i64 a, .int .i64 b, .int .i64 c, .int .i64 d, .int .i64 G]) ∧ Below W.heap.size W w'))
  (T2 : Hid (∀ W, Calls Tryz.prog 100 #[.agg #[.bool false, .int .i64 ns, .int .i64 ng, .bool true, .int .i64 ws, .int .i64 wg, .int .u64 ka, .int .u64 kb, .int .i64 np, .int .i64 a, .int .i64 b, .int .i64 c, .int .i64 d, .int .i64 G], .agg #[.bool true, .int .i64 ws, .int .i64 wg]] W fun e w' => e = .returned (.agg #[.bool true, .int .i64 ws, .int .i64 wg, .int .u64 ka, .int .u64 kb, .int .i64 np, .int .i64 a, .int .i64 b, .int .i64 c, .int .i64 d, .int .i64 G]) ∧ Below W.heap.size W w'))
  (R1 : Hid (∀ W, Calls Tryz.prog 7 #[.agg #[.bool false, .int .i64 ns, .int .i64 ng, .int .u64 ka, .int .u64 kb, .int .i64 np, .int .i64 a, .int .i64 b, .int .i64 c, .int .i64 d, .int .i64 G]] W fun e w' => e = .returned (.bool o1) ∧ Below W.heap.size W w'))
  (R2 : Hid (∀ W, Calls Tryz.prog 7 #[.agg #[.bool true, .int .i64 ws, .int .i64 wg, .int .u64 ka, .int .u64 kb, .int .i64 np, .int .i64 a, .int .i64 b, .int .i64 c, .int .i64 d, .int .i64 G]] W fun e w' => e = .returned (.bool o2) ∧ Below W.heap.size W w')) :
  Calls Tryz.prog 34 #[.agg #[.bool false, .int .i64 ns, .int .i64 ng, .bool true, .int .i64 ws, .int .i64 wg, .int .u64 ka, .int .u64 kb, .int .i64 np, .int .i64 a, .int .i64 b, .int .i64 c, .int .i64 d, .int .i64 G]] w fun e w' => e = .returned (.bool (o1 && o2)) ∧ Below w.heap.size w w' := by
 have B1 := Blk.new w 70 #[.bool false, .int .i64 ns, .int .i64 ng, .bool true, .int .i64 ws, .int .i64 wg, .int .u64 ka, .int .u64 kb, .int .i64 np, .int .i64 a, .int .i64 b, .int .i64 c, .int .i64 d, .int .i64 G]
 have hb0 : Below w.heap.size w (w.alloc (.cells #[.bool false, .int .i64 ns, .int .i64 ng, .bool true, .int .i64 ws, .int .i64 wg, .int .u64 ka, .int .u64 kb, .int .i64 np, .int .i64 a, .int .i64 b, .int .i64 c, .int .i64 d, .int .i64 G] 70)) := below_alloc (Below.refl _ _) _
 go_enter Tryz.func34, Tryz.ntmps34
 go_upto_region 1 with fail
 change Code.wp _ _ _ _ (w.alloc (.cells #[.bool false, .int .i64 ns, .int .i64 ng, .bool true, .int .i64 ws, .int .i64 wg, .int .u64 ka, .int .u64 kb, .int .i64 np, .int .i64 a, .int .i64 b, .int .i64 c, .int .i64 d, .int .i64 G] 70))
 generalize w.alloc (.cells #[.bool false, .int .i64 ns, .int .i64 ng, .bool true, .int .i64 ws, .int .i64 wg, .int .u64 ka, .int .u64 kb, .int .i64 np, .int .i64 a, .int .i64 b, .int .i64 c, .int .i64 d, .int .i64 G] 70) = w1 at *
 obtain ⟨rk, hrk⟩ : ∃ r, w.heap.size = r := ⟨_, rfl⟩
 rw [hrk] at B1 hb0
 try rw [hrk]
 have hz := B1.lt
 have c0 : w1.cell? ⟨rk, 0, none⟩ = some (.bool false) := B1.cell 0
 have c1 : w1.cell? ⟨rk, 1, none⟩ = some (.int .i64 ns) := B1.cell 1
 have c2 : w1.cell? ⟨rk, 2, none⟩ = some (.int .i64 ng) := B1.cell 2
 have c3 : w1.cell? ⟨rk, 3, none⟩ = some (.bool true) := B1.cell 3
 have c4 : w1.cell? ⟨rk, 4, none⟩ = some (.int .i64 ws) := B1.cell 4
 have c5 : w1.cell? ⟨rk, 5, none⟩ = some (.int .i64 wg) := B1.cell 5
 have c6 : w1.cell? ⟨rk, 6, none⟩ = some (.int .u64 ka) := B1.cell 6
 have c7 : w1.cell? ⟨rk, 7, none⟩ = some (.int .u64 kb) := B1.cell 7
 have c8 : w1.cell? ⟨rk, 8, none⟩ = some (.int .i64 np) := B1.cell 8
 have c9 : w1.cell? ⟨rk, 9, none⟩ = some (.int .i64 a) := B1.cell 9
 have c10 : w1.cell? ⟨rk, 10, none⟩ = some (.int .i64 b) := B1.cell 10
 have c11 : w1.cell? ⟨rk, 11, none⟩ = some (.int .i64 c) := B1.cell 11
 have c12 : w1.cell? ⟨rk, 12, none⟩ = some (.int .i64 d) := B1.cell 12
 have c13 : w1.cell? ⟨rk, 13, none⟩ = some (.int .i64 G) := B1.cell 13
 have HB := Lib.hid fun W (hb : Below w1.heap.size w1 W) => B1.call hb
 cases o1
 ·
  go_wp2_with (first
   | (go_at_call 100; (with_reducible refine (T1.out _).mono ?_); rintro e w2 ⟨rfl, hb2⟩)
   | (go_at_call 7; (with_reducible refine (R1.out _).mono ?_); rintro e w3 ⟨rfl, hb3⟩))
  go_ret
  exact ⟨rfl, by (try rw [hrk]); exact below_call2 (below_chain hb3 hb2) hb0 (by omega)⟩
 ·
  cases o2
  ·
   go_wp2_with (first
    | (go_at_call 100; (with_reducible refine (T1.out _).mono ?_); rintro e w2 ⟨rfl, hb2⟩)
    | (go_at_call 7; (with_reducible refine (R1.out _).mono ?_); rintro e w3 ⟨rfl, hb3⟩; have hb3' := below_chain hb3 hb2; replace B1 := HB.out _ hb3'; clear c0 c1 c2 c3 c4 c5 c6 c7 c8 c9 c10 c11 c12 c13; have c0 : w3.cell? ⟨rk, 0, none⟩ = some (.bool false) := B1.cell 0; have c1 : w3.cell? ⟨rk, 1, none⟩ = some (.int .i64 ns) := B1.cell 1; have c2 : w3.cell? ⟨rk, 2, none⟩ = some (.int .i64 ng) := B1.cell 2; have c3 : w3.cell? ⟨rk, 3, none⟩ = some (.bool true) := B1.cell 3; have c4 : w3.cell? ⟨rk, 4, none⟩ = some (.int .i64 ws) := B1.cell 4; have c5 : w3.cell? ⟨rk, 5, none⟩ = some (.int .i64 wg) := B1.cell 5; have c6 : w3.cell? ⟨rk, 6, none⟩ = some (.int .u64 ka) := B1.cell 6; have c7 : w3.cell? ⟨rk, 7, none⟩ = some (.int .u64 kb) := B1.cell 7; have c8 : w3.cell? ⟨rk, 8, none⟩ = some (.int .i64 np) := B1.cell 8; have c9 : w3.cell? ⟨rk, 9, none⟩ = some (.int .i64 a) := B1.cell 9; have c10 : w3.cell? ⟨rk, 10, none⟩ = some (.int .i64 b) := B1.cell 10; have c11 : w3.cell? ⟨rk, 11, none⟩ = some (.int .i64 c) := B1.cell 11; have c12 : w3.cell? ⟨rk, 12, none⟩ = some (.int .i64 d) := B1.cell 12; have c13 : w3.cell? ⟨rk, 13, none⟩ = some (.int .i64 G) := B1.cell 13)
    | (go_at_call 100; (with_reducible refine (T2.out _).mono ?_); rintro e w4 ⟨rfl, hb4⟩)
    | (go_at_call 7; (with_reducible refine (R2.out _).mono ?_); rintro e w5 ⟨rfl, hb5⟩))
   go_ret
   exact ⟨rfl, by (try rw [hrk]); exact below_call2 (below_chain hb5 (below_chain hb4 hb3')) hb0 (by omega)⟩
  ·
   go_wp2_with (first
    | (go_at_call 100; (with_reducible refine (T1.out _).mono ?_); rintro e w2 ⟨rfl, hb2⟩)
    | (go_at_call 7; (with_reducible refine (R1.out _).mono ?_); rintro e w3 ⟨rfl, hb3⟩; have hb3' := below_chain hb3 hb2; replace B1 := HB.out _ hb3'; clear c0 c1 c2 c3 c4 c5 c6 c7 c8 c9 c10 c11 c12 c13; have c0 : w3.cell? ⟨rk, 0, none⟩ = some (.bool false) := B1.cell 0; have c1 : w3.cell? ⟨rk, 1, none⟩ = some (.int .i64 ns) := B1.cell 1; have c2 : w3.cell? ⟨rk, 2, none⟩ = some (.int .i64 ng) := B1.cell 2; have c3 : w3.cell? ⟨rk, 3, none⟩ = some (.bool true) := B1.cell 3; have c4 : w3.cell? ⟨rk, 4, none⟩ = some (.int .i64 ws) := B1.cell 4; have c5 : w3.cell? ⟨rk, 5, none⟩ = some (.int .i64 wg) := B1.cell 5; have c6 : w3.cell? ⟨rk, 6, none⟩ = some (.int .u64 ka) := B1.cell 6; have c7 : w3.cell? ⟨rk, 7, none⟩ = some (.int .u64 kb) := B1.cell 7; have c8 : w3.cell? ⟨rk, 8, none⟩ = some (.int .i64 np) := B1.cell 8; have c9 : w3.cell? ⟨rk, 9, none⟩ = some (.int .i64 a) := B1.cell 9; have c10 : w3.cell? ⟨rk, 10, none⟩ = some (.int .i64 b) := B1.cell 10; have c11 : w3.cell? ⟨rk, 11, none⟩ = some (.int .i64 c) := B1.cell 11; have c12 : w3.cell? ⟨rk, 12, none⟩ = some (.int .i64 d) := B1.cell 12; have c13 : w3.cell? ⟨rk, 13, none⟩ = some (.int .i64 G) := B1.cell 13)
    | (go_at_call 100; (with_reducible refine (T2.out _).mono ?_); rintro e w4 ⟨rfl, hb4⟩)
    | (go_at_call 7; (with_reducible refine (R2.out _).mono ?_); rintro e w5 ⟨rfl, hb5⟩))
   go_ret
   exact ⟨rfl, by (try rw [hrk]); exact below_call2 (below_chain hb5 (below_chain hb4 hb3')) hb0 (by omega)⟩
theorem dkeep_right (r : KRule) (w : World) : Calls Tryz.prog 34 #[r.val] w fun e w' => e = .returned (.bool (kruleOk r)) ∧ Below w.heap.size w w' := by
 have T1 := Lib.hid fun W => ref33_tables r r.nw r.ns r.ng W
 have T2 := Lib.hid fun W => ref33_tables r r.ww r.ws r.wg W
 have R1 := Lib.hid fun W => dkr_right1 r W
 have R2 := Lib.hid fun W => dkr_right2 r W
 have hfin : kruleOk r = (!r.nw && (r.ww && (ruleOk r.r1 && ruleOk r.r2))) := by
  unfold kruleOk
  cases r.nw <;> cases r.ww <;> cases ruleOk r.r1 <;> cases ruleOk r.r2 <;> rfl
 rw [hfin]
 generalize ruleOk r.r1 = o1 at *
 generalize ruleOk r.r2 = o2 at *
 clear hfin
 obtain ⟨nw, ns, ng, ww, ws, wg, ka, kb, np, a, b, c, d, G⟩ := r
 cases nw
 ·
  cases ww
  · exact dkr_right_no false false ns ng ws wg ka kb np a b c d G (.inr rfl) w
  · exact dkr_right_yes ns ng ws wg ka kb np a b c d G o1 o2 w T1 T2 R1 R2
 · exact dkr_right_no true ww ns ng ws wg ka kb np a b c d G (.inl rfl) w
set_option maxRecDepth 100000 in
theorem ref33_small (r : KRule) (w : World) : Calls Tryz.prog 35 #[r.val] w fun e w' => e = .returned (.bool (ksmall r)) ∧ Below w.heap.size w w' := by
 have B1 := KrAt.of (Blk.new w 70 r.cells.toArray)
 have hb0 : Below w.heap.size w (w.alloc (.cells r.cells.toArray 70)) := below_alloc (Below.refl _ _) _
 unfold ksmall
 obtain ⟨z1, h1⟩ : ∃ z, decide (r.ns ≤ 3) = z := ⟨_, rfl⟩
 obtain ⟨z2, h2⟩ : ∃ z, decide (r.ws ≤ 3) = z := ⟨_, rfl⟩
 obtain ⟨z3, h3⟩ : ∃ z, decide (r.np ≤ 4) = z := ⟨_, rfl⟩
 rw [h1, h2, h3]
 go_enter Tryz.func35, Tryz.ntmps35
 go_upto_region 1 with fail
 change Code.wp _ _ _ _ (w.alloc (.cells r.cells.toArray 70))
 generalize w.alloc (.cells r.cells.toArray 70) = w1 at *
 obtain ⟨rk, hrk⟩ : ∃ r, w.heap.size = r := ⟨_, rfl⟩
 rw [hrk] at B1 hb0
 try rw [hrk]
 obtain ⟨c0, c1, c2, c3, c4, c5, c6, c7, c8, c9, c10, c11, c12, c13⟩ := B1
 clear c0 c2 c3 c5 c6 c7 c9 c10 c11 c12 c13
 cases z1 <;> cases z2 <;> cases z3 <;> (go_wp2_with fail; go_ret; exact ⟨rfl, by rw [hrk]; exact hb0⟩)
end Go.Proofs.YteklkljndchjiaaGreat
namespace Go.Proofs.YteklkljndchjiaaGreat
open Go Go.RowKit Go.Deep Go.Maps Go.ChangeMaps
section
variable {w w' : World} {X F : Nat → Prop} {k : KPtr} {r : KRule} {s : KSt}
theorem keep_touch_results (F : Array Value) (q : Nat) (x : Slt) (o : Bool) (W : World) (h8 : F[8]? = some (.pointer (some ⟨q, 0, none⟩))) (h9 : F[9]? = some (.bool o)) (hE : EntAt q x W) : Sem.run Tryz.prog (results Tryz.f48 F) W = .ok (.tuple #[x.val, .bool o]) W := by
 obtain ⟨r0, r1, r2, r3, r4, r5, r6, r7, r8, r9, r10, r11, r12, r13⟩ := hE
 simp [results, Tryz.results48, go_sem, h8, h9, r0, r1, r2, r3, r4, r5, r6, r7, r8, r9, r10, r11, r12, r13]
set_option maxRecDepth 100000 in
set_option maxHeartbeats 8000000 in
theorem keep_touch (hI : KI r s) (h : keepOb k r s w X) (t : Tup) (_ht : tupWf t) (n : Nat) (hn64 : n < 18446744073709551616) (fl : Int) :
  Calls Tryz.prog 48 #[ptr0 k.g, t.val, .int .u64 (n : Int), .int .i64 fl] w fun e w' => e = .returned (.tuple #[(kTouchV r s t n fl).val, .bool (kTouchO r s t n)]) ∧ (keepOb k r (kTouch r s t n fl)).To w w' X := by
 have hlt := fun y (hy : X y) => keepOb_ok.lt h hy
 obtain ⟨b, hb⟩ : ∃ b, isT t = b := ⟨_, rfl⟩
 have hbp : (t.p == 6) = b := hb
 obtain ⟨hnp, hp1, hp16⟩ := kruleOk_rng hI.ok
 have hti := hI.lk b
 have hR : (r.rb b).cfg.right := rule_right (kruleOk_b hI.ok b)
 obtain ⟨s1, hs1⟩ : ∃ s1 : KSt, { s with S := kUpd r s t (touchSC (r.rb (isT t)) (r.n (isT t)) (kPt r s t) t n fl) } = s1 := ⟨_, rfl⟩
 have hM1 : s1.M = s.M := by rw [← hs1]
 have hfin : kTouch r s t n fl = if (kTouchO r s t n && (kTouchV r s t n fl).st == 4) = true then { s1 with M := lmAdd s.M (kTouchV r s t n fl).bk (-1) } else s1 := by
  rw [← hs1]
  unfold kTouch
  split <;> rfl
 have hbk : (kTouchO r s t n && (kTouchV r s t n fl).st == 4) = true → (Lit.int .i64 (kTouchV r s t n fl).bk).wf = true := fun h0 => hI.touch_bk h0
 have hpos : lmPos s1.M := by rw [hM1]; exact hI.ld.pos
 have hml : s1.M.length ≤ 131072 := by rw [hM1]; exact hI.mlen
 have B1 := (Blk.new w 47 t.cells.toArray).alloc (.cells #[.int .i64 0, .bool false, .int .u64 0, .int .u64 0, .bool false, .int .u64 0, .int .u64 0, .int .i64 0, .int .i64 0, .int .i64 0, .int .i64 0, .int .i64 0, .int .u64 0, .int .i64 0] 52)
 have B2 : Blk ((w.alloc (.cells t.cells.toArray 47)).alloc (.cells #[.int .i64 0, .bool false, .int .u64 0, .int .u64 0, .bool false, .int .u64 0, .int .u64 0, .int .i64 0, .int .i64 0, .int .i64 0, .int .i64 0, .int .i64 0, .int .u64 0, .int .i64 0] 52)) (w.alloc (.cells t.cells.toArray 47)).heap.size 52 slt0.entA := Blk.new (w.alloc (.cells t.cells.toArray 47)) 52 slt0.entA
 have hb0 : Below w.heap.size w ((w.alloc (.cells t.cells.toArray 47)).alloc (.cells #[.int .i64 0, .bool false, .int .u64 0, .int .u64 0, .bool false, .int .u64 0, .int .u64 0, .int .i64 0, .int .i64 0, .int .i64 0, .int .i64 0, .int .i64 0, .int .u64 0, .int .i64 0] 52)) := below_alloc (below_alloc (Below.refl _ _) _) _
 rw [World.size_alloc] at B2
 have h1 := keepOb_ok.call h hb0
 have OP0 := fun (W : World) (hbW : Below ((w.alloc (.cells t.cells.toArray 47)).alloc (.cells #[.int .i64 0, .bool false, .int .u64 0, .int .u64 0, .bool false, .int .u64 0, .int .u64 0, .int .i64 0, .int .i64 0, .int .i64 0, .int .i64 0, .int .i64 0, .int .u64 0, .int .i64 0] 52)).heap.size ((w.alloc (.cells t.cells.toArray 47)).alloc (.cells #[.int .i64 0, .bool false, .int .u64 0, .int .u64 0, .bool false, .int .u64 0, .int .u64 0, .int .i64 0, .int .i64 0, .int .i64 0, .int .i64 0, .int .i64 0, .int .u64 0, .int .i64 0] 52)) W) => show Calls Tryz.prog 19 #[ptr0 (k.gb b), t.val, .int .u64 (n : Int), .int .i64 fl] W fun e w' => e = .returned (.tuple #[(kTouchV r s t n fl).val, .bool (kTouchO r s t n)]) ∧ (keepOb k r s1).To W w' X from by
  obtain ⟨X1, k1, -, k2⟩ := keep_tab b (keepOb_ok.call h1 hbW)
  rw [← hs1]
  subst hb
  refine (tabs_touch k1 hti.ti hR t n hn64 fl).mono ?_
  rintro e w' ⟨rfl, hT⟩
  exact ⟨rfl, k2 _ _ hT⟩
 rw [hfin]
 obtain ⟨ov, hov⟩ : ∃ v, kTouchV r s t n fl = v := ⟨_, rfl⟩
 obtain ⟨oo, hoo⟩ : ∃ v, kTouchO r s t n = v := ⟨_, rfl⟩
 rw [hov, hoo] at OP0 hbk
 rw [hov, hoo]
 rw [← hM1]
 clear hM1 hfin hov hoo hs1 hti hR h hnp hp1 hp16 hI
 go_enter Tryz.func48, Tryz.ntmps48
 go_upto_region 1 with fail
 change Code.wp _ _ _ _ ((w.alloc (.cells t.cells.toArray 47)).alloc (.cells #[.int .i64 0, .bool false, .int .u64 0, .int .u64 0, .bool false, .int .u64 0, .int .u64 0, .int .i64 0, .int .i64 0, .int .i64 0, .int .i64 0, .int .i64 0, .int .u64 0, .int .i64 0] 52))
 have hw1 : ((w.alloc (.cells t.cells.toArray 47)).alloc (.cells #[.int .i64 0, .bool false, .int .u64 0, .int .u64 0, .bool false, .int .u64 0, .int .u64 0, .int .i64 0, .int .i64 0, .int .i64 0, .int .i64 0, .int .i64 0, .int .u64 0, .int .i64 0] 52)).heap.size = w.heap.size + 2 := by rw [World.size_alloc, World.size_alloc]
 generalize (w.alloc (.cells t.cells.toArray 47)).alloc (.cells #[.int .i64 0, .bool false, .int .u64 0, .int .u64 0, .bool false, .int .u64 0, .int .u64 0, .int .i64 0, .int .i64 0, .int .i64 0, .int .i64 0, .int .i64 0, .int .u64 0, .int .i64 0] 52) = w1 at *
 obtain ⟨rt, hrt⟩ : ∃ rt, w.heap.size = rt := ⟨_, rfl⟩
 rw [hrt] at B1 B2 hw1
 try rw [hrt]
 have hXrt : ∀ y, X y → y < rt := fun y hy => by have := hlt y hy; omega
 have OF := Lib.hid fun (W : World) (hbW : Below w1.heap.size w1 W) => show Calls Tryz.prog 103 #[ptr0 k.g, .int .i64 t.p] W fun e w' => e = .returned (ptr0 (k.gb b)) ∧ Below W.heap.size W w' from by
  have := keep_of (keepOb_ok.call h1 hbW) t.p
  rwa [hbp] at this
 have OP := Lib.hid OP0
 clear OP0
 have hS1 : TupAt rt t w1.drew := TupAt.of B1
 have FIN : ∀ (q : Nat) (W w3 wX : World), Below w1.heap.size w1 W → (keepOb k r s1).To W w3 X → (∃ F : Nat → Prop, Chg F w3 wX ∧ ∀ y, ¬ F y) → w1.heap.size ≤ q → (q < W.heap.size ∨ w3.heap.size ≤ q) → Blk wX q 52 slt0.entA →
   rt + 1 < q ∧ Blk (setEnt wX q ov) q 52 ov.entA ∧ Blk (setEnt wX q ov) (rt + 1) 52 slt0.entA ∧ ∃ X', keepOb k r s1 (setEnt wX q ov) X' ∧ Chg X w (setEnt wX q ov) ∧ (∀ y, X' y → X y ∨ w.heap.size ≤ y) ∧ ¬ X' (rt + 1) ∧ ¬ X' q :=
  fun q W w3 wX hb hT hF hq1 hq2 hB => keepy_fin keepOb_ok hb0 hlt hrt (by omega) B2 hb hT hF hq1 hq2 hB ov
 replace FIN := Lib.hid FIN
 have hYr : ¬ X rt := fun e => by have := hXrt _ e; omega
 have hYq : ∀ q, w1.heap.size ≤ q → ¬ X q := fun q hq e => by have := hXrt _ e; omega
 replace hbk := Lib.hid hbk
 replace hpos := Lib.hid hpos
 clear B1 B2 hlt h1
 go_cut [10, 11] from 12 to 23 (fun x10 x11 wx => ∃ q, x10 = .pointer (some ⟨q, 0, none⟩) ∧ x11 = .bool oo ∧ rt + 1 < q ∧ Blk wx q 52 ov.entA ∧ Blk wx (rt + 1) 52 slt0.entA ∧ ∃ X', keepOb k r s1 wx X' ∧ Chg X w wx ∧ (∀ y, X' y → X y ∨ w.heap.size ≤ y) ∧ ¬ X' (rt + 1) ∧ ¬ X' q)
 case first =>
  as_aux_lemma =>
  refine wp_region_held_drew (S := TupAt rt t) (by kernel_rfl) hS1 (fun hHeld => ?_)
  have hd : Below w1.heap.size w1 w1.drew := (Below.refl _ _).drew
  have hzd : w1.drew.heap.size = w1.heap.size := rfl
  generalize w1.drew = wd at *
  replace hzd := Lib.hid hzd
  refine' tk 0 rfl rfl ?_ ?_; rotate_left; · ((intro w hSw; (try dsimp only at hSw); go_simp) <;> with_reducible rfl); try go_frame
  refine' tk 1 rfl rfl ?_ ?_; rotate_left; · ((intro w hSw; (try dsimp only at hSw); go_simp) <;> with_reducible rfl); try go_frame
  refine' tk 2 rfl rfl ?_ ?_; rotate_left; · ((intro w hSw; (try dsimp only at hSw); go_simp) <;> with_reducible rfl); try go_frame
  refine' tk 4 rfl rfl ?_ ?_; rotate_left; · ((intro w hSw; (try dsimp only at hSw); go_simp) <;> with_reducible rfl); try go_frame
  refine' tk 5 rfl rfl ?_ ?_; rotate_left; · ((intro w hSw; (try dsimp only at hSw); go_simp) <;> with_reducible rfl); try go_frame
  refine' tk 6 rfl rfl ?_ ?_; rotate_left; · ((intro w hSw; (try dsimp only at hSw); go_simp) <;> with_reducible rfl); try go_frame
  refine wpAnyH_ready (rs := [3, 11]) (by kernel_rfl) (by simp) ?_; refine consH rfl (fun K hK => ?_) (consH rfl (fun K hK => ?_) AllReadyH.nil)
  ·
   go_simp
   (go_at_call 103; (with_reducible refine (OF.out _ hd).mono ?_))
   rintro e w2 ⟨rfl, hb2⟩
   refine hK.out _ _ (hHeld.call hb2) (fun hHeld => ?_)
   clear hK K
   try go_frame
   refine wpAnyH_ready (rs := [7, 11]) (by kernel_rfl) (by simp) ?_; refine consH rfl (fun K hK => ?_) (consH rfl (fun K hK => ?_) AllReadyH.nil)
   ·
    go_simp
    (go_at_call 19; (with_reducible refine (OP.out _ (below_chain hb2 hd)).mono ?_))
    rintro e w3 ⟨rfl, hT3⟩
    refine hK.out _ _ (hHeld.chg (to_chg hT3) hYr) (fun hHeld => ?_)
    clear hK K
    try go_frame
    refine' tk 8 rfl rfl ?_ ?_; rotate_left; · ((intro w hSw; (try dsimp only at hSw); go_simp) <;> with_reducible rfl); try go_frame
    refine' tk 9 rfl rfl ?_ ?_; rotate_left; · ((intro w hSw; (try dsimp only at hSw); go_simp) <;> with_reducible rfl); try go_frame
    refine' tk 10 rfl rfl ?_ ?_; rotate_left; · ((intro w hSw; (try dsimp only at hSw); go_simp) <;> with_reducible rfl); try go_frame
    refine wpAnyH_ready (rs := [11]) (by kernel_rfl) (by simp) ?_; refine consH rfl (fun K hK => ?_) AllReadyH.nil
    go_simp
    refine hK.out _ _ (hHeld.call (below_alloc (Below.refl _ _) _)) (fun hHeld => ?_)
    clear hK K
    try go_frame
    have hsz := (to_chg hT3).size
    have hsz2 := hb2.size
    refine wpAnyH_ready (rs := [12]) (by kernel_rfl) (by simp) ?_; refine consH rfl (fun K hK => ?_) AllReadyH.nil
    rw [if_pos (by rfl)]
    have BQ : Blk (w3.alloc (.cells #[.int .i64 0, .bool false, .int .u64 0, .int .u64 0, .bool false, .int .u64 0, .int .u64 0, .int .i64 0, .int .i64 0, .int .i64 0, .int .i64 0, .int .i64 0, .int .u64 0, .int .i64 0] 52)) w3.heap.size 52 slt0.entA := Blk.new w3 52 slt0.entA
    with_reducible refine wp_store_eblk (r := w3.heap.size) (z := slt0) (.tmp 10) (.tmp 21) rfl BQ ov rfl rfl ?_
    refine hK.out _ _ (hHeld.chg (setEnt_blk BQ ov).2 (fun e => by have e2 : rt = w3.heap.size := e; have h9 := hzd.out; omega)) (fun hHeld => ?_)
    clear hK K
    try go_frame
    refine' tk 13 rfl rfl ?_ ?_; rotate_left; · ((intro w hSw; (try dsimp only at hSw); go_simp) <;> with_reducible rfl); try go_frame
    refine wpAnyH_done (by kernel_rfl) ?_ _
    go_wp2_with fail
    go_meet
    exact ⟨w3.heap.size, rfl, rfl, FIN.out w3.heap.size w2 w3 _ (below_chain hb2 hd) hT3 ⟨fun _ => False, Chg.of_below (below_alloc (Below.refl _ _) _), fun _ h => h⟩ (by have h9 := hzd.out; omega) (.inr (Nat.le_refl _)) BQ⟩
   ·
    go_simp
    refine hK.out _ _ (hHeld.call (below_alloc (Below.refl _ _) _)) (fun hHeld => ?_)
    clear hK K
    try go_frame
    refine wpAnyH_ready (rs := [7]) (by kernel_rfl) (by simp) ?_; refine consH rfl (fun K hK => ?_) AllReadyH.nil
    go_simp
    (go_at_call 19; (with_reducible refine (OP.out _ (below_chain (below_alloc (Below.refl w2.heap.size w2) (.cells #[.int .i64 0, .bool false, .int .u64 0, .int .u64 0, .bool false, .int .u64 0, .int .u64 0, .int .i64 0, .int .i64 0, .int .i64 0, .int .i64 0, .int .i64 0, .int .u64 0, .int .i64 0] 52)) (below_chain hb2 hd))).mono ?_))
    rintro e w3 ⟨rfl, hT3⟩
    refine hK.out _ _ (hHeld.chg (to_chg hT3) hYr) (fun hHeld => ?_)
    clear hK K
    try go_frame
    refine' tk 8 rfl rfl ?_ ?_; rotate_left; · ((intro w hSw; (try dsimp only at hSw); go_simp) <;> with_reducible rfl); try go_frame
    refine' tk 9 rfl rfl ?_ ?_; rotate_left; · ((intro w hSw; (try dsimp only at hSw); go_simp) <;> with_reducible rfl); try go_frame
    refine' tk 10 rfl rfl ?_ ?_; rotate_left; · ((intro w hSw; (try dsimp only at hSw); go_simp) <;> with_reducible rfl); try go_frame
    have hsz2 := hb2.size
    have hsa : (w2.alloc (.cells #[.int .i64 0, .bool false, .int .u64 0, .int .u64 0, .bool false, .int .u64 0, .int .u64 0, .int .i64 0, .int .i64 0, .int .i64 0, .int .i64 0, .int .i64 0, .int .u64 0, .int .i64 0] 52)).heap.size = w2.heap.size + 1 := World.size_alloc _ _
    refine wpAnyH_ready (rs := [12]) (by kernel_rfl) (by simp) ?_; refine consH rfl (fun K hK => ?_) AllReadyH.nil
    rw [if_pos (by rfl)]
    have BQ : Blk w3 w2.heap.size 52 slt0.entA := (Blk.new w2 52 slt0.entA).chg (to_chg hT3) (hYq _ (by have h9 := hzd.out; omega))
    with_reducible refine wp_store_eblk (r := w2.heap.size) (z := slt0) (.tmp 10) (.tmp 21) rfl BQ ov rfl rfl ?_
    refine hK.out _ _ (hHeld.chg (setEnt_blk BQ ov).2 (fun e => by have e2 : rt = w2.heap.size := e; have h9 := hzd.out; omega)) (fun hHeld => ?_)
    clear hK K
    try go_frame
    refine' tk 13 rfl rfl ?_ ?_; rotate_left; · ((intro w hSw; (try dsimp only at hSw); go_simp) <;> with_reducible rfl); try go_frame
    refine wpAnyH_done (by kernel_rfl) ?_ _
    go_wp2_with fail
    go_meet
    exact ⟨w2.heap.size, rfl, rfl, FIN.out w2.heap.size (w2.alloc (.cells #[.int .i64 0, .bool false, .int .u64 0, .int .u64 0, .bool false, .int .u64 0, .int .u64 0, .int .i64 0, .int .i64 0, .int .i64 0, .int .i64 0, .int .i64 0, .int .u64 0, .int .i64 0] 52)) w3 _ (below_chain (below_alloc (Below.refl w2.heap.size w2) (.cells #[.int .i64 0, .bool false, .int .u64 0, .int .u64 0, .bool false, .int .u64 0, .int .u64 0, .int .i64 0, .int .i64 0, .int .i64 0, .int .i64 0, .int .i64 0, .int .u64 0, .int .i64 0] 52)) (below_chain hb2 hd)) hT3 ⟨fun _ => False, Chg.refl _ _, fun _ h => h⟩ (by have h9 := hzd.out; omega) (.inl (by omega)) BQ⟩
  ·
   go_simp
   refine hK.out _ _ (hHeld.call (below_alloc (Below.refl _ _) _)) (fun hHeld => ?_)
   clear hK K
   try go_frame
   refine wpAnyH_ready (rs := [3]) (by kernel_rfl) (by simp) ?_; refine consH rfl (fun K hK => ?_) AllReadyH.nil
   go_simp
   (go_at_call 103; (with_reducible refine (OF.out _ (below_chain (below_alloc (Below.refl wd.heap.size wd) (.cells #[.int .i64 0, .bool false, .int .u64 0, .int .u64 0, .bool false, .int .u64 0, .int .u64 0, .int .i64 0, .int .i64 0, .int .i64 0, .int .i64 0, .int .i64 0, .int .u64 0, .int .i64 0] 52)) hd)).mono ?_))
   rintro e w2 ⟨rfl, hb2⟩
   refine hK.out _ _ (hHeld.call hb2) (fun hHeld => ?_)
   clear hK K
   try go_frame
   refine wpAnyH_ready (rs := [7]) (by kernel_rfl) (by simp) ?_; refine consH rfl (fun K hK => ?_) AllReadyH.nil
   go_simp
   (go_at_call 19; (with_reducible refine (OP.out _ (below_chain hb2 (below_chain (below_alloc (Below.refl wd.heap.size wd) (.cells #[.int .i64 0, .bool false, .int .u64 0, .int .u64 0, .bool false, .int .u64 0, .int .u64 0, .int .i64 0, .int .i64 0, .int .i64 0, .int .i64 0, .int .i64 0, .int .u64 0, .int .i64 0] 52)) hd))).mono ?_))
   rintro e w3 ⟨rfl, hT3⟩
   refine hK.out _ _ (hHeld.chg (to_chg hT3) hYr) (fun hHeld => ?_)
   clear hK K
   try go_frame
   refine' tk 8 rfl rfl ?_ ?_; rotate_left; · ((intro w hSw; (try dsimp only at hSw); go_simp) <;> with_reducible rfl); try go_frame
   refine' tk 9 rfl rfl ?_ ?_; rotate_left; · ((intro w hSw; (try dsimp only at hSw); go_simp) <;> with_reducible rfl); try go_frame
   refine' tk 10 rfl rfl ?_ ?_; rotate_left; · ((intro w hSw; (try dsimp only at hSw); go_simp) <;> with_reducible rfl); try go_frame
   have hsz2 := hb2.size
   have hsa : (wd.alloc (.cells #[.int .i64 0, .bool false, .int .u64 0, .int .u64 0, .bool false, .int .u64 0, .int .u64 0, .int .i64 0, .int .i64 0, .int .i64 0, .int .i64 0, .int .i64 0, .int .u64 0, .int .i64 0] 52)).heap.size = wd.heap.size + 1 := World.size_alloc _ _
   refine wpAnyH_ready (rs := [12]) (by kernel_rfl) (by simp) ?_; refine consH rfl (fun K hK => ?_) AllReadyH.nil
   rw [if_pos (by rfl)]
   have BQ : Blk w3 wd.heap.size 52 slt0.entA := ((Blk.new wd 52 slt0.entA).call hb2).chg (to_chg hT3) (hYq _ (by have h9 := hzd.out; omega))
   with_reducible refine wp_store_eblk (r := wd.heap.size) (z := slt0) (.tmp 10) (.tmp 21) rfl BQ ov rfl rfl ?_
   refine hK.out _ _ (hHeld.chg (setEnt_blk BQ ov).2 (fun e => by have e2 : rt = wd.heap.size := e; have h9 := hzd.out; omega)) (fun hHeld => ?_)
   clear hK K
   try go_frame
   refine' tk 13 rfl rfl ?_ ?_; rotate_left; · ((intro w hSw; (try dsimp only at hSw); go_simp) <;> with_reducible rfl); try go_frame
   refine wpAnyH_done (by kernel_rfl) ?_ _
   go_wp2_with fail
   go_meet
   exact ⟨wd.heap.size, rfl, rfl, FIN.out wd.heap.size w2 w3 _ (below_chain hb2 (below_chain (below_alloc (Below.refl wd.heap.size wd) (.cells #[.int .i64 0, .bool false, .int .u64 0, .int .u64 0, .bool false, .int .u64 0, .int .u64 0, .int .i64 0, .int .i64 0, .int .i64 0, .int .i64 0, .int .i64 0, .int .u64 0, .int .i64 0] 52)) hd)) hT3 ⟨fun _ => False, Chg.refl _ _, fun _ h => h⟩ (by have h9 := hzd.out; omega) (.inl (by omega)) BQ⟩
 case rest =>
  as_aux_lemma =>
  obtain ⟨q, rfl, rfl, hq, BQ, BR, X', hW', hc, hn, hnr, hnq⟩ := hcut
  clear FIN OP OF hYr hYq hXrt hS1
  have c10 : wc.cell? ⟨q, 10, none⟩ = some (.int .i64 ov.st) := BQ.cell 10
  have c9 : wc.cell? ⟨q, 9, none⟩ = some (.int .i64 ov.bk) := BQ.cell 9
  replace hn := Lib.hid hn
  replace hnr := Lib.hid hnr
  replace hnq := Lib.hid hnq
  by_cases h0 : (oo && ov.st == 4) = true
  ·
   obtain ⟨e1, e2⟩ : oo = true ∧ ov.st = 4 := by simpa using h0
   subst e1
   rw [e2] at c10
   replace e2 := Lib.hid e2
   have hbw := hbk.out h0
   replace h0 := Lib.hid h0
   have hGo := Lib.hid fun (W : World) (hbW : Below wc.heap.size wc W) (A : Option Addr) (d : Nat) (hR : Reads W W.heap.size 14 A [ov].length ([ov].flatMap Slt.ent)) (hA : ∀ ad, A = some ad → wc.heap.size ≤ ad.block) => keep_gone1 (keepOb_ok.call hW' hbW) ov A d hR (fun ad e y => by have := hA ad e; have := keepOb_ok.lt hW' y; omega) hbw hpos.out (by omega)
   replace BQ := Lib.hid BQ
   replace BR := Lib.hid BR
   replace hW' := Lib.hid hW'
   replace hc := Lib.hid hc
   clear c9
   go_upto_region 3 with fail
   have BQc := BQ.out
   go_upto_region 4 with (first
    | (with_reducible refine wpList_load_eblk rfl (.tmp 10) rfl q rfl ov BQc ?_)
    | (with_reducible refine wpList_buildEnt1 rfl (.tmp 30) rfl ov rfl ?_)
    | (go_at_call 106; (with_reducible refine (hGo.out _ (below_alloc (Below.refl _ _) _) _ _ (lits_read _ _ 14 1 52 ov.ent rfl (by rw [World.size_alloc]; omega)) (fun ad e => by injection e with e; subst e; exact Nat.le_refl _)).mono ?_); rintro e w4 ⟨rfl, hT4⟩))
   replace hT4 := Ob.To.below (below_alloc (Below.refl _ _) _) hT4
   obtain ⟨X2, hW2, hc2, hn2⟩ := hT4
   have hz4 := hc2.size
   have BQ4 := BQ.out.chg hc2 hnq.out
   have BR4 := BR.out.chg hc2 hnr.out
   have hlq := BQ.out.lt
   have hlr := BR.out.lt
   have hX2r : ¬ X2 (rt + 1) := fun e => by
    rcases hn2 _ e with e | e
    · exact hnr.out e
    · omega
   replace hW2 := Lib.hid hW2
   replace hc2 := Lib.hid hc2
   replace hn2 := Lib.hid hn2
   have hT4 := Lib.hid fun (wz : World) (hk : Chg (· = rt + 1) w4 wz) => show (keepOb k r { s1 with M := lmAdd s1.M ov.bk (-1) }).To w wz X from
    ⟨X2, keepOb_ok.chg hW2.out hk (fun y hy e => hX2r (by have e3 : y = rt + 1 := e; exact e3 ▸ hy)), (hc.out.trans hc2.out (fun y hy e => by rcases hn.out y e with h | h <;> first | exact h | omega)).trans hk (fun y hy e => by have e3 : y = rt + 1 := e; omega), fun y hy => by
     rcases hn2.out y hy with e | e
     · exact hn.out y e
     · exact .inr (by have := hc.out.size; omega)⟩
   clear hX2r hn2 hc2 hW2 hW' hc hn hnr hnq BQ BR
   go_wp2_with (first
    | (with_reducible refine wpList_load_eblk rfl (.tmp 10) rfl q rfl ov BQ4 ?_)
    | (with_reducible refine wpList_store_eblk (r := rt + 1) (z := slt0) rfl rfl (.tmp 8) (.tmp 33) rfl BR4 ov rfl rfl ?_))
   obtain ⟨e1, e2⟩ := setEnt_blk BR4 ov
   change bodyPost _ _ _ _ _ (setEnt w4 (rt + 1) ov)
   generalize setEnt w4 (rt + 1) ov = w6 at *
   have hE6 := EntAt.of e1
   refine bodyPost_ret (v := .tuple #[ov.val, .bool true]) (keep_touch_results _ _ _ _ _ rfl rfl hE6) rfl ?_
   exact ⟨rfl, by first | exact hT4.out _ e2 | (rw [if_pos h0.out]; exact hT4.out _ e2)⟩
  ·
   have hcz : (oo = true → (ov.st == 4) = false) := fun e => by
    subst e
    cases e2 : ov.st == 4
    · rfl
    · exact absurd (by rw [e2]; rfl) h0
   replace h0 := Lib.hid h0
   have hT4 := Lib.hid fun (wz : World) (hk : Chg (· = rt + 1) wc wz) => show (keepOb k r s1).To w wz X from
    ⟨X', keepOb_ok.chg hW' hk (fun y hy e => hnr.out (by have e3 : y = rt + 1 := e; exact e3 ▸ hy)), hc.trans hk (fun y hy e => by have e3 : y = rt + 1 := e; omega), hn.out⟩
   clear hW' hc hn hnr hnq c9
   cases oo
   ·
    clear hcz c10
    go_wp2_with (first
     | (with_reducible refine wpList_load_eblk rfl (.tmp 10) rfl q rfl ov BQ ?_)
     | (with_reducible refine wpList_store_eblk (r := rt + 1) (z := slt0) rfl rfl (.tmp 8) (.tmp 33) rfl BR ov rfl rfl ?_))
    obtain ⟨e1, e2⟩ := setEnt_blk BR ov
    change bodyPost _ _ _ _ _ (setEnt wc (rt + 1) ov)
    generalize setEnt wc (rt + 1) ov = w6 at *
    have hE6 := EntAt.of e1
    refine bodyPost_ret (v := .tuple #[ov.val, .bool false]) (keep_touch_results _ _ _ _ _ rfl rfl hE6) rfl ?_
    exact ⟨rfl, by first | exact hT4.out _ e2 | (rw [if_neg h0.out]; exact hT4.out _ e2)⟩
   ·
    replace hcz := hcz rfl
    go_wp2_with (first
     | (with_reducible refine wpList_load_eblk rfl (.tmp 10) rfl q rfl ov BQ ?_)
     | (with_reducible refine wpList_store_eblk (r := rt + 1) (z := slt0) rfl rfl (.tmp 8) (.tmp 33) rfl BR ov rfl rfl ?_))
    obtain ⟨e1, e2⟩ := setEnt_blk BR ov
    change bodyPost _ _ _ _ _ (setEnt wc (rt + 1) ov)
    generalize setEnt wc (rt + 1) ov = w6 at *
    have hE6 := EntAt.of e1
    refine bodyPost_ret (v := .tuple #[ov.val, .bool true]) (keep_touch_results _ _ _ _ _ rfl rfl hE6) rfl ?_
    exact ⟨rfl, by first | exact hT4.out _ e2 | (rw [if_neg h0.out]; exact hT4.out _ e2)⟩
theorem keep_find_results (F : Array Value) (q : Nat) (x : Slt) (o : Bool) (W : World) (h6 : F[6]? = some (.pointer (some ⟨q, 0, none⟩))) (h7 : F[7]? = some (.bool o)) (hE : EntAt q x W) : Sem.run Tryz.prog (results Tryz.f46 F) W = .ok (.tuple #[x.val, .bool o]) W := by
 obtain ⟨r0, r1, r2, r3, r4, r5, r6, r7, r8, r9, r10, r11, r12, r13⟩ := hE
 simp [results, Tryz.results46, go_sem, h6, h7, r0, r1, r2, r3, r4, r5, r6, r7, r8, r9, r10, r11, r12, r13]
set_option maxRecDepth 100000 in
set_option maxHeartbeats 8000000 in
theorem keep_find (hI : KI r s) (h : keepOb k r s w X) (t : Tup) (n : Nat) (hn64 : n < 18446744073709551616) :
  Calls Tryz.prog 46 #[ptr0 k.g, t.val, .int .u64 (n : Int)] w fun e w' => e = .returned (.tuple #[(kFindV r s t n).val, .bool (kFindO r s t n)]) ∧ (keepOb k r (kFind r s t n)).To w w' X := by
 have hlt := fun y (hy : X y) => keepOb_ok.lt h hy
 obtain ⟨b, hb⟩ : ∃ b, isT t = b := ⟨_, rfl⟩
 have hbp : (t.p == 6) = b := hb
 obtain ⟨hnp, hp1, hp16⟩ := kruleOk_rng hI.ok
 have hti := hI.lk b
 have hR : (r.rb b).cfg.right := rule_right (kruleOk_b hI.ok b)
 obtain ⟨s1, hs1⟩ : ∃ s1 : KSt, kFind r s t n = s1 := ⟨_, rfl⟩
 have B1 := (Blk.new w 47 t.cells.toArray).alloc (.cells #[.int .i64 0, .bool false, .int .u64 0, .int .u64 0, .bool false, .int .u64 0, .int .u64 0, .int .i64 0, .int .i64 0, .int .i64 0, .int .i64 0, .int .i64 0, .int .u64 0, .int .i64 0] 52)
 have B2 : Blk ((w.alloc (.cells t.cells.toArray 47)).alloc (.cells #[.int .i64 0, .bool false, .int .u64 0, .int .u64 0, .bool false, .int .u64 0, .int .u64 0, .int .i64 0, .int .i64 0, .int .i64 0, .int .i64 0, .int .i64 0, .int .u64 0, .int .i64 0] 52)) (w.alloc (.cells t.cells.toArray 47)).heap.size 52 slt0.entA := Blk.new (w.alloc (.cells t.cells.toArray 47)) 52 slt0.entA
 have hb0 : Below w.heap.size w ((w.alloc (.cells t.cells.toArray 47)).alloc (.cells #[.int .i64 0, .bool false, .int .u64 0, .int .u64 0, .bool false, .int .u64 0, .int .u64 0, .int .i64 0, .int .i64 0, .int .i64 0, .int .i64 0, .int .i64 0, .int .u64 0, .int .i64 0] 52)) := below_alloc (below_alloc (Below.refl _ _) _) _
 rw [World.size_alloc] at B2
 have h1 := keepOb_ok.call h hb0
 have OP0 := fun (W : World) (hbW : Below ((w.alloc (.cells t.cells.toArray 47)).alloc (.cells #[.int .i64 0, .bool false, .int .u64 0, .int .u64 0, .bool false, .int .u64 0, .int .u64 0, .int .i64 0, .int .i64 0, .int .i64 0, .int .i64 0, .int .i64 0, .int .u64 0, .int .i64 0] 52)).heap.size ((w.alloc (.cells t.cells.toArray 47)).alloc (.cells #[.int .i64 0, .bool false, .int .u64 0, .int .u64 0, .bool false, .int .u64 0, .int .u64 0, .int .i64 0, .int .i64 0, .int .i64 0, .int .i64 0, .int .i64 0, .int .u64 0, .int .i64 0] 52)) W) => show Calls Tryz.prog 17 #[ptr0 (k.gb b), t.val, .int .u64 (n : Int)] W fun e w' => e = .returned (.tuple #[(kFindV r s t n).val, .bool (kFindO r s t n)]) ∧ (keepOb k r s1).To W w' X from by
  obtain ⟨X1, k1, -, k2⟩ := keep_tab b (keepOb_ok.call h1 hbW)
  rw [← hs1]
  subst hb
  refine (tabs_find k1 t n hn64).mono ?_
  rintro e w' ⟨rfl, hT⟩
  exact ⟨rfl, k2 _ _ hT⟩
 rw [hs1]
 obtain ⟨ov, hov⟩ : ∃ v, kFindV r s t n = v := ⟨_, rfl⟩
 obtain ⟨oo, hoo⟩ : ∃ v, kFindO r s t n = v := ⟨_, rfl⟩
 rw [hov, hoo] at OP0
 rw [hov, hoo]
 clear hov hoo hs1 hti hR h hnp hp1 hp16 hI
 go_enter Tryz.func46, Tryz.ntmps46
 go_upto_region 1 with fail
 change Code.wp _ _ _ _ ((w.alloc (.cells t.cells.toArray 47)).alloc (.cells #[.int .i64 0, .bool false, .int .u64 0, .int .u64 0, .bool false, .int .u64 0, .int .u64 0, .int .i64 0, .int .i64 0, .int .i64 0, .int .i64 0, .int .i64 0, .int .u64 0, .int .i64 0] 52))
 have hw1 : ((w.alloc (.cells t.cells.toArray 47)).alloc (.cells #[.int .i64 0, .bool false, .int .u64 0, .int .u64 0, .bool false, .int .u64 0, .int .u64 0, .int .i64 0, .int .i64 0, .int .i64 0, .int .i64 0, .int .i64 0, .int .u64 0, .int .i64 0] 52)).heap.size = w.heap.size + 2 := by rw [World.size_alloc, World.size_alloc]
 generalize (w.alloc (.cells t.cells.toArray 47)).alloc (.cells #[.int .i64 0, .bool false, .int .u64 0, .int .u64 0, .bool false, .int .u64 0, .int .u64 0, .int .i64 0, .int .i64 0, .int .i64 0, .int .i64 0, .int .i64 0, .int .u64 0, .int .i64 0] 52) = w1 at *
 obtain ⟨rt, hrt⟩ : ∃ rt, w.heap.size = rt := ⟨_, rfl⟩
 rw [hrt] at B1 B2 hw1
 try rw [hrt]
 have hXrt : ∀ y, X y → y < rt := fun y hy => by have := hlt y hy; omega
 have OF := Lib.hid fun (W : World) (hbW : Below w1.heap.size w1 W) => show Calls Tryz.prog 103 #[ptr0 k.g, .int .i64 t.p] W fun e w' => e = .returned (ptr0 (k.gb b)) ∧ Below W.heap.size W w' from by
  have := keep_of (keepOb_ok.call h1 hbW) t.p
  rwa [hbp] at this
 have OP := Lib.hid OP0
 clear OP0
 have hS1 : TupAt rt t w1.drew := TupAt.of B1
 have hYr : ¬ X rt := fun e => by have := hXrt _ e; omega
 have hYq : ¬ X (rt + 1) := fun e => by have := hXrt _ e; omega
 replace B2 := Lib.hid B2
 replace h1 := Lib.hid h1
 refine wp_region_held_drew (S := TupAt rt t) (by kernel_rfl) hS1 (fun hHeld => ?_)
 have hd : Below w1.heap.size w1 w1.drew := (Below.refl _ _).drew
 generalize w1.drew = wd at *
 refine' tk 0 rfl rfl ?_ ?_; rotate_left; · ((intro w hSw; (try dsimp only at hSw); go_simp) <;> with_reducible rfl); try go_frame
 refine' tk 1 rfl rfl ?_ ?_; rotate_left; · ((intro w hSw; (try dsimp only at hSw); go_simp) <;> with_reducible rfl); try go_frame
 refine' tk 2 rfl rfl ?_ ?_; rotate_left; · ((intro w hSw; (try dsimp only at hSw); go_simp) <;> with_reducible rfl); try go_frame
 refine' tk 4 rfl rfl ?_ ?_; rotate_left; · ((intro w hSw; (try dsimp only at hSw); go_simp) <;> with_reducible rfl); try go_frame
 refine' tk 5 rfl rfl ?_ ?_; rotate_left; · ((intro w hSw; (try dsimp only at hSw); go_simp) <;> with_reducible rfl); try go_frame
 refine wpAnyH_ready (rs := [3]) (by kernel_rfl) (by simp) ?_; refine consH rfl (fun K hK => ?_) AllReadyH.nil
 go_simp
 (go_at_call 103; (with_reducible refine (OF.out _ hd).mono ?_))
 rintro e w2 ⟨rfl, hb2⟩
 refine hK.out _ _ (hHeld.call hb2) (fun hHeld => ?_)
 clear hK K
 try go_frame
 refine wpAnyH_ready (rs := [6]) (by kernel_rfl) (by simp) ?_; refine consH rfl (fun K hK => ?_) AllReadyH.nil
 go_simp
 (go_at_call 17; (with_reducible refine (OP.out _ (below_chain hb2 hd)).mono ?_))
 rintro e w3 ⟨rfl, hT3⟩
 refine hK.out _ _ (hHeld.chg (to_chg hT3) hYr) (fun hHeld => ?_)
 clear hK K
 try go_frame
 refine' tk 7 rfl rfl ?_ ?_; rotate_left; · ((intro w hSw; (try dsimp only at hSw); go_simp) <;> with_reducible rfl); try go_frame
 refine' tk 8 rfl rfl ?_ ?_; rotate_left; · ((intro w hSw; (try dsimp only at hSw); go_simp) <;> with_reducible rfl); try go_frame
 refine wpAnyH_ready (rs := [9]) (by kernel_rfl) (by simp) ?_; refine consH rfl (fun K hK => ?_) AllReadyH.nil
 rw [if_pos (by rfl)]
 have BR : Blk w3 (rt + 1) 52 slt0.entA := (B2.out.call (below_chain hb2 hd)).chg (to_chg hT3) hYq
 with_reducible refine wp_store_eblk (r := rt + 1) (z := slt0) (.tmp 6) (.tmp 15) rfl BR ov rfl rfl ?_
 obtain ⟨e1, e2⟩ := setEnt_blk BR ov
 generalize setEnt w3 (rt + 1) ov = w6 at *
 refine hK.out _ _ (hHeld.chg e2 (fun e => by have e3 : rt = rt + 1 := e; omega)) (fun hHeld => ?_)
 clear hK K
 try go_frame
 refine' tk 10 rfl rfl ?_ ?_; rotate_left; · ((intro w hSw; (try dsimp only at hSw); go_simp) <;> with_reducible rfl); try go_frame
 refine wpAnyH_done (by kernel_rfl) ?_ _
 clear hHeld
 have hsz : w1.heap.size ≤ w2.heap.size := (below_chain hb2 hd).size
 have hTo : (keepOb k r s1).To w w6 X := by
  obtain ⟨X2, k1, k2, k3⟩ := hT3
  have hX2 : ¬ X2 (rt + 1) := fun e => by
   rcases k3 _ e with e | e
   · exact hYq e
   · omega
  have k2 : Chg X w w3 := (Chg.of_below (F := X) (below_chain (below_chain hb2 hd) hb0)).trans k2 (fun _ _ h => h)
  have k3 : ∀ y, X2 y → X y ∨ w.heap.size ≤ y := fun y hy => (k3 y hy).imp id fun e => by have := hb0.size; omega
  exact ⟨X2, keepOb_ok.chg k1 e2 (fun y hy e => hX2 (by have e3 : y = rt + 1 := e; exact e3 ▸ hy)), k2.trans e2 (fun y hy e => by have e3 : y = rt + 1 := e; omega), k3⟩
 replace hTo := Lib.hid hTo
 have hE6 := EntAt.of e1
 clear hT3 BR e2
 go_wp2_with fail
 refine bodyPost_ret (v := .tuple #[ov.val, .bool oo]) (keep_find_results _ _ _ _ _ rfl rfl hE6) rfl ?_
 exact ⟨rfl, hTo.out⟩
end
theorem emp_below {w w' : World} {X : Nat → Prop} (h : Ob.emp.To w w' X) (hX : ∀ y, ¬ X y) : Below w.heap.size w w' := by
 obtain ⟨X', -, h2, -⟩ := h
 exact h2.below (fun y _ e => hX y e) (Nat.le_refl _)
section
variable {w : World} {v : Value}
set_option maxRecDepth 100000 in
set_option maxHeartbeats 8000000 in
theorem kno_open (h : KNo v w) (t : Tup) (bk fl : Int) : Calls Tryz.prog 42 #[v, t.val, .int .i64 bk, .int .i64 fl] w fun e w' => e = .returned (.tuple #[slt0.val, .int .u64 0, .int .i64 1]) ∧ Below w.heap.size w w' := by
 have B1 := (Blk.new w 47 t.cells.toArray).alloc (.cells #[.int .i64 0, .bool false, .int .u64 0, .int .u64 0, .bool false, .int .u64 0, .int .u64 0, .int .i64 0, .int .i64 0, .int .i64 0, .int .i64 0, .int .i64 0, .int .u64 0, .int .i64 0] 52)
 have B2 : Blk ((w.alloc (.cells t.cells.toArray 47)).alloc (.cells #[.int .i64 0, .bool false, .int .u64 0, .int .u64 0, .bool false, .int .u64 0, .int .u64 0, .int .i64 0, .int .i64 0, .int .i64 0, .int .i64 0, .int .i64 0, .int .u64 0, .int .i64 0] 52)) (w.alloc (.cells t.cells.toArray 47)).heap.size 52 slt0.entA := Blk.new (w.alloc (.cells t.cells.toArray 47)) 52 slt0.entA
 have hb0 : Below w.heap.size w ((w.alloc (.cells t.cells.toArray 47)).alloc (.cells #[.int .i64 0, .bool false, .int .u64 0, .int .u64 0, .bool false, .int .u64 0, .int .u64 0, .int .i64 0, .int .i64 0, .int .i64 0, .int .i64 0, .int .i64 0, .int .u64 0, .int .i64 0] 52)) := below_alloc (below_alloc (Below.refl _ _) _) _
 rw [World.size_alloc] at B2
 obtain ⟨X, hX⟩ : ∃ X : Nat → Prop, ∀ y, ¬ X y := ⟨fun _ => False, fun _ h => h⟩
 have hlt := fun y (hy : X y) => show y < w.heap.size from absurd hy (hX y)
 have OF0 := fun (W : World) (hbW : Below ((w.alloc (.cells t.cells.toArray 47)).alloc (.cells #[.int .i64 0, .bool false, .int .u64 0, .int .u64 0, .bool false, .int .u64 0, .int .u64 0, .int .i64 0, .int .i64 0, .int .i64 0, .int .i64 0, .int .i64 0, .int .u64 0, .int .i64 0] 52)).heap.size ((w.alloc (.cells t.cells.toArray 47)).alloc (.cells #[.int .i64 0, .bool false, .int .u64 0, .int .u64 0, .bool false, .int .u64 0, .int .u64 0, .int .i64 0, .int .i64 0, .int .i64 0, .int .i64 0, .int .i64 0, .int .u64 0, .int .i64 0] 52)) W) => kno_of (h.call (below_chain hbW hb0)) t.p
 have OP0 := fun (W : World) => show Calls Tryz.prog 15 #[.pointer none, t.val, .int .i64 bk, .int .i64 fl] W fun e w' => e = .returned (.tuple #[slt0.val, .int .u64 0, .int .i64 1]) ∧ Ob.emp.To W w' X from by
  refine (tabs_open_nil t bk fl W).mono ?_
  rintro e w' ⟨rfl, hb⟩
  exact ⟨rfl, Ob.To.ofBelow Ob.emp_ok hX hb⟩
 obtain ⟨ov, hov⟩ : ∃ x, slt0 = x := ⟨_, rfl⟩
 have hov2 : slt0.val = ov.val := by rw [hov]
 have OP1 := fun (W : World) => show Calls Tryz.prog 15 #[.pointer none, t.val, .int .i64 bk, .int .i64 fl] W fun e w' => e = .returned (.tuple #[ov.val, .int .u64 0, .int .i64 1]) ∧ Ob.emp.To W w' X from by rw [← hov2]; exact OP0 W
 have hgoal : ∀ w', (Ob.emp.To w w' X → Below w.heap.size w w') := fun w' t => emp_below t hX
 rw [hov2]
 clear h hov hov2 OP0
 go_enter Tryz.func42, Tryz.ntmps42
 go_upto_region 1 with fail
 change Code.wp _ _ _ _ ((w.alloc (.cells t.cells.toArray 47)).alloc (.cells #[.int .i64 0, .bool false, .int .u64 0, .int .u64 0, .bool false, .int .u64 0, .int .u64 0, .int .i64 0, .int .i64 0, .int .i64 0, .int .i64 0, .int .i64 0, .int .u64 0, .int .i64 0] 52))
 have hw1 : ((w.alloc (.cells t.cells.toArray 47)).alloc (.cells #[.int .i64 0, .bool false, .int .u64 0, .int .u64 0, .bool false, .int .u64 0, .int .u64 0, .int .i64 0, .int .i64 0, .int .i64 0, .int .i64 0, .int .i64 0, .int .u64 0, .int .i64 0] 52)).heap.size = w.heap.size + 2 := by rw [World.size_alloc, World.size_alloc]
 generalize (w.alloc (.cells t.cells.toArray 47)).alloc (.cells #[.int .i64 0, .bool false, .int .u64 0, .int .u64 0, .bool false, .int .u64 0, .int .u64 0, .int .i64 0, .int .i64 0, .int .i64 0, .int .i64 0, .int .i64 0, .int .u64 0, .int .i64 0] 52) = w1 at *
 obtain ⟨rt, hrt⟩ : ∃ rt, w.heap.size = rt := ⟨_, rfl⟩
 rw [hrt] at B1 B2 hw1
 try rw [hrt]
 have hXrt : ∀ y, X y → y < rt := fun y hy => by have := hlt y hy; omega
 have OF := Lib.hid OF0
 have OP := Lib.hid fun (W : World) (_ : Below w1.heap.size w1 W) => OP1 W
 clear OF0 OP1
 have hS1 : TupAt rt t w1.drew := TupAt.of B1
 have FIN : ∀ (q : Nat) (W w3 wX : World), Below w1.heap.size w1 W → Ob.emp.To W w3 X → (∃ F : Nat → Prop, Chg F w3 wX ∧ ∀ y, ¬ F y) → w1.heap.size ≤ q → (q < W.heap.size ∨ w3.heap.size ≤ q) → Blk wX q 52 slt0.entA →
   rt + 1 < q ∧ Blk (setEnt wX q ov) q 52 ov.entA ∧ Blk (setEnt wX q ov) (rt + 1) 52 slt0.entA ∧ ∃ X', Ob.emp (setEnt wX q ov) X' ∧ Chg X w (setEnt wX q ov) ∧ (∀ y, X' y → X y ∨ w.heap.size ≤ y) ∧ ¬ X' (rt + 1) ∧ ¬ X' q :=
  fun q W w3 wX hb hT hF hq1 hq2 hB => keepy_fin Ob.emp_ok hb0 hlt hrt (by omega) B2 hb hT hF hq1 hq2 hB ov
 replace FIN := Lib.hid FIN
 have hYr : ¬ X rt := fun e => by have := hXrt _ e; omega
 have hYq : ∀ q, w1.heap.size ≤ q → ¬ X q := fun q hq e => by have := hXrt _ e; omega
 replace hgoal := Lib.hid hgoal
 clear B1 B2 hlt
 go_cut [11, 12, 13] from 14 to 26 (fun x11 x12 x13 wx => ∃ q, x11 = .pointer (some ⟨q, 0, none⟩) ∧ (x12 = .int .u64 0 ∧ x13 = .int .i64 1) ∧ rt + 1 < q ∧ Blk wx q 52 ov.entA ∧ Blk wx (rt + 1) 52 slt0.entA ∧ ∃ X', Ob.emp wx X' ∧ Chg X w wx ∧ (∀ y, X' y → X y ∨ w.heap.size ≤ y) ∧ ¬ X' (rt + 1) ∧ ¬ X' q)
 case first =>
  as_aux_lemma =>
  refine wp_region_held_drew (S := TupAt rt t) (by kernel_rfl) hS1 (fun hHeld => ?_)
  have hd : Below w1.heap.size w1 w1.drew := (Below.refl _ _).drew
  have hzd : w1.drew.heap.size = w1.heap.size := rfl
  generalize w1.drew = wd at *
  replace hzd := Lib.hid hzd
  refine' tk 0 rfl rfl ?_ ?_; rotate_left; · ((intro w hSw; (try dsimp only at hSw); go_simp) <;> with_reducible rfl); try go_frame
  refine' tk 1 rfl rfl ?_ ?_; rotate_left; · ((intro w hSw; (try dsimp only at hSw); go_simp) <;> with_reducible rfl); try go_frame
  refine' tk 2 rfl rfl ?_ ?_; rotate_left; · ((intro w hSw; (try dsimp only at hSw); go_simp) <;> with_reducible rfl); try go_frame
  refine' tk 4 rfl rfl ?_ ?_; rotate_left; · ((intro w hSw; (try dsimp only at hSw); go_simp) <;> with_reducible rfl); try go_frame
  refine' tk 5 rfl rfl ?_ ?_; rotate_left; · ((intro w hSw; (try dsimp only at hSw); go_simp) <;> with_reducible rfl); try go_frame
  refine' tk 6 rfl rfl ?_ ?_; rotate_left; · ((intro w hSw; (try dsimp only at hSw); go_simp) <;> with_reducible rfl); try go_frame
  refine wpAnyH_ready (rs := [3, 12]) (by kernel_rfl) (by simp) ?_; refine consH rfl (fun K hK => ?_) (consH rfl (fun K hK => ?_) AllReadyH.nil)
  ·
   go_simp
   (go_at_call 103; (with_reducible refine (OF.out _ hd).mono ?_))
   rintro e w2 ⟨rfl, hb2⟩
   refine hK.out _ _ (hHeld.call hb2) (fun hHeld => ?_)
   clear hK K
   try go_frame
   refine wpAnyH_ready (rs := [7, 12]) (by kernel_rfl) (by simp) ?_; refine consH rfl (fun K hK => ?_) (consH rfl (fun K hK => ?_) AllReadyH.nil)
   ·
    go_simp
    (go_at_call 15; (with_reducible refine (OP.out _ (below_chain hb2 hd)).mono ?_))
    rintro e w3 ⟨rfl, hT3⟩
    refine hK.out _ _ (hHeld.chg (to_chg hT3) hYr) (fun hHeld => ?_)
    clear hK K
    try go_frame
    refine' tk 8 rfl rfl ?_ ?_; rotate_left; · ((intro w hSw; (try dsimp only at hSw); go_simp) <;> with_reducible rfl); try go_frame
    refine' tk 9 rfl rfl ?_ ?_; rotate_left; · ((intro w hSw; (try dsimp only at hSw); go_simp) <;> with_reducible rfl); try go_frame
    refine' tk 10 rfl rfl ?_ ?_; rotate_left; · ((intro w hSw; (try dsimp only at hSw); go_simp) <;> with_reducible rfl); try go_frame
    refine' tk 11 rfl rfl ?_ ?_; rotate_left; · ((intro w hSw; (try dsimp only at hSw); go_simp) <;> with_reducible rfl); try go_frame
    refine wpAnyH_ready (rs := [12]) (by kernel_rfl) (by simp) ?_; refine consH rfl (fun K hK => ?_) AllReadyH.nil
    go_simp
    refine hK.out _ _ (hHeld.call (below_alloc (Below.refl _ _) _)) (fun hHeld => ?_)
    clear hK K
    try go_frame
    have hsz := (to_chg hT3).size
    have hsz2 := hb2.size
    refine wpAnyH_ready (rs := [13]) (by kernel_rfl) (by simp) ?_; refine consH rfl (fun K hK => ?_) AllReadyH.nil
    rw [if_pos (by rfl)]
    have BQ : Blk (w3.alloc (.cells #[.int .i64 0, .bool false, .int .u64 0, .int .u64 0, .bool false, .int .u64 0, .int .u64 0, .int .i64 0, .int .i64 0, .int .i64 0, .int .i64 0, .int .i64 0, .int .u64 0, .int .i64 0] 52)) w3.heap.size 52 slt0.entA := Blk.new w3 52 slt0.entA
    with_reducible refine wp_store_eblk (r := w3.heap.size) (z := slt0) (.tmp 11) (.tmp 23) rfl BQ ov rfl rfl ?_
    refine hK.out _ _ (hHeld.chg (setEnt_blk BQ ov).2 (fun e => by have e2 : rt = w3.heap.size := e; have h9 := hzd.out; omega)) (fun hHeld => ?_)
    clear hK K
    try go_frame
    refine' tk 14 rfl rfl ?_ ?_; rotate_left; · ((intro w hSw; (try dsimp only at hSw); go_simp) <;> with_reducible rfl); try go_frame
    refine' tk 15 rfl rfl ?_ ?_; rotate_left; · ((intro w hSw; (try dsimp only at hSw); go_simp) <;> with_reducible rfl); try go_frame
    refine wpAnyH_done (by kernel_rfl) ?_ _
    go_wp2_with fail
    go_meet
    exact ⟨w3.heap.size, rfl, ⟨rfl, rfl⟩, FIN.out w3.heap.size w2 w3 _ (below_chain hb2 hd) hT3 ⟨fun _ => False, Chg.of_below (below_alloc (Below.refl _ _) _), fun _ h => h⟩ (by have h9 := hzd.out; omega) (.inr (Nat.le_refl _)) BQ⟩
   ·
    go_simp
    refine hK.out _ _ (hHeld.call (below_alloc (Below.refl _ _) _)) (fun hHeld => ?_)
    clear hK K
    try go_frame
    refine wpAnyH_ready (rs := [7]) (by kernel_rfl) (by simp) ?_; refine consH rfl (fun K hK => ?_) AllReadyH.nil
    go_simp
    (go_at_call 15; (with_reducible refine (OP.out _ (below_chain (below_alloc (Below.refl w2.heap.size w2) (.cells #[.int .i64 0, .bool false, .int .u64 0, .int .u64 0, .bool false, .int .u64 0, .int .u64 0, .int .i64 0, .int .i64 0, .int .i64 0, .int .i64 0, .int .i64 0, .int .u64 0, .int .i64 0] 52)) (below_chain hb2 hd))).mono ?_))
    rintro e w3 ⟨rfl, hT3⟩
    refine hK.out _ _ (hHeld.chg (to_chg hT3) hYr) (fun hHeld => ?_)
    clear hK K
    try go_frame
    refine' tk 8 rfl rfl ?_ ?_; rotate_left; · ((intro w hSw; (try dsimp only at hSw); go_simp) <;> with_reducible rfl); try go_frame
    refine' tk 9 rfl rfl ?_ ?_; rotate_left; · ((intro w hSw; (try dsimp only at hSw); go_simp) <;> with_reducible rfl); try go_frame
    refine' tk 10 rfl rfl ?_ ?_; rotate_left; · ((intro w hSw; (try dsimp only at hSw); go_simp) <;> with_reducible rfl); try go_frame
    refine' tk 11 rfl rfl ?_ ?_; rotate_left; · ((intro w hSw; (try dsimp only at hSw); go_simp) <;> with_reducible rfl); try go_frame
    have hsz2 := hb2.size
    have hsa : (w2.alloc (.cells #[.int .i64 0, .bool false, .int .u64 0, .int .u64 0, .bool false, .int .u64 0, .int .u64 0, .int .i64 0, .int .i64 0, .int .i64 0, .int .i64 0, .int .i64 0, .int .u64 0, .int .i64 0] 52)).heap.size = w2.heap.size + 1 := World.size_alloc _ _
    refine wpAnyH_ready (rs := [13]) (by kernel_rfl) (by simp) ?_; refine consH rfl (fun K hK => ?_) AllReadyH.nil
    rw [if_pos (by rfl)]
    have BQ : Blk w3 w2.heap.size 52 slt0.entA := (Blk.new w2 52 slt0.entA).chg (to_chg hT3) (hYq _ (by have h9 := hzd.out; omega))
    with_reducible refine wp_store_eblk (r := w2.heap.size) (z := slt0) (.tmp 11) (.tmp 23) rfl BQ ov rfl rfl ?_
    refine hK.out _ _ (hHeld.chg (setEnt_blk BQ ov).2 (fun e => by have e2 : rt = w2.heap.size := e; have h9 := hzd.out; omega)) (fun hHeld => ?_)
    clear hK K
    try go_frame
    refine' tk 14 rfl rfl ?_ ?_; rotate_left; · ((intro w hSw; (try dsimp only at hSw); go_simp) <;> with_reducible rfl); try go_frame
    refine' tk 15 rfl rfl ?_ ?_; rotate_left; · ((intro w hSw; (try dsimp only at hSw); go_simp) <;> with_reducible rfl); try go_frame
    refine wpAnyH_done (by kernel_rfl) ?_ _
    go_wp2_with fail
    go_meet
    exact ⟨w2.heap.size, rfl, ⟨rfl, rfl⟩, FIN.out w2.heap.size (w2.alloc (.cells #[.int .i64 0, .bool false, .int .u64 0, .int .u64 0, .bool false, .int .u64 0, .int .u64 0, .int .i64 0, .int .i64 0, .int .i64 0, .int .i64 0, .int .i64 0, .int .u64 0, .int .i64 0] 52)) w3 _ (below_chain (below_alloc (Below.refl w2.heap.size w2) (.cells #[.int .i64 0, .bool false, .int .u64 0, .int .u64 0, .bool false, .int .u64 0, .int .u64 0, .int .i64 0, .int .i64 0, .int .i64 0, .int .i64 0, .int .i64 0, .int .u64 0, .int .i64 0] 52)) (below_chain hb2 hd)) hT3 ⟨fun _ => False, Chg.refl _ _, fun _ h => h⟩ (by have h9 := hzd.out; omega) (.inl (by omega)) BQ⟩
  ·
   go_simp
   refine hK.out _ _ (hHeld.call (below_alloc (Below.refl _ _) _)) (fun hHeld => ?_)
   clear hK K
   try go_frame
   refine wpAnyH_ready (rs := [3]) (by kernel_rfl) (by simp) ?_; refine consH rfl (fun K hK => ?_) AllReadyH.nil
   go_simp
   (go_at_call 103; (with_reducible refine (OF.out _ (below_chain (below_alloc (Below.refl wd.heap.size wd) (.cells #[.int .i64 0, .bool false, .int .u64 0, .int .u64 0, .bool false, .int .u64 0, .int .u64 0, .int .i64 0, .int .i64 0, .int .i64 0, .int .i64 0, .int .i64 0, .int .u64 0, .int .i64 0] 52)) hd)).mono ?_))
   rintro e w2 ⟨rfl, hb2⟩
   refine hK.out _ _ (hHeld.call hb2) (fun hHeld => ?_)
   clear hK K
   try go_frame
   refine wpAnyH_ready (rs := [7]) (by kernel_rfl) (by simp) ?_; refine consH rfl (fun K hK => ?_) AllReadyH.nil
   go_simp
   (go_at_call 15; (with_reducible refine (OP.out _ (below_chain hb2 (below_chain (below_alloc (Below.refl wd.heap.size wd) (.cells #[.int .i64 0, .bool false, .int .u64 0, .int .u64 0, .bool false, .int .u64 0, .int .u64 0, .int .i64 0, .int .i64 0, .int .i64 0, .int .i64 0, .int .i64 0, .int .u64 0, .int .i64 0] 52)) hd))).mono ?_))
   rintro e w3 ⟨rfl, hT3⟩
   refine hK.out _ _ (hHeld.chg (to_chg hT3) hYr) (fun hHeld => ?_)
   clear hK K
   try go_frame
   refine' tk 8 rfl rfl ?_ ?_; rotate_left; · ((intro w hSw; (try dsimp only at hSw); go_simp) <;> with_reducible rfl); try go_frame
   refine' tk 9 rfl rfl ?_ ?_; rotate_left; · ((intro w hSw; (try dsimp only at hSw); go_simp) <;> with_reducible rfl); try go_frame
   refine' tk 10 rfl rfl ?_ ?_; rotate_left; · ((intro w hSw; (try dsimp only at hSw); go_simp) <;> with_reducible rfl); try go_frame
   refine' tk 11 rfl rfl ?_ ?_; rotate_left; · ((intro w hSw; (try dsimp only at hSw); go_simp) <;> with_reducible rfl); try go_frame
   have hsz2 := hb2.size
   have hsa : (wd.alloc (.cells #[.int .i64 0, .bool false, .int .u64 0, .int .u64 0, .bool false, .int .u64 0, .int .u64 0, .int .i64 0, .int .i64 0, .int .i64 0, .int .i64 0, .int .i64 0, .int .u64 0, .int .i64 0] 52)).heap.size = wd.heap.size + 1 := World.size_alloc _ _
   refine wpAnyH_ready (rs := [13]) (by kernel_rfl) (by simp) ?_; refine consH rfl (fun K hK => ?_) AllReadyH.nil
   rw [if_pos (by rfl)]
   have BQ : Blk w3 wd.heap.size 52 slt0.entA := ((Blk.new wd 52 slt0.entA).call hb2).chg (to_chg hT3) (hYq _ (by have h9 := hzd.out; omega))
   with_reducible refine wp_store_eblk (r := wd.heap.size) (z := slt0) (.tmp 11) (.tmp 23) rfl BQ ov rfl rfl ?_
   refine hK.out _ _ (hHeld.chg (setEnt_blk BQ ov).2 (fun e => by have e2 : rt = wd.heap.size := e; have h9 := hzd.out; omega)) (fun hHeld => ?_)
   clear hK K
   try go_frame
   refine' tk 14 rfl rfl ?_ ?_; rotate_left; · ((intro w hSw; (try dsimp only at hSw); go_simp) <;> with_reducible rfl); try go_frame
   refine' tk 15 rfl rfl ?_ ?_; rotate_left; · ((intro w hSw; (try dsimp only at hSw); go_simp) <;> with_reducible rfl); try go_frame
   refine wpAnyH_done (by kernel_rfl) ?_ _
   go_wp2_with fail
   go_meet
   exact ⟨wd.heap.size, rfl, ⟨rfl, rfl⟩, FIN.out wd.heap.size w2 w3 _ (below_chain hb2 (below_chain (below_alloc (Below.refl wd.heap.size wd) (.cells #[.int .i64 0, .bool false, .int .u64 0, .int .u64 0, .bool false, .int .u64 0, .int .u64 0, .int .i64 0, .int .i64 0, .int .i64 0, .int .i64 0, .int .i64 0, .int .u64 0, .int .i64 0] 52)) hd)) hT3 ⟨fun _ => False, Chg.refl _ _, fun _ h => h⟩ (by have h9 := hzd.out; omega) (.inl (by omega)) BQ⟩
 case rest =>
  as_aux_lemma =>
  obtain ⟨q, rfl, ⟨rfl, rfl⟩, hq, BQ, BR, X', hW', hc, hn, hnr, hnq⟩ := hcut
  clear FIN OP OF hYr hYq hXrt hS1
  have hT4 := Lib.hid fun (wz : World) (hk : Chg (· = rt + 1) wc wz) => show Ob.emp.To w wz X from
   ⟨X', Ob.emp_ok.chg hW' hk (fun y hy e => hnr (by have e3 : y = rt + 1 := e; exact e3 ▸ hy)), hc.trans hk (fun y hy e => by have e3 : y = rt + 1 := e; omega), hn⟩
  clear hW' hc hn hnr hnq
  go_wp2_with (first
   | (with_reducible refine wpList_load_eblk rfl (.tmp 11) rfl q rfl ov BQ ?_)
   | (with_reducible refine wpList_store_eblk (r := rt + 1) (z := slt0) rfl rfl (.tmp 8) (.tmp 34) rfl BR ov rfl rfl ?_))
  obtain ⟨e1, e2⟩ := setEnt_blk BR ov
  change bodyPost _ _ _ _ _ (setEnt wc (rt + 1) ov)
  generalize setEnt wc (rt + 1) ov = w6 at *
  have hE6 := EntAt.of e1
  refine bodyPost_ret (v := .tuple #[ov.val, .int .u64 0, .int .i64 1]) (keep_open_results _ _ _ _ _ _ rfl rfl rfl hE6) rfl ?_
  exact ⟨rfl, hgoal.out _ (hT4.out _ e2)⟩
set_option maxRecDepth 100000 in
set_option maxHeartbeats 8000000 in
theorem kno_find (h : KNo v w) (t : Tup) (n : Int) : Calls Tryz.prog 46 #[v, t.val, .int .u64 n] w fun e w' => e = .returned (.tuple #[slt0.val, .bool false]) ∧ Below w.heap.size w w' := by
 have B1 := (Blk.new w 47 t.cells.toArray).alloc (.cells #[.int .i64 0, .bool false, .int .u64 0, .int .u64 0, .bool false, .int .u64 0, .int .u64 0, .int .i64 0, .int .i64 0, .int .i64 0, .int .i64 0, .int .i64 0, .int .u64 0, .int .i64 0] 52)
 have B2 : Blk ((w.alloc (.cells t.cells.toArray 47)).alloc (.cells #[.int .i64 0, .bool false, .int .u64 0, .int .u64 0, .bool false, .int .u64 0, .int .u64 0, .int .i64 0, .int .i64 0, .int .i64 0, .int .i64 0, .int .i64 0, .int .u64 0, .int .i64 0] 52)) (w.alloc (.cells t.cells.toArray 47)).heap.size 52 slt0.entA := Blk.new (w.alloc (.cells t.cells.toArray 47)) 52 slt0.entA
 have hb0 : Below w.heap.size w ((w.alloc (.cells t.cells.toArray 47)).alloc (.cells #[.int .i64 0, .bool false, .int .u64 0, .int .u64 0, .bool false, .int .u64 0, .int .u64 0, .int .i64 0, .int .i64 0, .int .i64 0, .int .i64 0, .int .i64 0, .int .u64 0, .int .i64 0] 52)) := below_alloc (below_alloc (Below.refl _ _) _) _
 rw [World.size_alloc] at B2
 obtain ⟨X, hX⟩ : ∃ X : Nat → Prop, ∀ y, ¬ X y := ⟨fun _ => False, fun _ h => h⟩
 have hlt := fun y (hy : X y) => show y < w.heap.size from absurd hy (hX y)
 have OF0 := fun (W : World) (hbW : Below ((w.alloc (.cells t.cells.toArray 47)).alloc (.cells #[.int .i64 0, .bool false, .int .u64 0, .int .u64 0, .bool false, .int .u64 0, .int .u64 0, .int .i64 0, .int .i64 0, .int .i64 0, .int .i64 0, .int .i64 0, .int .u64 0, .int .i64 0] 52)).heap.size ((w.alloc (.cells t.cells.toArray 47)).alloc (.cells #[.int .i64 0, .bool false, .int .u64 0, .int .u64 0, .bool false, .int .u64 0, .int .u64 0, .int .i64 0, .int .i64 0, .int .i64 0, .int .i64 0, .int .i64 0, .int .u64 0, .int .i64 0] 52)) W) => kno_of (h.call (below_chain hbW hb0)) t.p
 have OP0 := fun (W : World) => tabs_find_no (.pointer none) t n W (fun W2 _ => tabs_given_nil W2)
 obtain ⟨ov, hov⟩ : ∃ x, slt0 = x := ⟨_, rfl⟩
 have hov2 : slt0.val = ov.val := by rw [hov]
 rw [hov2] at OP0
 rw [hov2]
 clear h hov hov2
 go_enter Tryz.func46, Tryz.ntmps46
 go_upto_region 1 with fail
 change Code.wp _ _ _ _ ((w.alloc (.cells t.cells.toArray 47)).alloc (.cells #[.int .i64 0, .bool false, .int .u64 0, .int .u64 0, .bool false, .int .u64 0, .int .u64 0, .int .i64 0, .int .i64 0, .int .i64 0, .int .i64 0, .int .i64 0, .int .u64 0, .int .i64 0] 52))
 have hw1 : ((w.alloc (.cells t.cells.toArray 47)).alloc (.cells #[.int .i64 0, .bool false, .int .u64 0, .int .u64 0, .bool false, .int .u64 0, .int .u64 0, .int .i64 0, .int .i64 0, .int .i64 0, .int .i64 0, .int .i64 0, .int .u64 0, .int .i64 0] 52)).heap.size = w.heap.size + 2 := by rw [World.size_alloc, World.size_alloc]
 generalize (w.alloc (.cells t.cells.toArray 47)).alloc (.cells #[.int .i64 0, .bool false, .int .u64 0, .int .u64 0, .bool false, .int .u64 0, .int .u64 0, .int .i64 0, .int .i64 0, .int .i64 0, .int .i64 0, .int .i64 0, .int .u64 0, .int .i64 0] 52) = w1 at *
 obtain ⟨rt, hrt⟩ : ∃ rt, w.heap.size = rt := ⟨_, rfl⟩
 rw [hrt] at B1 B2 hw1
 try rw [hrt]
 have hXrt : ∀ y, X y → y < rt := fun y hy => by have := hlt y hy; omega
 have OF := Lib.hid OF0
 have OP := Lib.hid OP0
 clear OF0 OP0
 have hS1 : TupAt rt t w1.drew := TupAt.of B1
 replace B2 := Lib.hid B2
 refine wp_region_held_drew (S := TupAt rt t) (by kernel_rfl) hS1 (fun hHeld => ?_)
 have hd : Below w1.heap.size w1 w1.drew := (Below.refl _ _).drew
 generalize w1.drew = wd at *
 refine' tk 0 rfl rfl ?_ ?_; rotate_left; · ((intro w hSw; (try dsimp only at hSw); go_simp) <;> with_reducible rfl); try go_frame
 refine' tk 1 rfl rfl ?_ ?_; rotate_left; · ((intro w hSw; (try dsimp only at hSw); go_simp) <;> with_reducible rfl); try go_frame
 refine' tk 2 rfl rfl ?_ ?_; rotate_left; · ((intro w hSw; (try dsimp only at hSw); go_simp) <;> with_reducible rfl); try go_frame
 refine' tk 4 rfl rfl ?_ ?_; rotate_left; · ((intro w hSw; (try dsimp only at hSw); go_simp) <;> with_reducible rfl); try go_frame
 refine' tk 5 rfl rfl ?_ ?_; rotate_left; · ((intro w hSw; (try dsimp only at hSw); go_simp) <;> with_reducible rfl); try go_frame
 refine wpAnyH_ready (rs := [3]) (by kernel_rfl) (by simp) ?_; refine consH rfl (fun K hK => ?_) AllReadyH.nil
 go_simp
 (go_at_call 103; (with_reducible refine (OF.out _ hd).mono ?_))
 rintro e w2 ⟨rfl, hb2⟩
 refine hK.out _ _ (hHeld.call hb2) (fun hHeld => ?_)
 clear hK K
 try go_frame
 refine wpAnyH_ready (rs := [6]) (by kernel_rfl) (by simp) ?_; refine consH rfl (fun K hK => ?_) AllReadyH.nil
 go_simp
 (go_at_call 17; (with_reducible refine (OP.out _).mono ?_))
 rintro e w3 ⟨rfl, hb3⟩
 refine hK.out _ _ (hHeld.call hb3) (fun hHeld => ?_)
 clear hK K
 try go_frame
 refine' tk 7 rfl rfl ?_ ?_; rotate_left; · ((intro w hSw; (try dsimp only at hSw); go_simp) <;> with_reducible rfl); try go_frame
 refine' tk 8 rfl rfl ?_ ?_; rotate_left; · ((intro w hSw; (try dsimp only at hSw); go_simp) <;> with_reducible rfl); try go_frame
 refine wpAnyH_ready (rs := [9]) (by kernel_rfl) (by simp) ?_; refine consH rfl (fun K hK => ?_) AllReadyH.nil
 rw [if_pos (by rfl)]
 have hb4 := below_chain hb3 (below_chain hb2 hd)
 have BR : Blk w3 (rt + 1) 52 slt0.entA := B2.out.call hb4
 with_reducible refine wp_store_eblk (r := rt + 1) (z := slt0) (.tmp 6) (.tmp 15) rfl BR ov rfl rfl ?_
 obtain ⟨e1, e2⟩ := setEnt_blk BR ov
 generalize setEnt w3 (rt + 1) ov = w6 at *
 refine hK.out _ _ (hHeld.chg e2 (fun e => by have e3 : rt = rt + 1 := e; omega)) (fun hHeld => ?_)
 clear hK K
 try go_frame
 refine' tk 10 rfl rfl ?_ ?_; rotate_left; · ((intro w hSw; (try dsimp only at hSw); go_simp) <;> with_reducible rfl); try go_frame
 refine wpAnyH_done (by kernel_rfl) ?_ _
 clear hHeld
 have hend : Below w.heap.size w w6 := below_chg (below_chain hb4 hb0) e2 (fun y hy e => by have e3 : y = rt + 1 := e; omega) (by have := hb4.size; omega)
 replace hend := Lib.hid hend
 have hE6 := EntAt.of e1
 clear BR e2
 go_wp2_with fail
 refine bodyPost_ret (v := .tuple #[ov.val, .bool false]) (keep_find_results _ _ _ _ _ rfl rfl hE6) rfl ?_
 exact ⟨rfl, hend.out⟩
theorem kno_cookie (h : KNo v w) (x : Slt) : Calls Tryz.prog 44 #[v, x.val] w fun e w' => e = .returned (.int .u64 0) ∧ Below w.heap.size w w' := by
 have OF := Lib.hid fun (W : World) (hbW : Below w.heap.size w W) => kno_of (h.call hbW) x.t.p
 have hS : EntAt w.heap.size x (w.alloc (.cells x.ent.toArray 52)) := EntAt.of (Blk.new w 52 x.entA)
 have hb0 : Below w.heap.size w (w.alloc (.cells x.ent.toArray 52)) := below_alloc (Below.refl _ _) _
 clear h
 go_enter Tryz.func44, Tryz.ntmps44
 go_upto_region 1 with fail
 change Code.wp _ _ _ _ (w.alloc (.cells x.ent.toArray 52))
 generalize w.alloc (.cells x.ent.toArray 52) = w1 at *
 obtain ⟨rt, hrt⟩ : ∃ rt, w.heap.size = rt := ⟨_, rfl⟩
 rw [hrt] at hS
 try rw [hrt]
 have hS1 : EntAt rt x w1.drew := hS
 refine wp_region_held_drew (S := EntAt rt x) (by kernel_rfl) hS1 (fun hHeld => ?_)
 have hd : Below w.heap.size w w1.drew := hb0.drew
 generalize w1.drew = wd at *
 clear hb0
 refine' tk 0 rfl rfl ?_ ?_; rotate_left; · ((intro w hSw; (try dsimp only at hSw); go_simp) <;> with_reducible rfl); try go_frame
 refine' tk 1 rfl rfl ?_ ?_; rotate_left; · ((intro w hSw; (try dsimp only at hSw); go_simp) <;> with_reducible rfl); try go_frame
 refine' tk 2 rfl rfl ?_ ?_; rotate_left; · ((intro w hSw; (try dsimp only at hSw); go_simp) <;> with_reducible rfl); try go_frame
 refine' tk 3 rfl rfl ?_ ?_; rotate_left; · ((intro w hSw; (try dsimp only at hSw); go_simp) <;> with_reducible rfl); try go_frame
 refine' tk 5 rfl rfl ?_ ?_; rotate_left; · ((intro w hSw; (try dsimp only at hSw); go_simp) <;> with_reducible rfl); try go_frame
 refine wpAnyH_ready (rs := [4]) (by kernel_rfl) (by simp) ?_; refine consH rfl (fun K hK => ?_) AllReadyH.nil
 go_simp
 (go_at_call 103; (with_reducible refine (OF.out _ hd).mono ?_))
 rintro e w2 ⟨rfl, hb2⟩
 refine hK.out _ _ (hHeld.call hb2) (fun hHeld => ?_)
 clear hK K
 try go_frame
 refine wpAnyH_ready (rs := [6]) (by kernel_rfl) (by simp) ?_; refine consH rfl (fun K hK => ?_) AllReadyH.nil
 go_simp
 (go_at_call 32; (with_reducible refine (tabs_cookie_nil x _).mono ?_))
 rintro e w3 ⟨rfl, hb3⟩
 refine hK.out _ _ (hHeld.call hb3) (fun hHeld => ?_)
 clear hK K
 try go_frame
 refine' tk 7 rfl rfl ?_ ?_; rotate_left; · ((intro w hSw; (try dsimp only at hSw); go_simp) <;> with_reducible rfl); try go_frame
 refine wpAnyH_done (by kernel_rfl) ?_ _
 go_wp2_with fail
 go_ret
 exact ⟨rfl, below_chain hb3 (below_chain hb2 hd)⟩
end
end Go.Proofs.YteklkljndchjiaaGreat
