/- table: the document's Touch. -/
import Derived.Test.YtmkknjhalcocmaaGreatJ28
import Derived.StillTailTactics
import Derived.Deep.RegionHeld3
import Derived.Deep.CutBlock
namespace Go.Proofs.YtmkknjhalcocmaaGreat
open Go Go.RowKit Go.Deep Go.Maps Go.ChangeMaps

theorem goS_touch (n : Nat) (s : TSt) (k : Nat) (fl : Int) : goS n (touchS1 n s k fl) k = goS n (lookS n k s) k := by
  unfold goS touchS1
  rw [Int.toNat_natCast]
  dsimp only
  rw [updE_updE, updE_self, lookS_E]
  rfl
theorem tsE_ext {a b : TSt} (h1 : a.now = b.now) (h2 : a.M = b.M) (h3 : a.L = b.L) (h4 : a.E = b.E) (h5 : a.lk = b.lk) : a = b := by
  cases a
  cases b
  simp_all
theorem awaitS_touch (c : TCfg) (n : Nat) (s : TSt) (k : Nat) (fl : Int) : awaitS c (touchS1 n s k fl) k = { lookS n k s with E := updE (lookS n k s).E k { nextT (s.E k) fl with due := dueT c s.now (nextS (s.E k).st fl) }, M := lmPut (lookS n k s).M k (dueT c s.now (nextS (s.E k).st fl)) } := by
  unfold awaitS touchS1
  rw [Int.toNat_natCast]
  dsimp only
  rw [updE_updE, updE_self, lookS_E, lookS_now]
  rfl
section
variable {w w' w1 w2 : World} {g n : Nat} {b : Int} {c : TCfg} {s : TSt} {X X1 X2 F : Nat → Prop}
theorem DTabP.rule {d : DTs} (h : DTabP w g n b c d X) : w.cell? ⟨g, 1, none⟩ = some (.int .i64 c.a) ∧ w.cell? ⟨g, 2, none⟩ = some (.int .i64 c.b) ∧ w.cell? ⟨g, 3, none⟩ = some (.int .i64 c.c) ∧ w.cell? ⟨g, 4, none⟩ = some (.int .i64 c.d) ∧ (1 ≤ c.G ∧ c.G ≤ 1024) ∧ (0 ≤ d.now ∧ d.now ≤ 1099511627776) := by
  obtain ⟨fs, wg, gb, F', Y, A, q, h1, h2, h3, h4⟩ := h
  exact ⟨h1.cell 1, h1.cell 2, h1.cell 3, h1.cell 4, h3.rng⟩
set_option maxRecDepth 100000 in
set_option maxHeartbeats 16000000 in
theorem ddtab_touch (h : DTabP w g n b c (dOf n s) X) (hti : TI n s) (hI : c.right) (i fl : Int) :
    Calls Tryz.prog 27 #[.pointer (some ⟨g, 0, none⟩), .int .i64 i, .int .i64 fl] w fun e w' => e = .returned (.tuple #[(touchV c n s i fl).val, .bool (closeOk n s i)]) ∧ DTo w w' g n b c (dOf n (touchS c n s i fl)) X := by
  have hn := h.n4096
  have hXlt : ∀ y, X y → y < w.heap.size := fun y hy => h.lt hy
  have B1 := Blk.new w 55 slt0.entA
  have hb1 : Below w.heap.size w (w.alloc (.cells slt0.entA 55)) := below_alloc (Below.refl _ _) _
  have h1 := h.call hb1
  have hzz : w.heap.size < (w.alloc (.cells slt0.entA 55)).heap.size := B1.lt
  clear h
  replace B1 := Lib.hid B1
  replace hti := Lib.hid hti
  replace hXlt := Lib.hid hXlt
  replace h1 := Lib.hid h1
  replace hI := Lib.hid hI
  go_enter Tryz.func27, Tryz.ntmps27
  go_upto_region 1 with fail
  change Code.wp _ _ _ _ (w.alloc (.cells slt0.entA 55))
  obtain ⟨r, hr⟩ : ∃ r, w.heap.size = r := ⟨_, rfl⟩
  rw [hr] at B1 hzz
  generalize w.alloc (.cells slt0.entA 55) = w1 at *
  try rw [hr]
  have LK := Lib.hid (ddtab_look h1.out i)
  go_upto_region 2 with (go_at_call 49; (with_reducible refine LK.out.mono ?_); rintro e w2 ⟨rfl, h2, hc2⟩)
  have B2 := B1.out.chg hc2 (fun e => by have := hXlt.out r e; omega)
  have hT2 := XTo.of hc2
  clear LK hc2
  have ht2 := hti.out.look i
  have hn2 := Nat.le_trans (liveE_len (lookS n i s).E n) hn
  replace hT2 := Lib.hid hT2
  by_cases hO : closeOk n s i = true
  · have hO2 := hO
    unfold closeOk lookOk at hO2
    rw [Bool.and_eq_true, decide_eq_true_eq] at hO2
    obtain ⟨k, rfl⟩ : ∃ k : Nat, i = (k : Int) := ⟨i.toNat, by omega⟩
    rw [Int.toNat_natCast] at hO2
    have hk : k < n := by omega
    obtain ⟨j, hj, hje, hjn⟩ := live_idx (E := (lookS n k s).E) ht2.sl hk (by rw [lookS_E]; exact hO2.2)
    have hsl := hti.out.sl k hk
    have AT := Lib.hid (dtab_at h2 (Nat.le_trans hn2 (by omega)) k j hj (by rw [hje, lookS_E]; exact hsl) hjn)
    obtain ⟨_, _, _, A, q, -, -, c7, -, -, -, hOw, -, -, -⟩ := h2.cells
    obtain ⟨ad, rfl, -, hc⟩ := hOw.reads.rec_at Slt.ent (fun _ => rfl) hj
    have hV : touchV c n s k fl = if nextS (s.E k).st fl = 4 then nextT (s.E k) fl else { nextT (s.E k) fl with due := dueT c s.now (nextS (s.E k).st fl) } := by
      unfold touchV
      rw [if_pos hO, Int.toNat_natCast]
    have hS : touchS c n s k fl = if nextS (s.E k).st fl = 4 then goS n (lookS n k s) k else { lookS n k s with E := updE (lookS n k s).E k { nextT (s.E k) fl with due := dueT c s.now (nextS (s.E k).st fl) }, M := lmPut (lookS n k s).M k (dueT c s.now (nextS (s.E k).st fl)) } := by
      unfold touchS
      rw [if_pos hO, Int.toNat_natCast, goS_touch, awaitS_touch]
    have hPT := dOf_put (s := lookS n k s) ht2.sl k hk { nextT (s.E k) fl with due := dueT c s.now (nextS (s.E k).st fl) } hO2.2 hsl (by rw [lookS_E]; rfl)
    obtain ⟨xs, hxs⟩ : ∃ xs, s.E k = xs := ⟨_, rfl⟩
    rw [hje, lookS_E, hxs] at hc
    rw [hxs] at hV hS hPT hsl
    obtain ⟨ll, hll⟩ : ∃ ll, (liveE (lookS n k s).E n).length = ll := ⟨_, rfl⟩
    dsimp only [dOf] at c7
    have hj2 : j < ll := hll ▸ hj
    rw [hll] at c7
    have GO := Lib.hid fun W (hb : Below w2.heap.size w2 W) => ddtab_gone (h2.call hb) ht2 hn k hk
    have hji : (j : Int) < (ll : Int) := by exact_mod_cast hj2
    have hj0 : ¬ ((j : Int) < 0) := by omega
    have hB3 : Blk (w2.alloc (.cells #[.int .i64 0, .bool false, .int .u64 0, .int .u64 0, .bool false, .int .u64 0, .int .u64 0, .int .i64 0, .int .i64 0, .int .i64 0, .int .i64 0, .int .i64 0, .int .u64 0, .int .i64 0] 55)) w2.heap.size 55 slt0.entA := Blk.new w2 55 slt0.entA
    have hB2 := B2.call (below_alloc (Below.refl w2.heap.size w2) (.cells #[.int .i64 0, .bool false, .int .u64 0, .int .u64 0, .bool false, .int .u64 0, .int .u64 0, .int .i64 0, .int .i64 0, .int .i64 0, .int .i64 0, .int .i64 0, .int .u64 0, .int .i64 0] 55))
    have hsrt := liveE_sorted (E := (lookS n k s).E) n ht2.sl
    replace hsrt := Lib.hid hsrt
    replace hc := Lib.hid hc
    replace hn2 := Lib.hid hn2
    clear hOw hje hjn hj hll hO2 hxs h1
    replace h2 := Lib.hid h2
    replace ht2 := Lib.hid ht2
    replace hV := Lib.hid hV
    replace hS := Lib.hid hS
    replace hPT := Lib.hid hPT
    replace hO := Lib.hid hO
    replace hB3 := Lib.hid hB3
    replace hB2 := Lib.hid hB2
    replace B2 := Lib.hid B2
    replace hsl := Lib.hid hsl
    go_upto_region 6 with (first
      | (go_at_call 53; (with_reducible refine AT.out.mono ?_); rintro e w3 ⟨rfl, rfl⟩)
      | (refine wpList_load_entR rfl (.tmp 24) rfl (ad.add (j * 14)) rfl xs hc.out ?_)
      | (refine wpList_store_entB rfl rfl (.tmp 9) (.tmp 25) rfl hB3.out xs rfl rfl ?_))
    obtain ⟨hB4, hc4⟩ := setEnt_blk hB3.out xs
    have hz2 := hT2.out.1.size
    have hr2 : r ≠ w2.heap.size := by omega
    have hle2 : w.heap.size ≤ w2.heap.size := by omega
    have hB4r := hB2.out.chg hc4 (fun e => hr2 e)
    have hb4 : Below w2.heap.size w2 (setEnt (w2.alloc (.cells #[.int .i64 0, .bool false, .int .u64 0, .int .u64 0, .bool false, .int .u64 0, .int .u64 0, .int .i64 0, .int .i64 0, .int .i64 0, .int .i64 0, .int .i64 0, .int .u64 0, .int .i64 0] 55)) w2.heap.size xs) := below_chg (below_alloc (Below.refl _ _) _) hc4 (fun y hy e => by have e2 : y = w2.heap.size := e; omega) (by rw [World.size_alloc]; omega)
    generalize setEnt (w2.alloc (.cells #[.int .i64 0, .bool false, .int .u64 0, .int .u64 0, .bool false, .int .u64 0, .int .u64 0, .int .i64 0, .int .i64 0, .int .i64 0, .int .i64 0, .int .i64 0, .int .u64 0, .int .i64 0] 55)) w2.heap.size xs = w4 at *
    have hz4 : w2.heap.size < w4.heap.size := hB4.lt
    obtain ⟨r2, hr2e⟩ : ∃ r2, w2.heap.size = r2 := ⟨_, rfl⟩
    clear hB3 hB2 hc4 hc
    have d10 : w4.cell? ⟨r2, 10, none⟩ = some (.int .i64 xs.st) := by rw [← hr2e]; exact hB4.cell 10
    have z10 : w4.frozen? ⟨r2, 10, none⟩ = false := by rw [← hr2e]; exact hB4.frozen 10
    obtain ⟨nx, hnx⟩ : ∃ v, nextS xs.st fl = v := ⟨_, rfl⟩
    have NX := Lib.hid fun W => refnext_any xs.st fl W
    rw [hnx] at NX
    replace hB4 := Lib.hid hB4
    replace hB4r := Lib.hid hB4r
    try rw [hr2e]
    go_upto_region 7 with (go_at_call 56; (with_reducible refine (NX.out _).mono ?_); rintro e w5 ⟨rfl, rfl⟩)
    have hB5 : Blk (w4.setCell ⟨r2, 10, none⟩ (.int .i64 nx)) r2 55 (nextT xs fl).entA := by
      have h9 := hB4.out
      rw [hr2e] at h9
      have := h9.set_ 10 (.int .i64 nx)
      unfold nextT
      rw [hnx]
      simpa using this
    have hB5r : Blk (w4.setCell ⟨r2, 10, none⟩ (.int .i64 nx)) r 55 slt0.entA := hB4r.out.far (p := ⟨r2, 10, none⟩) (by rw [← hr2e]; exact hr2) _
    have hb5 : Below w2.heap.size w2 (w4.setCell ⟨r2, 10, none⟩ (.int .i64 nx)) := hb4.setCell (p := ⟨r2, 10, none⟩) (by show w2.heap.size ≤ r2; omega) _
    clear d10 z10 hB4 hB4r NX hb4 c7 AT hji hj0
    have hz5 : r2 < (w4.setCell ⟨r2, 10, none⟩ (.int .i64 nx)).heap.size := hB5.lt
    generalize w4.setCell ⟨r2, 10, none⟩ (.int .i64 nx) = w5 at *
    rw [hnx] at hV hS hPT
    rw [hr2e] at hr2 hle2 hz2 hz4
    have d10 : w5.cell? ⟨r2, 10, none⟩ = some (.int .i64 nx) := by rw [← hnx]; exact hB5.cell 10
    replace hB5r := Lib.hid hB5r
    by_cases hnx4 : nx = 4
    · rw [if_pos hnx4] at hV hS
      have hn4 : (nx == 4) = true := by simpa using hnx4
      have hT5 := Lib.hid (hT2.out.trans (XTo.call hb5))
      have GO5 := Lib.hid (GO.out w5 hb5)
      replace hB5 := Lib.hid hB5
      replace hV := Lib.hid hV
      replace hS := Lib.hid hS
      clear hPT hnx hnx4 GO hsrt hn2 hb5
      go_upto_region 9 with (go_at_call 57; (with_reducible refine GO5.out.mono ?_); rintro e w6 ⟨rfl, X6, h6, k6⟩)
      have hB6 := hB5.out.chg k6.1 (fun hx => Nat.lt_irrefl _ (Nat.lt_of_lt_of_le (hXlt.out _ hx) hle2))
      have hB6r := hB5r.out.chg k6.1 (fun hx => Nat.lt_irrefl _ (Nat.lt_of_lt_of_le (hXlt.out _ hx) (Nat.le_of_eq hr)))
      have hT6 : DTo w1 w6 g n b c (dOf n (touchS c n s k fl)) X := by rw [hS.out]; exact DTo.mk h6 (hT5.out.trans k6)
      replace hT6 := Lib.hid hT6
      clear GO5 hB5 hB5r h6 k6 d10
      obtain ⟨y, hy⟩ : ∃ y, nextT xs fl = y := ⟨_, rfl⟩
      rw [hy] at hB6
      replace hy := Lib.hid hy
      go_wp2_with (first
        | (refine wpList_load_entR rfl (.tmp 9) rfl ⟨r2, 0, none⟩ rfl y (blk_at hB6) ?_)
        | (refine wpList_store_entB rfl rfl (.tmp 6) (.tmp 37) rfl hB6r y rfl rfl ?_))
      change bodyPost _ _ _ _ _ (setEnt w6 r y)
      obtain ⟨B6, hc6⟩ := setEnt_blk hB6r y
      have hT7 := DTo.fin hXlt.out hb1 hT6.out hc6 (Nat.le_of_eq hr) (by omega)
      generalize setEnt w6 r y = w7 at *
      clear hB6 hB6r
      obtain ⟨r0, r1, r2, r3, r4, r5, r6, r7, r8, r9, r10, r11, r12, r13, -⟩ := ent_blk B6
      clear B6 hc6
      replace hT7 := Lib.hid hT7
      refine bodyPost_ret (v := .tuple #[y.val, .bool true]) (by simp [results, Tryz.results27, go_sem, r0, r1, r2, r3, r4, r5, r6, r7, r8, r9, r10, r11, r12, r13]) rfl ?_
      exact ⟨by rw [hV.out, hO.out, hy.out], hT7.out⟩
    · have hn4 : (nx == 4) = false := by simpa using hnx4
      rw [if_neg hnx4] at hV hS
      have h5 := h2.out.call hb5
      obtain ⟨u1, u2, u3, u4, hG, hnow⟩ := h5.rule
      obtain ⟨_, wg, _, _, _, -, c6, -, -, -, -, -, -, cw, -⟩ := h5.cells
      have d13 := hB5.cell 13
      have z13 := hB5.frozen 13
      have hid := hI.out nx
      dsimp only [dOf] at cw hnow
      rw [lookS_now] at cw hnow
      have hwr : IntKind.i64.wrap (s.now + idleS c.a c.b c.c c.d nx) = dueT c s.now nx := by unfold dueT; simp [IntKind.wrap, IntKind.bits, IntKind.signed]; omega
      have hdr : 0 ≤ dueT c s.now nx ∧ dueT c s.now nx ≤ 2199023255552 := by unfold dueT; omega
      have ID := Lib.hid fun W => refidle_any c.a c.b c.c c.d nx W
      obtain ⟨y, hy⟩ : ∃ y, ({ nextT xs fl with due := dueT c s.now nx } : Slt) = y := ⟨_, rfl⟩
      have hyd : y.due = dueT c s.now nx := by rw [← hy]
      have hB5y := fun W (h : Blk W r2 55 (nextT xs fl).entA) => show Blk (W.setCell ⟨r2, 13, none⟩ (.int .i64 (dueT c s.now nx))) r2 55 y.entA from by
        rw [← hy]
        simpa using h.set_ 13 (.int .i64 (dueT c s.now nx))
      rw [hy] at hV hS hPT
      generalize dueT c s.now nx = due at *
      generalize idleS c.a c.b c.c c.d nx = idl at *
      have hwg : wg < w5.heap.size := block_lt_of_cell cw
      have SB := Lib.hid fun W (hb : Below w5.heap.size w5 W) => show ((W.cell? ⟨g, 1, none⟩ = some (.int .i64 c.a) ∧ W.cell? ⟨g, 2, none⟩ = some (.int .i64 c.b) ∧ W.cell? ⟨g, 3, none⟩ = some (.int .i64 c.c) ∧ W.cell? ⟨g, 4, none⟩ = some (.int .i64 c.d) ∧ W.cell? ⟨g, 6, none⟩ = some (.pointer (some ⟨wg, 0, none⟩)) ∧ W.cell? ⟨wg, 1, none⟩ = some (.int .i64 s.now) ∧ W.cell? ⟨r2, 10, none⟩ = some (.int .i64 nx)) ∧ (∀ v, (W.setCell ⟨r2, 13, none⟩ v).cell? ⟨g, 1, none⟩ = some (.int .i64 c.a) ∧ (W.setCell ⟨r2, 13, none⟩ v).cell? ⟨g, 2, none⟩ = some (.int .i64 c.b) ∧ (W.setCell ⟨r2, 13, none⟩ v).cell? ⟨g, 3, none⟩ = some (.int .i64 c.c) ∧ (W.setCell ⟨r2, 13, none⟩ v).cell? ⟨g, 4, none⟩ = some (.int .i64 c.d) ∧ (W.setCell ⟨r2, 13, none⟩ v).cell? ⟨g, 6, none⟩ = some (.pointer (some ⟨wg, 0, none⟩)) ∧ (W.setCell ⟨r2, 13, none⟩ v).cell? ⟨wg, 1, none⟩ = some (.int .i64 s.now) ∧ (W.setCell ⟨r2, 13, none⟩ v).cell? ⟨r2, 10, none⟩ = some (.int .i64 nx))) ∧ (∃ u, W.cell? ⟨r2, 13, none⟩ = some u) ∧ W.frozen? ⟨r2, 13, none⟩ = false from by
        have hgX : g ≠ r2 := fun e => by have h9 := hXlt.out g h2.out.gX; omega
        have hwX : wg ≠ r2 := fun e => by
          obtain ⟨wg', Y, c6', hW, -⟩ := h2.out.wheel
          have h8 := (hb5.cell (block_lt_of_cell c6')).trans c6'
          rw [c6] at h8
          have h9 : wg = wg' := by simpa using h8
          have h10 := hW.lt hW.gY
          rw [← h9] at h10
          omega
        have e := fun (p : Addr) v (hp : w5.cell? p = some v) => (hb.cell (block_lt_of_cell hp)).trans hp
        have f := fun (p : Addr) (v u : Value) (hp : w5.cell? p = some v) (hne : (⟨r2, 13, none⟩ : Addr) ≠ p) => show (W.setCell ⟨r2, 13, none⟩ u).cell? p = some v from (World.cell?_setCell_other _ _ _ _ hne).trans (e p v hp)
        refine ⟨⟨⟨e _ _ u1, e _ _ u2, e _ _ u3, e _ _ u4, e _ _ c6, e _ _ cw, e _ _ d10⟩, fun v => ⟨f _ _ v u1 ?_, f _ _ v u2 ?_, f _ _ v u3 ?_, f _ _ v u4 ?_, f _ _ v c6 ?_, f _ _ v cw ?_, f _ _ v d10 ?_⟩⟩, ⟨_, e _ _ d13⟩, (hb.frozen (p := ⟨r2, 13, none⟩) (block_lt_of_cell d13)).trans z13⟩
        all_goals (simp; try omega)
      have hb0 : Below w5.heap.size w5 w5.drew := (Below.refl _ _).drew
      have hS0 := (SB.out _ hb0).1.1
      replace hB5 := Lib.hid hB5
      replace hB5y := Lib.hid hB5y
      replace hb5 := Lib.hid hb5
      replace hV := Lib.hid hV
      replace hS := Lib.hid hS
      replace hPT := Lib.hid hPT
      replace hwr := Lib.hid hwr
      replace hyd := Lib.hid hyd
      clear hnx hnx4 GO h5 hy u1 u2 u3 u4 c6 cw d13 z13
      go_upto_region 10 with fail
      clear d10
      go_region_held3 (fun W => W.cell? ⟨g, 1, none⟩ = some (.int .i64 c.a) ∧ W.cell? ⟨g, 2, none⟩ = some (.int .i64 c.b) ∧ W.cell? ⟨g, 3, none⟩ = some (.int .i64 c.c) ∧ W.cell? ⟨g, 4, none⟩ = some (.int .i64 c.d) ∧ W.cell? ⟨g, 6, none⟩ = some (.pointer (some ⟨wg, 0, none⟩)) ∧ W.cell? ⟨wg, 1, none⟩ = some (.int .i64 s.now) ∧ W.cell? ⟨r2, 10, none⟩ = some (.int .i64 nx)) (first | with_reducible assumption | with_reducible exact hS7 _) ((go_at_call 50; (with_reducible refine (ID.out _).mono ?_); rintro e w6 ⟨rfl, hb6⟩; obtain ⟨⟨hS6, hS7⟩, ⟨y13, e13⟩, f13⟩ := SB.out _ (below_chain hb6 hb0)))
      rw [hwr.out]
      have hbb := below_chain hb6 hb0
      have hB7 := hB5y.out w6 (hB5.out.call hbb)
      have hB7r := (hB5r.out.call hbb).far (p := ⟨r2, 13, none⟩) hr2 (.int .i64 due)
      have hb7 : Below w2.heap.size w2 (w6.setCell ⟨r2, 13, none⟩ (.int .i64 due)) := (below_chain hbb hb5.out).setCell (p := ⟨r2, 13, none⟩) (Nat.le_of_eq hr2e) _
      clear hS6 hS7 e13 f13 hb6 hbb SB ID hB5 hB5r hB5y hb5 hS0 hb0 hwr
      generalize w6.setCell ⟨r2, 13, none⟩ (.int .i64 due) = w7 at *
      have h7 := h2.out.call hb7
      have PU := Lib.hid (dtab_put h7 hsrt.out hn2.out y)
      have hT7 := Lib.hid (hT2.out.trans (XTo.call hb7))
      clear h7 hb7
      replace hB7r := Lib.hid hB7r
      go_upto_region 12 with (first
        | (refine wpList_load_entR rfl (.tmp 9) rfl ⟨r2, 0, none⟩ rfl y (blk_at hB7) ?_)
        | (go_at_call 51; (with_reducible refine PU.out.mono ?_); rintro e w8 ⟨rfl, X8, h8, k8⟩))
      have hd8 : Below w8.heap.size w8 w8.drew := (Below.refl _ _).drew
      have k9 : XTo w1 w8.drew X X8 := (hT7.out.trans k8).trans (XTo.call hd8)
      have hB8 := (hB7.chg k8.1 (fun hx => Nat.lt_irrefl _ (Nat.lt_of_lt_of_le (hXlt.out _ hx) hle2))).call hd8
      have hB8r := (hB7r.out.chg k8.1 (fun hx => Nat.lt_irrefl _ (Nat.lt_of_lt_of_le (hXlt.out _ hx) (Nat.le_of_eq hr)))).call hd8
      have hn2X : ¬ X8 r2 := fun hx => (k8.2 _ hx).elim (fun h => Nat.lt_irrefl _ (Nat.lt_of_lt_of_le (hXlt.out _ h) hle2)) (fun h => Nat.lt_irrefl _ (Nat.lt_of_lt_of_le hB7.lt h))
      have hnrX : ¬ X8 r := fun hx => (k8.2 _ hx).elim (fun h => Nat.lt_irrefl _ (Nat.lt_of_lt_of_le (hXlt.out _ h) (Nat.le_of_eq hr))) (fun h => Nat.lt_irrefl _ (Nat.lt_of_lt_of_le hB7r.out.lt h))
      have h9 := h8.call hd8
      obtain ⟨wg9, c6, ST⟩ := dtab_set h9 (by exact ht2.out.mlen5 hn) k (by omega) due hdr
      have d13 : w8.drew.cell? ⟨r2, 13, none⟩ = some (.int .i64 due) := by rw [← hyd.out]; exact hB8.cell 13
      replace ST := Lib.hid ST
      replace k9 := Lib.hid k9
      replace hB8 := Lib.hid hB8
      replace hB8r := Lib.hid hB8r
      clear PU hB7 hB7r h8 k8 h9 hd8 hT7
      have c6' : w8.cell? ⟨g, 6, none⟩ = some (.pointer (some ⟨wg9, 0, none⟩)) := c6
      have d13' : w8.cell? ⟨r2, 13, none⟩ = some (.int .i64 due) := d13
      go_still_tail 7, (by kernel_rfl)
      change wpList _ _ _ _ _ w8.drew
      clear c6' d13'
      generalize w8.drew = w9 at *
      go_upto_region 13 with (go_at_call 52; (with_reducible refine ST.out.mono ?_); rintro e wa ⟨rfl, Xa, ha, ka⟩)
      have hBa := hB8.out.chg ka.1 hn2X
      have hBar := hB8r.out.chg ka.1 hnrX
      have hTa : DTo w1 wa g n b c (dOf n (touchS c n s k fl)) X := DTo.mk (by rw [hS.out, ← hPT.out]; exact ha) (k9.out.trans ka)
      replace hTa := Lib.hid hTa
      clear ha ka ST hB8 hB8r c6 d13
      go_wp2_with (first
        | (refine wpList_load_entR rfl (.tmp 9) rfl ⟨r2, 0, none⟩ rfl y (blk_at hBa) ?_)
        | (refine wpList_store_entB rfl rfl (.tmp 6) (.tmp 65) rfl hBar y rfl rfl ?_))
      change bodyPost _ _ _ _ _ (setEnt wa r y)
      obtain ⟨B6, hc6⟩ := setEnt_blk hBar y
      have hTb := DTo.fin hXlt.out hb1 hTa.out hc6 (Nat.le_of_eq hr) (by omega)
      generalize setEnt wa r y = wb at *
      clear hBa hBar
      obtain ⟨r0, r1, r2, r3, r4, r5, r6, r7, r8, r9, r10, r11, r12, r13, -⟩ := ent_blk B6
      clear B6 hc6
      replace hTb := Lib.hid hTb
      refine bodyPost_ret (v := .tuple #[y.val, .bool true]) (by simp [results, Tryz.results27, go_sem, r0, r1, r2, r3, r4, r5, r6, r7, r8, r9, r10, r11, r12, r13]) rfl ?_
      exact ⟨by rw [hV.out, hO.out], hTb.out⟩
  · have hV : touchV c n s i fl = slt0 := by unfold touchV; rw [if_neg hO]
    have hS : touchS c n s i fl = lookS n i s := by unfold touchS; rw [if_neg hO]
    have hO1 : closeOk n s i = false := by simpa using hO
    have AT := Lib.hid (dtab_at_no h2 (Nat.le_trans hn2 (by omega)) i (fun y hy => live_none (E := (lookS n i s).E) ht2.sl (fun hh => hO (by
      unfold closeOk lookOk
      rw [Bool.and_eq_true, decide_eq_true_eq]
      rw [lookS_E] at hh
      exact ⟨⟨hh.1, hh.2.1⟩, hh.2.2⟩)) hy))
    clear hO
    replace hV := Lib.hid hV
    replace hS := Lib.hid hS
    replace hO1 := Lib.hid hO1
    have hT5 : DTo w1 w2 g n b c (dOf n (lookS n i s)) X := DTo.mk h2 hT2.out
    replace hT5 := Lib.hid hT5
    clear h2 ht2 h1
    go_wp2_with (first
      | (go_at_call 53; (with_reducible refine AT.out.mono ?_); rintro e w3 ⟨rfl, rfl⟩)
      | (refine wpList_store_entB rfl rfl (.tmp 6) (.tmp 18) rfl B2 slt0 rfl rfl ?_))
    change bodyPost _ _ _ _ _ (setEnt w2 r slt0)
    obtain ⟨B6, hc6⟩ := setEnt_blk B2 slt0
    have hT6 := DTo.fin hXlt.out hb1 hT5.out hc6 (Nat.le_of_eq hr) (by omega)
    generalize setEnt w2 r slt0 = w6 at *
    clear B2
    obtain ⟨r0, r1, r2, r3, r4, r5, r6, r7, r8, r9, r10, r11, r12, r13, -⟩ := ent_blk B6
    clear B6 hc6
    replace hT6 := Lib.hid hT6
    refine bodyPost_ret (v := .tuple #[(slt0).val, .bool false]) (by simp [results, Tryz.results27, go_sem, r0, r1, r2, r3, r4, r5, r6, r7, r8, r9, r10, r11, r12, r13]) rfl ?_
    exact ⟨by rw [hV.out, hO1.out], by rw [hS.out]; exact hT6.out⟩
end
end Go.Proofs.YtmkknjhalcocmaaGreat
