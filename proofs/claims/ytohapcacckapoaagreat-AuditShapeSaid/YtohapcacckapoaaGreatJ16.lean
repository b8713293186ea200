/- stateful: the rules of both tables. -/
import Derived.Test.YtohapcacckapoaaGreatJ12
import Derived.Deep.CutRange
namespace Go.Proofs.YtohapcacckapoaaGreat
open Go Go.RowKit Go.Deep Go.Maps Go.ChangeMaps
abbrev ruleL (wd : Bool) (sl gn ka kb np a b c d G : Int) : List Value := [.bool wd, .int .i64 sl, .int .i64 gn, .int .u64 ka, .int .u64 kb, .int .i64 np, .int .i64 a, .int .i64 b, .int .i64 c, .int .i64 d, .int .i64 G]
abbrev kruleL (nw : Bool) (ns ng : Int) (ww : Bool) (ws wg ka kb np a b c d G : Int) : List Value := [.bool nw, .int .i64 ns, .int .i64 ng, .bool ww, .int .i64 ws, .int .i64 wg, .int .u64 ka, .int .u64 kb, .int .i64 np, .int .i64 a, .int .i64 b, .int .i64 c, .int .i64 d, .int .i64 G]
theorem lay_index0 (a b c d e f : Value) (W : World) : (Instr.index 178 (.agg #[a, b, c, d, e, f]) (.int .i64 0)).run Tryz.prog W = .ok (.agg #[a, b, c]) W := by kernel_rfl
theorem lay_index1 (a b c d e f : Value) (W : World) : (Instr.index 178 (.agg #[a, b, c, d, e, f]) (.int .i64 1)).run Tryz.prog W = .ok (.agg #[d, e, f]) W := by kernel_rfl
set_option maxRecDepth 100000 in
set_option maxHeartbeats 8000000 in
theorem both_raw (nw : Bool) (ns ng : Int) (ww : Bool) (ws wg ka kb np a b c d G : Int) (w : World) : Calls Tryz.prog 74 #[.agg (kruleL nw ns ng ww ws wg ka kb np a b c d G).toArray] w fun e w' => e = .returned (.agg (ruleL nw ns ng ka kb np a b c d G ++ ruleL ww ws wg ka kb np a b c d G).toArray) ∧ Below w.heap.size w w' := by
 have i0 := fun W => lay_index0 (.bool nw) (.int .i64 ns) (.int .i64 ng) (.bool ww) (.int .i64 ws) (.int .i64 wg) W
 have i1 := fun W => lay_index1 (.bool nw) (.int .i64 ns) (.int .i64 ng) (.bool ww) (.int .i64 ws) (.int .i64 wg) W
 go_enter Tryz.func74, Tryz.ntmps74
 go_upto_region 1 with fail
 change Code.wp _ _ _ _ ((w.alloc (.cells (kruleL nw ns ng ww ws wg ka kb np a b c d G).toArray 45)).alloc (.cells #[.bool false, .int .i64 0, .int .i64 0, .int .u64 0, .int .u64 0, .int .i64 0, .int .i64 0, .int .i64 0, .int .i64 0, .int .i64 0, .int .i64 0, .bool false, .int .i64 0, .int .i64 0, .int .u64 0, .int .u64 0, .int .i64 0, .int .i64 0, .int .i64 0, .int .i64 0, .int .i64 0, .int .i64 0] 143))
 have B1 := (Blk.new w 45 (kruleL nw ns ng ww ws wg ka kb np a b c d G).toArray).alloc (.cells #[.bool false, .int .i64 0, .int .i64 0, .int .u64 0, .int .u64 0, .int .i64 0, .int .i64 0, .int .i64 0, .int .i64 0, .int .i64 0, .int .i64 0, .bool false, .int .i64 0, .int .i64 0, .int .u64 0, .int .u64 0, .int .i64 0, .int .i64 0, .int .i64 0, .int .i64 0, .int .i64 0, .int .i64 0] 143)
 have B2 : Blk ((w.alloc (.cells (kruleL nw ns ng ww ws wg ka kb np a b c d G).toArray 45)).alloc (.cells #[.bool false, .int .i64 0, .int .i64 0, .int .u64 0, .int .u64 0, .int .i64 0, .int .i64 0, .int .i64 0, .int .i64 0, .int .i64 0, .int .i64 0, .bool false, .int .i64 0, .int .i64 0, .int .u64 0, .int .u64 0, .int .i64 0, .int .i64 0, .int .i64 0, .int .i64 0, .int .i64 0, .int .i64 0] 143)) (w.alloc (.cells (kruleL nw ns ng ww ws wg ka kb np a b c d G).toArray 45)).heap.size 143 #[.bool false, .int .i64 0, .int .i64 0, .int .u64 0, .int .u64 0, .int .i64 0, .int .i64 0, .int .i64 0, .int .i64 0, .int .i64 0, .int .i64 0, .bool false, .int .i64 0, .int .i64 0, .int .u64 0, .int .u64 0, .int .i64 0, .int .i64 0, .int .i64 0, .int .i64 0, .int .i64 0, .int .i64 0] := Blk.new _ _ _
 have hb0 : Below w.heap.size w ((w.alloc (.cells (kruleL nw ns ng ww ws wg ka kb np a b c d G).toArray 45)).alloc (.cells #[.bool false, .int .i64 0, .int .i64 0, .int .u64 0, .int .u64 0, .int .i64 0, .int .i64 0, .int .i64 0, .int .i64 0, .int .i64 0, .int .i64 0, .bool false, .int .i64 0, .int .i64 0, .int .u64 0, .int .u64 0, .int .i64 0, .int .i64 0, .int .i64 0, .int .i64 0, .int .i64 0, .int .i64 0] 143)) := below_alloc (below_alloc (Below.refl _ _) _) _
 rw [World.size_alloc] at B2
 generalize (w.alloc (.cells (kruleL nw ns ng ww ws wg ka kb np a b c d G).toArray 45)).alloc (.cells #[.bool false, .int .i64 0, .int .i64 0, .int .u64 0, .int .u64 0, .int .i64 0, .int .i64 0, .int .i64 0, .int .i64 0, .int .i64 0, .int .i64 0, .bool false, .int .i64 0, .int .i64 0, .int .u64 0, .int .u64 0, .int .i64 0, .int .i64 0, .int .i64 0, .int .i64 0, .int .i64 0, .int .i64 0] 143) = w1 at *
 obtain ⟨rk, hrk⟩ : ∃ r, w.heap.size = r := ⟨_, rfl⟩
 rw [hrk] at B1 B2 hb0
 try rw [hrk]
 have l1 := B1.lt
 have l2 := B2.lt
 go_upto_region 2 with (with_reducible refine wpList_store_blk rfl rfl 143 (.tmp 3) (.tmp 6) rfl w1.heap.size 0 rfl (Blk.new w1 143 #[.bool false, .int .i64 0, .int .i64 0, .int .u64 0, .int .u64 0, .int .i64 0, .int .i64 0, .int .i64 0, .int .i64 0, .int .i64 0, .int .i64 0, .bool false, .int .i64 0, .int .i64 0, .int .u64 0, .int .u64 0, .int .i64 0, .int .i64 0, .int .i64 0, .int .i64 0, .int .i64 0, .int .i64 0]) [.bool false, .int .i64 0, .int .i64 0, .int .u64 0, .int .u64 0, .int .i64 0, .int .i64 0, .int .i64 0, .int .i64 0, .int .i64 0, .int .i64 0, .bool false, .int .i64 0, .int .i64 0, .int .u64 0, .int .u64 0, .int .i64 0, .int .i64 0, .int .i64 0, .int .i64 0, .int .i64 0, .int .i64 0] rfl (Nat.le_of_ble_eq_true (by kernel_rfl)) (by kernel_rfl) rfl ?_; intro wo B3 hc hz)
 have hn := w1.size_alloc (.cells #[.bool false, .int .i64 0, .int .i64 0, .int .u64 0, .int .u64 0, .int .i64 0, .int .i64 0, .int .i64 0, .int .i64 0, .int .i64 0, .int .i64 0, .bool false, .int .i64 0, .int .i64 0, .int .u64 0, .int .u64 0, .int .i64 0, .int .i64 0, .int .i64 0, .int .i64 0, .int .i64 0, .int .i64 0] 143)
 have kk : Chg (· = w1.heap.size) w1 wo := (Chg.of_below (F := (· = w1.heap.size)) (below_alloc (Below.refl w1.heap.size w1) (.cells #[.bool false, .int .i64 0, .int .i64 0, .int .u64 0, .int .u64 0, .int .i64 0, .int .i64 0, .int .i64 0, .int .i64 0, .int .i64 0, .int .i64 0, .bool false, .int .i64 0, .int .i64 0, .int .u64 0, .int .u64 0, .int .i64 0, .int .i64 0, .int .i64 0, .int .i64 0, .int .i64 0, .int .i64 0] 143))).trans hc (fun _ _ h => h)
 replace B1 := B1.chg kk (fun e => by omega)
 replace B2 := B2.chg kk (fun e => by omega)
 replace B3 : Blk wo w1.heap.size 143 #[.bool false, .int .i64 0, .int .i64 0, .int .u64 0, .int .u64 0, .int .i64 0, .int .i64 0, .int .i64 0, .int .i64 0, .int .i64 0, .int .i64 0, .bool false, .int .i64 0, .int .i64 0, .int .u64 0, .int .u64 0, .int .i64 0, .int .i64 0, .int .i64 0, .int .i64 0, .int .i64 0, .int .i64 0] := B3
 replace hb0 := below_chg hb0 kk (fun y hy e => by have e2 : y = w1.heap.size := e; omega) (by omega)
 obtain ⟨ro, hro⟩ : ∃ r, w1.heap.size = r := ⟨_, rfl⟩
 rw [hro] at B3 l1 l2
 try rw [hro]
 clear kk hc hz hn
 go_upto_region 3 with (first
  | (with_reducible refine wpList_load_blk rfl 26 (.tmp 7) rfl rk 0 rfl B1 [.bool nw, .int .i64 ns, .int .i64 ng] rfl _ Tryz.underlying26 rfl (by kernel_rfl) ?_)
  | (with_reducible refine wpList_load_blk rfl 26 (.tmp 9) rfl rk 3 rfl B1 [.bool ww, .int .i64 ws, .int .i64 wg] rfl _ Tryz.underlying26 rfl (by kernel_rfl) ?_))
 refine wp_loop_rounds 3 ?_
 rw [rounds_succ]
 go_upto_region 5 with fail
 change Code.wp _ _ _ _ (wo.alloc (.cells #[.bool nw, .int .i64 ns, .int .i64 ng] 26))
 have hv0 := Blk.new wo 26 #[.bool nw, .int .i64 ns, .int .i64 ng]
 have kk0 : Below wo.heap.size wo (wo.alloc (.cells #[.bool nw, .int .i64 ns, .int .i64 ng] 26)) := below_alloc (Below.refl _ _) _
 have hz0' : wo.heap.size < (wo.alloc (.cells #[.bool nw, .int .i64 ns, .int .i64 ng] 26)).heap.size := hv0.lt
 generalize wo.alloc (.cells #[.bool nw, .int .i64 ns, .int .i64 ng] 26) = v0 at *
 have l1 := B1.lt
 have l2 := B2.lt
 have l3 := B3.lt
 replace B1 := B1.call kk0
 replace B2 := B2.call kk0
 replace B3 := B3.call kk0
 replace hb0 := below_call2 kk0 hb0 (by omega)
 have c8 : v0.cell? ⟨rk, 8, none⟩ = some (.int .i64 np) := B1.cell 8
 have c13 : v0.cell? ⟨rk, 13, none⟩ = some (.int .i64 G) := B1.cell 13
 clear kk0 l1 l2 l3
 go_upto_region 6 with (first
  | (with_reducible refine wpList_load_blk rfl 26 (.tmp 5) rfl wo.heap.size 0 rfl hv0 [.bool nw, .int .i64 ns, .int .i64 ng] rfl _ Tryz.underlying26 rfl (by kernel_rfl) ?_)
  | (with_reducible refine wpList_load_blk rfl 28 (.tmp 18) rfl rk 6 rfl B1 [.int .u64 ka, .int .u64 kb] rfl _ Tryz.underlying28 rfl (by kernel_rfl) ?_)
  | (with_reducible refine wpList_load_blk rfl 30 (.tmp 22) rfl rk 9 rfl B1 [.int .i64 a, .int .i64 b, .int .i64 c, .int .i64 d] rfl _ Tryz.underlying30 rfl (by kernel_rfl) ?_)
  | (with_reducible refine wpList_store_blk rfl rfl 142 (.tmp 27) (.tmp 26) rfl ro 0 rfl B3 [.bool nw, .int .i64 ns, .int .i64 ng, .int .u64 ka, .int .u64 kb, .int .i64 np, .int .i64 a, .int .i64 b, .int .i64 c, .int .i64 d, .int .i64 G] rfl (Nat.le_of_ble_eq_true (by kernel_rfl)) (by kernel_rfl) rfl ?_; intro w2 hB2 hc0 hz0))
 replace B1 := B1.chg hc0 (fun e => by omega)
 replace B2 := B2.chg hc0 (fun e => by omega)
 replace B3 : Blk w2 ro 143 #[.bool nw, .int .i64 ns, .int .i64 ng, .int .u64 ka, .int .u64 kb, .int .i64 np, .int .i64 a, .int .i64 b, .int .i64 c, .int .i64 d, .int .i64 G, .bool false, .int .i64 0, .int .i64 0, .int .u64 0, .int .u64 0, .int .i64 0, .int .i64 0, .int .i64 0, .int .i64 0, .int .i64 0, .int .i64 0] := hB2
 replace hb0 := below_chg hb0 hc0 (fun y hy e => by have e2 : y = ro := e; omega) (by have := hb0.size; have := hv0.lt; omega)
 clear hB2 hc0 hz0 hz0' hv0 c8 c13
 go_wp2_with fail
 rw [rounds_succ]
 go_upto_region 5 with fail
 change Code.wp _ _ _ _ (w2.alloc (.cells #[.bool ww, .int .i64 ws, .int .i64 wg] 26))
 have hv1 := Blk.new w2 26 #[.bool ww, .int .i64 ws, .int .i64 wg]
 have kk1 : Below w2.heap.size w2 (w2.alloc (.cells #[.bool ww, .int .i64 ws, .int .i64 wg] 26)) := below_alloc (Below.refl _ _) _
 have hz1' : w2.heap.size < (w2.alloc (.cells #[.bool ww, .int .i64 ws, .int .i64 wg] 26)).heap.size := hv1.lt
 generalize w2.alloc (.cells #[.bool ww, .int .i64 ws, .int .i64 wg] 26) = v1 at *
 have l1 := B1.lt
 have l2 := B2.lt
 have l3 := B3.lt
 replace B1 := B1.call kk1
 replace B2 := B2.call kk1
 replace B3 := B3.call kk1
 replace hb0 := below_call2 kk1 hb0 (by omega)
 have c8 : v1.cell? ⟨rk, 8, none⟩ = some (.int .i64 np) := B1.cell 8
 have c13 : v1.cell? ⟨rk, 13, none⟩ = some (.int .i64 G) := B1.cell 13
 clear kk1 l1 l2 l3
 go_upto_region 6 with (first
  | (with_reducible refine wpList_load_blk rfl 26 (.tmp 5) rfl w2.heap.size 0 rfl hv1 [.bool ww, .int .i64 ws, .int .i64 wg] rfl _ Tryz.underlying26 rfl (by kernel_rfl) ?_)
  | (with_reducible refine wpList_load_blk rfl 28 (.tmp 18) rfl rk 6 rfl B1 [.int .u64 ka, .int .u64 kb] rfl _ Tryz.underlying28 rfl (by kernel_rfl) ?_)
  | (with_reducible refine wpList_load_blk rfl 30 (.tmp 22) rfl rk 9 rfl B1 [.int .i64 a, .int .i64 b, .int .i64 c, .int .i64 d] rfl _ Tryz.underlying30 rfl (by kernel_rfl) ?_)
  | (with_reducible refine wpList_store_blk rfl rfl 142 (.tmp 27) (.tmp 26) rfl ro 11 rfl B3 [.bool ww, .int .i64 ws, .int .i64 wg, .int .u64 ka, .int .u64 kb, .int .i64 np, .int .i64 a, .int .i64 b, .int .i64 c, .int .i64 d, .int .i64 G] rfl (Nat.le_of_ble_eq_true (by kernel_rfl)) (by kernel_rfl) rfl ?_; intro w3 hB3 hc1 hz1))
 replace B1 := B1.chg hc1 (fun e => by omega)
 replace B2 := B2.chg hc1 (fun e => by omega)
 replace B3 : Blk w3 ro 143 #[.bool nw, .int .i64 ns, .int .i64 ng, .int .u64 ka, .int .u64 kb, .int .i64 np, .int .i64 a, .int .i64 b, .int .i64 c, .int .i64 d, .int .i64 G, .bool ww, .int .i64 ws, .int .i64 wg, .int .u64 ka, .int .u64 kb, .int .i64 np, .int .i64 a, .int .i64 b, .int .i64 c, .int .i64 d, .int .i64 G] := hB3
 replace hb0 := below_chg hb0 hc1 (fun y hy e => by have e2 : y = ro := e; omega) (by have := hb0.size; have := hv1.lt; omega)
 clear hB3 hc1 hz1 hz1' hv1 c8 c13
 go_wp2_with fail
 rw [rounds_succ]
 go_wp2_with (first
  | (with_reducible refine wpList_load_blk rfl 143 (.tmp 3) rfl ro 0 rfl B3 [.bool nw, .int .i64 ns, .int .i64 ng, .int .u64 ka, .int .u64 kb, .int .i64 np, .int .i64 a, .int .i64 b, .int .i64 c, .int .i64 d, .int .i64 G, .bool ww, .int .i64 ws, .int .i64 wg, .int .u64 ka, .int .u64 kb, .int .i64 np, .int .i64 a, .int .i64 b, .int .i64 c, .int .i64 d, .int .i64 G] rfl _ Tryz.underlying143 rfl (by kernel_rfl) ?_)
  | (with_reducible refine wpList_store_blk rfl rfl 143 (.tmp 2) (.tmp 29) rfl (rk + 1) 0 rfl B2 [.bool nw, .int .i64 ns, .int .i64 ng, .int .u64 ka, .int .u64 kb, .int .i64 np, .int .i64 a, .int .i64 b, .int .i64 c, .int .i64 d, .int .i64 G, .bool ww, .int .i64 ws, .int .i64 wg, .int .u64 ka, .int .u64 kb, .int .i64 np, .int .i64 a, .int .i64 b, .int .i64 c, .int .i64 d, .int .i64 G] rfl (Nat.le_of_ble_eq_true (by kernel_rfl)) (by kernel_rfl) rfl ?_; intro w4 hB4 hc4 hz4))
 replace hb0 := below_chg hb0 hc4 (fun y hy e => by have e2 : y = rk + 1 := e; omega) (by have := B1.lt; omega)
 refine bodyPost_ret (v := .agg #[.bool nw, .int .i64 ns, .int .i64 ng, .int .u64 ka, .int .u64 kb, .int .i64 np, .int .i64 a, .int .i64 b, .int .i64 c, .int .i64 d, .int .i64 G, .bool ww, .int .i64 ws, .int .i64 wg, .int .u64 ka, .int .u64 kb, .int .i64 np, .int .i64 a, .int .i64 b, .int .i64 c, .int .i64 d, .int .i64 G]) (results_cell rfl rfl (loadVar_blk 143 hB4 [.bool nw, .int .i64 ns, .int .i64 ng, .int .u64 ka, .int .u64 kb, .int .i64 np, .int .i64 a, .int .i64 b, .int .i64 c, .int .i64 d, .int .i64 G, .bool ww, .int .i64 ws, .int .i64 wg, .int .u64 ka, .int .u64 kb, .int .i64 np, .int .i64 a, .int .i64 b, .int .i64 c, .int .i64 d, .int .i64 G] rfl _ Tryz.underlying143 rfl (by kernel_rfl))) rfl ?_
 exact ⟨rfl, by rw [hrk]; exact hb0⟩
end Go.Proofs.YtohapcacckapoaaGreat
