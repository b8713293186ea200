/- table: the chapter's example, called. table: entries compared; a generation's lowest bit. -/
import Derived.Test.YtmkknjhalcocmaaGreatJ22
import Derived.Test.YtmkknjhalcocmaaGreatJ14
import Derived.Laws.StructEq
import Derived.Laws.Bits64b
namespace Go.Proofs.YtmkknjhalcocmaaGreat
open Go Go.RowKit Go.Deep Go.Maps Go.ChangeMaps

theorem right_idle {a b c d G : Int} (h : rightS a b c d = true) : TCfg.right ⟨a, b, c, d, G⟩ := by
  intro st
  unfold rightS okT at h
  simp at h
  show 0 ≤ idleS a b c d st ∧ idleS a b c d st ≤ 1048576
  unfold idleS
  repeat' split
  all_goals omega
abbrev awT : Tup := ⟨17, false, 0, 0, false, 0, 0, 0, 0⟩
def awC : TCfg := ⟨1, 1, 1, 1, 1⟩
def awS0 : TSt := ⟨0, [], upto 1 0, fun k => { slt0 with sl := k }, 0⟩
def awS1 : TSt := openS awC 1 awS0 awT 1 0
def awS2 : TSt := openS awC 1 awS1 awT 1 0
def awS3 : TSt := closeS 1 awS2 0
theorem aw_facts : openE awS0 awT 1 0 = 0 ∧ (openV awC awS0 awT 1 0).gen = 0 ∧ openE awS1 awT 1 0 = 9 ∧ closeOk 1 awS2 0 = true ∧ openE awS3 awT 1 0 = 0 ∧ (openV awC awS3 awT 1 0).sl = 0 ∧ (openV awC awS3 awT 1 0).gen = 1 := by
  refine ⟨?_, ?_, ?_, ?_, ?_, ?_, ?_⟩ <;> rfl
set_option maxRecDepth 100000 in
set_option maxHeartbeats 8000000 in
theorem awake19 (w : World) : Calls Tryz.prog 4 #[] w fun e w' => e = .returned (.bool true) ∧ Below w.heap.size w w' := by
  obtain ⟨e1, e2, e3, e4, e5, e6, e7⟩ := aw_facts
  have P0 := Blk.new w 37 awT.cells.toArray
  have hb0 : Below w.heap.size w (w.alloc (.cells awT.cells.toArray 37)) := below_alloc (Below.refl _ _) _
  go_enter Tryz.func4, Tryz.ntmps4
  go_upto_region 2 with fail
  change Code.wp _ _ _ _ (w.alloc (.cells awT.cells.toArray 37))
  obtain ⟨p, hp⟩ : ∃ p, w.heap.size = p := ⟨_, rfl⟩
  have hpw : w.heap.size ≤ p := Nat.le_of_eq hp
  rw [hp] at P0
  generalize w.alloc (.cells awT.cells.toArray 37) = w1 at *
  try rw [hp]
  have NW : Calls Tryz.prog 5 #[.int .i64 0, .agg #[.int .i64 1, .int .i64 1, .int .i64 1, .int .i64 1], .int .i64 1] w1 _ := tabn_new (w0 := w) (w := w1) (K := fun b => b = p) 0 (by omega) 1 1 1 1 rfl 1 (by omega) hb0 (fun b hb => by have := P0.lt; omega) (right_idle rfl)
  replace NW := Lib.hid NW
  go_upto_region 3 with (go_at_call 5; (with_reducible refine NW.out.mono ?_); rintro e w2 ⟨g, sb, rfl, hT0, hb1⟩)
  have hT : TabN w w2 g sb 1 awC awS0 (fun b => b = p) := hT0
  have P := P0.call hb1
  clear P0 hb1 NW hT0
  have hpl := P.lt
  have hK : ∀ b, (b = p) → b < w2.heap.size := fun b hb => by omega
  have q0 : w2.cell? ⟨p, 0, none⟩ = some (.int .i64 17) := P.cell 0
  have q1 : w2.cell? ⟨p, 1, none⟩ = some (.bool false) := P.cell 1
  have q2 : w2.cell? ⟨p, 2, none⟩ = some (.int .u64 0) := P.cell 2
  have q3 : w2.cell? ⟨p, 3, none⟩ = some (.int .u64 0) := P.cell 3
  have q4 : w2.cell? ⟨p, 4, none⟩ = some (.bool false) := P.cell 4
  have q5 : w2.cell? ⟨p, 5, none⟩ = some (.int .u64 0) := P.cell 5
  have q6 : w2.cell? ⟨p, 6, none⟩ = some (.int .u64 0) := P.cell 6
  have q7 : w2.cell? ⟨p, 7, none⟩ = some (.int .i64 0) := P.cell 7
  have q8 : w2.cell? ⟨p, 8, none⟩ = some (.int .i64 0) := P.cell 8
  have OP : Calls Tryz.prog 13 #[.pointer (some ⟨g, 0, none⟩), .agg #[.int .i64 17, .bool false, .int .u64 0, .int .u64 0, .bool false, .int .u64 0, .int .u64 0, .int .i64 0, .int .i64 0], .int .i64 1, .int .i64 0] w2 _ := tabn_open hT hK awT 1 0
  rw [e1] at OP
  obtain ⟨x2, hx2⟩ : ∃ x, openV awC awS0 awT 1 0 = x := ⟨_, rfl⟩
  rw [hx2] at OP
  replace OP := Lib.hid OP
  replace hx2 := Lib.hid hx2
  replace hT := Lib.hid hT
  go_upto_region 4 with (go_at_call 13; (with_reducible refine OP.out.mono ?_); rintro e v2 ⟨rfl, hT2, hc⟩)
  change Code.wp _ _ _ _ (v2.alloc (.cells x2.entA 55))
  have P2 := P.chg hc (fun e => e.2 (by simp))
  have B := Blk.new v2 55 x2.entA
  have hal := below_alloc (Below.refl v2.heap.size v2) (.cells x2.entA 55)
  have P3 := P2.call hal
  have hT3 := hT2.alloc (.cells x2.entA 55)
  obtain ⟨r2, hr2⟩ : ∃ r, v2.heap.size = r := ⟨_, rfl⟩
  rw [hr2] at B hT3
  try rw [hr2]
  generalize v2.alloc (.cells x2.entA 55) = w3 at *
  clear OP hT hT2 hc P2 P hK hal hpl  q0 q1 q2 q3 q4 q5 q6 q7 q8
  rename Blk w3 p _ _ => P
  have Br2 := B
  clear B
  have hT : TabN w w3 g sb 1 awC (awS1) (fun b => b = p ∨ b = r2) := hT3.mono (fun b hb => by omega)
  clear hT3
  have hpl := P.lt
  have hlr2 := Br2.lt
  have hK : ∀ b, (b = p ∨ b = r2) → b < w3.heap.size := fun b hb => by omega
  have q0 : w3.cell? ⟨p, 0, none⟩ = some (.int .i64 17) := P.cell 0
  have q1 : w3.cell? ⟨p, 1, none⟩ = some (.bool false) := P.cell 1
  have q2 : w3.cell? ⟨p, 2, none⟩ = some (.int .u64 0) := P.cell 2
  have q3 : w3.cell? ⟨p, 3, none⟩ = some (.int .u64 0) := P.cell 3
  have q4 : w3.cell? ⟨p, 4, none⟩ = some (.bool false) := P.cell 4
  have q5 : w3.cell? ⟨p, 5, none⟩ = some (.int .u64 0) := P.cell 5
  have q6 : w3.cell? ⟨p, 6, none⟩ = some (.int .u64 0) := P.cell 6
  have q7 : w3.cell? ⟨p, 7, none⟩ = some (.int .i64 0) := P.cell 7
  have q8 : w3.cell? ⟨p, 8, none⟩ = some (.int .i64 0) := P.cell 8
  have OP : Calls Tryz.prog 13 #[.pointer (some ⟨g, 0, none⟩), .agg #[.int .i64 17, .bool false, .int .u64 0, .int .u64 0, .bool false, .int .u64 0, .int .u64 0, .int .i64 0, .int .i64 0], .int .i64 1, .int .i64 0] w3 _ := tabn_open hT hK awT 1 0
  rw [e3] at OP
  obtain ⟨x3, hx3⟩ : ∃ x, openV awC awS1 awT 1 0 = x := ⟨_, rfl⟩
  rw [hx3] at OP
  replace OP := Lib.hid OP
  replace hx3 := Lib.hid hx3
  replace hT := Lib.hid hT
  go_upto_region 5 with (go_at_call 13; (with_reducible refine OP.out.mono ?_); rintro e v3 ⟨rfl, hT2, hc⟩)
  change Code.wp _ _ _ _ (v3.alloc (.cells x3.entA 55))
  have P2 := P.chg hc (fun e => e.2 (by simp))
  have B2r2 := Br2.chg hc (fun e => e.2 (by simp))
  have B := Blk.new v3 55 x3.entA
  have hal := below_alloc (Below.refl v3.heap.size v3) (.cells x3.entA 55)
  have P3 := P2.call hal
  have B3r2 := B2r2.call hal
  have hT3 := hT2.alloc (.cells x3.entA 55)
  obtain ⟨r3, hr3⟩ : ∃ r, v3.heap.size = r := ⟨_, rfl⟩
  rw [hr3] at B hT3
  try rw [hr3]
  generalize v3.alloc (.cells x3.entA 55) = w4 at *
  clear OP hT hT2 hc P2 P hK hal hpl B2r2 Br2 hlr2 q0 q1 q2 q3 q4 q5 q6 q7 q8
  rename Blk w4 p _ _ => P
  rename Blk w4 r2 _ _ => Br2
  clear B
  have hT : TabN w w4 g sb 1 awC (awS2) (fun b => b = p ∨ b = r2) := hT3.mono (fun b hb => by omega)
  clear hT3
  have hpl := P.lt
  have hlr2 := Br2.lt
  have hK : ∀ b, (b = p ∨ b = r2) → b < w4.heap.size := fun b hb => by omega
  have OP : Calls Tryz.prog 14 #[.pointer (some ⟨g, 0, none⟩), .int .i64 0] w4 _ := tabn_close hT hK 0
  rw [e4] at OP
  obtain ⟨x4, hx4⟩ : ∃ x, closeV 1 awS2 0 = x := ⟨_, rfl⟩
  rw [hx4] at OP
  replace OP := Lib.hid OP
  replace hx4 := Lib.hid hx4
  replace hT := Lib.hid hT
  go_upto_region 6 with (go_at_call 14; (with_reducible refine OP.out.mono ?_); rintro e v4 ⟨rfl, hT2, hc⟩)
  change Code.wp _ _ _ _ (v4.alloc (.cells x4.entA 55))
  have P2 := P.chg hc (fun e => e.2 (by simp))
  have B2r2 := Br2.chg hc (fun e => e.2 (by simp))
  have B := Blk.new v4 55 x4.entA
  have hal := below_alloc (Below.refl v4.heap.size v4) (.cells x4.entA 55)
  have P3 := P2.call hal
  have B3r2 := B2r2.call hal
  have hT3 := hT2.alloc (.cells x4.entA 55)
  obtain ⟨r4, hr4⟩ : ∃ r, v4.heap.size = r := ⟨_, rfl⟩
  rw [hr4] at B hT3
  try rw [hr4]
  generalize v4.alloc (.cells x4.entA 55) = w5 at *
  clear OP hT hT2 hc P2 P hK hal hpl B2r2 Br2 hlr2
  rename Blk w5 p _ _ => P
  rename Blk w5 r2 _ _ => Br2
  clear B
  have hT : TabN w w5 g sb 1 awC (awS3) (fun b => b = p ∨ b = r2) := hT3.mono (fun b hb => by omega)
  clear hT3
  have hpl := P.lt
  have hlr2 := Br2.lt
  have hK : ∀ b, (b = p ∨ b = r2) → b < w5.heap.size := fun b hb => by omega
  have q0 : w5.cell? ⟨p, 0, none⟩ = some (.int .i64 17) := P.cell 0
  have q1 : w5.cell? ⟨p, 1, none⟩ = some (.bool false) := P.cell 1
  have q2 : w5.cell? ⟨p, 2, none⟩ = some (.int .u64 0) := P.cell 2
  have q3 : w5.cell? ⟨p, 3, none⟩ = some (.int .u64 0) := P.cell 3
  have q4 : w5.cell? ⟨p, 4, none⟩ = some (.bool false) := P.cell 4
  have q5 : w5.cell? ⟨p, 5, none⟩ = some (.int .u64 0) := P.cell 5
  have q6 : w5.cell? ⟨p, 6, none⟩ = some (.int .u64 0) := P.cell 6
  have q7 : w5.cell? ⟨p, 7, none⟩ = some (.int .i64 0) := P.cell 7
  have q8 : w5.cell? ⟨p, 8, none⟩ = some (.int .i64 0) := P.cell 8
  have OP : Calls Tryz.prog 13 #[.pointer (some ⟨g, 0, none⟩), .agg #[.int .i64 17, .bool false, .int .u64 0, .int .u64 0, .bool false, .int .u64 0, .int .u64 0, .int .i64 0, .int .i64 0], .int .i64 1, .int .i64 0] w5 _ := tabn_open hT hK awT 1 0
  rw [e5] at OP
  obtain ⟨x5, hx5⟩ : ∃ x, openV awC awS3 awT 1 0 = x := ⟨_, rfl⟩
  rw [hx5] at OP
  replace OP := Lib.hid OP
  replace hx5 := Lib.hid hx5
  replace hT := Lib.hid hT
  go_upto_region 7 with (go_at_call 13; (with_reducible refine OP.out.mono ?_); rintro e v5 ⟨rfl, hT2, hc⟩)
  change Code.wp _ _ _ _ (v5.alloc (.cells x5.entA 55))
  have P2 := P.chg hc (fun e => e.2 (by simp))
  have B2r2 := Br2.chg hc (fun e => e.2 (by simp))
  have B := Blk.new v5 55 x5.entA
  have hal := below_alloc (Below.refl v5.heap.size v5) (.cells x5.entA 55)
  have P3 := P2.call hal
  have B3r2 := B2r2.call hal
  have hT3 := hT2.alloc (.cells x5.entA 55)
  obtain ⟨r5, hr5⟩ : ∃ r, v5.heap.size = r := ⟨_, rfl⟩
  rw [hr5] at B hT3
  try rw [hr5]
  generalize v5.alloc (.cells x5.entA 55) = w6 at *
  clear OP hT hT2 hc P2 P hK hal hpl B2r2 Br2 hlr2 q0 q1 q2 q3 q4 q5 q6 q7 q8
  rename Blk w6 p _ _ => P
  rename Blk w6 r2 _ _ => Br2
  have Br5 := B
  clear B
  have hT : TabN w w6 g sb 1 awC (openS awC 1 awS3 awT 1 0) (fun b => b = p ∨ b = r2 ∨ b = r5) := hT3.mono (fun b hb => by omega)
  clear hT3
  have hbT := hT.below
  have g2 : w6.cell? ⟨r2, 12, none⟩ = some (.int .u64 0) := (Br2.cell 12).trans (by simp only [← hx2.out]; rfl)
  have g5 : w6.cell? ⟨r5, 11, none⟩ = some (.int .i64 0) := (Br5.cell 11).trans (by simp only [← hx5.out]; rfl)
  have g6 : w6.cell? ⟨r5, 12, none⟩ = some (.int .u64 1) := (Br5.cell 12).trans (by simp only [← hx5.out]; rfl)
  have HC := Lib.hid fun W (hb : Below w6.heap.size w6 W) => show W.cell? ⟨r2, 12, none⟩ = some (.int .u64 0) ∧ W.cell? ⟨r5, 11, none⟩ = some (.int .i64 0) ∧ W.cell? ⟨r5, 12, none⟩ = some (.int .u64 1) from ⟨(hb.cell (block_lt_of_cell g2)).trans g2, (hb.cell (block_lt_of_cell g5)).trans g5, (hb.cell (block_lt_of_cell g6)).trans g6⟩
  clear g2 g5 g6 hT Br2 Br5 e1 e2 e3 e4 e5 e6 e7 hx2 hx3 hx4 hx5 hr2 hr3 hr4 hr5
  have Z := Blk.new w6 64 tabZ
  have hb6 := below_alloc (Below.refl w6.heap.size w6) (.cells tabZ 64)
  have P7 := P.call hb6
  go_upto_region 9 with fail
  change Code.wp _ _ _ _ (w6.alloc (.cells tabZ 64))
  obtain ⟨z, hz⟩ : ∃ z, w6.heap.size = z := ⟨_, rfl⟩
  rw [hz] at Z
  try rw [hz]
  generalize w6.alloc (.cells tabZ 64) = w7 at *
  clear P
  have q0 : w7.cell? ⟨p, 0, none⟩ = some (.int .i64 17) := P7.cell 0
  have q1 : w7.cell? ⟨p, 1, none⟩ = some (.bool false) := P7.cell 1
  have q2 : w7.cell? ⟨p, 2, none⟩ = some (.int .u64 0) := P7.cell 2
  have q3 : w7.cell? ⟨p, 3, none⟩ = some (.int .u64 0) := P7.cell 3
  have q4 : w7.cell? ⟨p, 4, none⟩ = some (.bool false) := P7.cell 4
  have q5 : w7.cell? ⟨p, 5, none⟩ = some (.int .u64 0) := P7.cell 5
  have q6 : w7.cell? ⟨p, 6, none⟩ = some (.int .u64 0) := P7.cell 6
  have q7 : w7.cell? ⟨p, 7, none⟩ = some (.int .i64 0) := P7.cell 7
  have q8 : w7.cell? ⟨p, 8, none⟩ = some (.int .i64 0) := P7.cell 8
  have ON : Calls Tryz.prog 13 #[.pointer none, .agg #[.int .i64 17, .bool false, .int .u64 0, .int .u64 0, .bool false, .int .u64 0, .int .u64 0, .int .i64 0, .int .i64 0], .int .i64 1, .int .i64 0] w7 _ := tab_open_nil awT 1 0 w7
  replace ON := Lib.hid ON
  go_upto_region 10 with (go_at_call 13; (with_reducible refine ON.out.mono ?_); rintro e w8 ⟨rfl, hb7⟩)
  change Code.wp _ _ _ _ (w8.alloc (.cells slt0.entA 55))
  have hb8 := below_alloc hb7 (.cells slt0.entA 55)
  have P9 := P7.call hb8
  have Z9 := Z.call hb8
  generalize w8.alloc (.cells slt0.entA 55) = w9 at *
  clear ON q0 q1 q2 q3 q4 q5 q6 q7 q8 P7 Z hb7
  have GP := Lib.hid (tab_go_plain Z9 1)
  have q0 : w9.cell? ⟨p, 0, none⟩ = some (.int .i64 17) := P9.cell 0
  have q1 : w9.cell? ⟨p, 1, none⟩ = some (.bool false) := P9.cell 1
  have q2 : w9.cell? ⟨p, 2, none⟩ = some (.int .u64 0) := P9.cell 2
  have q3 : w9.cell? ⟨p, 3, none⟩ = some (.int .u64 0) := P9.cell 3
  have q4 : w9.cell? ⟨p, 4, none⟩ = some (.bool false) := P9.cell 4
  have q5 : w9.cell? ⟨p, 5, none⟩ = some (.int .u64 0) := P9.cell 5
  have q6 : w9.cell? ⟨p, 6, none⟩ = some (.int .u64 0) := P9.cell 6
  have q7 : w9.cell? ⟨p, 7, none⟩ = some (.int .i64 0) := P9.cell 7
  have q8 : w9.cell? ⟨p, 8, none⟩ = some (.int .i64 0) := P9.cell 8
  have FN : Calls Tryz.prog 16 #[.pointer none, .agg #[.int .i64 17, .bool false, .int .u64 0, .int .u64 0, .bool false, .int .u64 0, .int .u64 0, .int .i64 0, .int .i64 0], .int .i64 0, .int .u64 0, .int .i64 0] w9 _ := tab_find_nil awT 0 0 0 w9
  replace FN := Lib.hid FN
  go_upto_region 12 with (first
    | (go_at_call 15; (with_reducible refine GP.out.mono ?_); rintro e w10 ⟨rfl, rfl⟩)
    | (go_at_call 16; (with_reducible refine FN.out.mono ?_); rintro e w10 ⟨rfl, hb9⟩))
  change Code.wp _ _ _ _ (w10.alloc (.cells slt0.entA 55))
  have hb10 := below_alloc hb9 (.cells slt0.entA 55)
  have Z11 := Z9.call hb10
  generalize w10.alloc (.cells slt0.entA 55) = w11 at *
  have hb611 := below_chain hb10 (below_chain hb8 hb6)
  have hbF := below_chain hb611 hbT
  obtain ⟨g2, g5, g6⟩ := HC.out _ hb611
  clear FN GP q0 q1 q2 q3 q4 q5 q6 q7 q8 P9 Z9 hb9 hb10 hb8 hb6 HC hb0
  have LP := Lib.hid (tab_looks_plain Z11)
  have DP := Lib.hid (tab_drop_plain Z11 1)
  go_wp2_with (first
    | (go_at_call 10; (with_reducible refine (tab_free_nil _).mono ?_); rintro e v8 ⟨rfl, rfl⟩)
    | (go_at_call 11; (with_reducible refine LP.out.mono ?_); rintro e v8 ⟨rfl, rfl⟩)
    | (go_at_call 9; (with_reducible refine (tab_live_nil _).mono ?_); rintro e v8 ⟨rfl, rfl⟩)
    | (go_at_call 17; (with_reducible refine DP.out.mono ?_); rintro e v9 ⟨rfl, hb12⟩))
  go_ret
  exact ⟨rfl, below_chain hb12 hbF⟩
end Go.Proofs.YtmkknjhalcocmaaGreat

namespace Go.Proofs.YtmkknjhalcocmaaGreat
open Go Go.RowKit Go.Deep Go.Maps Go.ChangeMaps

theorem tup_eql (t u : Tup) (w : World) : (binOp .eql 37 t.val u.val).run Tryz.prog w = .ok (.bool (tupB t u)) w := by
  have h := tup_neq t u w
  rw [run_neq_struct] at h
  rw [run_eql_struct]
  cases hh : (Op.equalIn 10000 37 t.val u.val).run Tryz.prog w with
  | ok b w' =>
    rw [hh] at h
    simp only [Result.andThen] at h ⊢
    simp only [Result.ok.injEq, Value.bool.injEq] at h
    obtain ⟨h1, rfl⟩ := h
    have : b = tupB t u := by cases b <;> cases hq : tupB t u <;> simp_all
    rw [this]
  | _ => rw [hh] at h; simp [Result.andThen] at h
theorem tupB_comm (t u : Tup) : tupB t u = tupB u t := by
  rw [Bool.eq_iff_iff, tupB_iff, tupB_iff]
  exact eq_comm
theorem tupB_self (t : Tup) : tupB t t = true := tupB_iff.2 rfl
/-- Are entries one? -/
def entB (x y : Slt) : Bool := tupB x.t y.t && (x.bk == y.bk && (x.st == y.st && (x.sl == y.sl && (x.gen == y.gen && x.due == y.due))))
theorem ent_eql (x y : Slt) (w : World) : (binOp .eql 55 x.val y.val).run Tryz.prog w = .ok (.bool (entB x y)) w := by
  have u3 := Tryz.underlying3
  have a3 := Tryz.isAgg3
  have z3 := Tryz.sizeOf3
  have u4 := Tryz.underlying33
  have a4 := Tryz.isAgg33
  have z4 := Tryz.sizeOf33
  have u5 := Tryz.underlying4
  have a5 := Tryz.isAgg4
  have z5 := Tryz.sizeOf4
  have a6 := Tryz.isAgg35
  have z6 := Tryz.sizeOf35
  have a7 := Tryz.isAgg37
  have z7 := Tryz.sizeOf37
  have hS : Tryz.prog.underlying 55 = some (.struct (Tryz.prog.fieldsOf 55)) := by kernel_rfl
  have hp : Tryz.prog.stoodInHeld 55 = false := by kernel_rfl
  have hS1 : Tryz.prog.underlying 37 = some (.struct (Tryz.prog.fieldsOf 37)) := by kernel_rfl
  have hp1 : Tryz.prog.stoodInHeld 37 = false := by kernel_rfl
  have hS2 : Tryz.prog.underlying 35 = some (.struct (Tryz.prog.fieldsOf 35)) := by kernel_rfl
  have hp2 : Tryz.prog.stoodInHeld 35 = false := by kernel_rfl
  have hA := fun (d : Nat) (xs ys : Array Value) => run_equalIn_agg w d 35 xs ys hS2 hp2
  have hT := fun (d : Nat) (xs ys : Array Value) => run_equalIn_agg w d 37 xs ys hS1 hp1
  rw [run_eql_struct, show (10000 : Nat) = 9999 + 1 from rfl, run_equalIn_agg w 9999 55 _ _ hS hp]
  clear hS hp hS2 hp2 hS1 hp1
  simp only [Program.fieldsOf, Tryz.underlying55, Tryz.underlying37, Tryz.underlying35] at hA hT ⊢
  unfold entB tupB
  obtain ⟨⟨a1, a2, a3, a4, a5, a6, a7, a8, a9⟩, b1, b2, b3, b4, b5, -⟩ := x
  obtain ⟨⟨c1, c2, c3, c4, c5, c6, c7, c8, c9⟩, d1, d2, d3, d4, d5, -⟩ := y
  go_simp
  by_cases h1 : a1 = c1
  case neg => simp [h1]
  by_cases h2 : a2 = c2
  case neg => simp [h1, h2]
  by_cases h3 : a3 = c3
  case neg =>
    have g3 : ¬ ((a3 : Int) = (c3 : Int)) := by omega
    simp [h1, h2, h3, g3]
  by_cases h4 : a4 = c4
  case neg =>
    have g4 : ¬ ((a4 : Int) = (c4 : Int)) := by omega
    simp [h1, h2, h3, h4, g4]
  by_cases h5 : a5 = c5
  case neg => simp [h1, h2, h3, h4, h5]
  by_cases h6 : a6 = c6
  case neg =>
    have g6 : ¬ ((a6 : Int) = (c6 : Int)) := by omega
    simp [h1, h2, h3, h4, h5, h6, g6]
  by_cases h7 : a7 = c7
  case neg =>
    have g7 : ¬ ((a7 : Int) = (c7 : Int)) := by omega
    simp [h1, h2, h3, h4, h5, h6, h7, g7]
  by_cases h8 : a8 = c8
  case neg => simp [h1, h2, h3, h4, h5, h6, h7, h8]
  by_cases h9 : a9 = c9
  case neg => simp [h1, h2, h3, h4, h5, h6, h7, h8, h9]
  by_cases k1 : b1 = d1
  case neg => simp [h1, h2, h3, h4, h5, h6, h7, h8, h9, k1]
  by_cases k2 : b2 = d2
  case neg => simp [h1, h2, h3, h4, h5, h6, h7, h8, h9, k1, k2]
  by_cases k3 : b3 = d3
  case neg => simp [h1, h2, h3, h4, h5, h6, h7, h8, h9, k1, k2, k3]
  by_cases k4 : b4 = d4
  case neg => simp [h1, h2, h3, h4, h5, h6, h7, h8, h9, k1, k2, k3, k4]
  by_cases k5 : b5 = d5
  case neg => simp [h1, h2, h3, h4, h5, h6, h7, h8, h9, k1, k2, k3, k4, k5]
  simp [h1, h2, h3, h4, h5, h6, h7, h8, h9, k1, k2, k3, k4, k5]
theorem low_bit {g : Int} (h : 0 ≤ g ∧ g < 18446744073709551616) : bits BinOp.and IntKind.u64 g (maskI 1) = g % 2 := by
  obtain ⟨n, rfl⟩ : ∃ n : Nat, g = (n : Int) := ⟨g.toNat, by omega⟩
  have e := bits_and_u64_nat n 1 (by omega) (by decide)
  have e2 : maskI 1 = ((1 : Nat) : Int) := rfl
  rw [e2, e, Nat.and_one_is_mod]
  omega
end Go.Proofs.YtmkknjhalcocmaaGreat
