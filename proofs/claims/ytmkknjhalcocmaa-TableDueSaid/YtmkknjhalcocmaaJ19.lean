/- table: the chapter's example, called. table: entries compared; a generation's lowest bit. table: the law TableAgain, called. table: what a call does to slots, in plain words; the law's at. table: entries as the time goes on, in plain words. table: what visitors keep in memory; the law's held and visitor. table: an entry loaded and stored whole. table: one region of the law TableDue, on a frame of which some slots alone are known. -/
import Derived.Test.YtmkknjhalcocmaaJ18
import Derived.Test.YtmkknjhalcocmaaJ14
import Derived.Laws.StructEq
import Derived.Laws.Bits64b
import Derived.Deep.CutRange
import Derived.Deep.CutBlock
import Derived.Deep.MidRow
import Derived.Deep.RegionHeld3
namespace Go.Proofs.Ytmkknjhalcocmaa
open Go Go.RowKit Go.Deep Go.Maps Go.ChangeMaps

theorem right_idle {a b c d G : Int} (h : rightS a b c d = true) : TCfg.right ⟨a, b, c, d, G⟩ := by
  intro st
  unfold rightS okT at h
  simp at h
  show 0 ≤ idleS a b c d st ∧ idleS a b c d st ≤ 1048576
  unfold idleS
  repeat' split
  all_goals omega
abbrev awT : Tup := ⟨17, false, 0, 0, false, 0, 0, 0, 0⟩
def awC : TCfg := ⟨1, 1, 1, 1, 1⟩
def awS0 : TSt := ⟨0, [], upto 1 0, fun k => { slt0 with sl := k }, 0⟩
def awS1 : TSt := openS awC 1 awS0 awT 1 0
def awS2 : TSt := openS awC 1 awS1 awT 1 0
def awS3 : TSt := closeS 1 awS2 0
theorem aw_facts : openE awS0 awT 1 0 = 0 ∧ (openV awC awS0 awT 1 0).gen = 0 ∧ openE awS1 awT 1 0 = 9 ∧ closeOk 1 awS2 0 = true ∧ openE awS3 awT 1 0 = 0 ∧ (openV awC awS3 awT 1 0).sl = 0 ∧ (openV awC awS3 awT 1 0).gen = 1 := by
  refine ⟨?_, ?_, ?_, ?_, ?_, ?_, ?_⟩ <;> rfl
set_option maxRecDepth 100000 in
set_option maxHeartbeats 8000000 in
theorem awake19 (w : World) : Calls Try.prog 6 #[] w fun e w' => e = .returned (.bool true) ∧ Below w.heap.size w w' := by
  obtain ⟨e1, e2, e3, e4, e5, e6, e7⟩ := aw_facts
  have P0 := Blk.new w 39 awT.cells.toArray
  have hb0 : Below w.heap.size w (w.alloc (.cells awT.cells.toArray 39)) := below_alloc (Below.refl _ _) _
  go_enter Try.func6, Try.ntmps6
  go_upto_region 2 with fail
  change Code.wp _ _ _ _ (w.alloc (.cells awT.cells.toArray 39))
  obtain ⟨p, hp⟩ : ∃ p, w.heap.size = p := ⟨_, rfl⟩
  have hpw : w.heap.size ≤ p := Nat.le_of_eq hp
  rw [hp] at P0
  generalize w.alloc (.cells awT.cells.toArray 39) = w1 at *
  try rw [hp]
  have NW : Calls Try.prog 7 #[.int .i64 0, .agg #[.int .i64 1, .int .i64 1, .int .i64 1, .int .i64 1], .int .i64 1] w1 _ := tabn_new (w0 := w) (w := w1) (K := fun b => b = p) 0 (by omega) 1 1 1 1 rfl 1 (by omega) hb0 (fun b hb => by have := P0.lt; omega) (right_idle rfl)
  replace NW := Lib.hid NW
  go_upto_region 3 with (go_at_call 7; (with_reducible refine NW.out.mono ?_); rintro e w2 ⟨g, sb, rfl, hT0, hb1⟩)
  have hT : TabN w w2 g sb 1 awC awS0 (fun b => b = p) := hT0
  have P := P0.call hb1
  clear P0 hb1 NW hT0
  have hpl := P.lt
  have hK : ∀ b, (b = p) → b < w2.heap.size := fun b hb => by omega
  have q0 : w2.cell? ⟨p, 0, none⟩ = some (.int .i64 17) := P.cell 0
  have q1 : w2.cell? ⟨p, 1, none⟩ = some (.bool false) := P.cell 1
  have q2 : w2.cell? ⟨p, 2, none⟩ = some (.int .u64 0) := P.cell 2
  have q3 : w2.cell? ⟨p, 3, none⟩ = some (.int .u64 0) := P.cell 3
  have q4 : w2.cell? ⟨p, 4, none⟩ = some (.bool false) := P.cell 4
  have q5 : w2.cell? ⟨p, 5, none⟩ = some (.int .u64 0) := P.cell 5
  have q6 : w2.cell? ⟨p, 6, none⟩ = some (.int .u64 0) := P.cell 6
  have q7 : w2.cell? ⟨p, 7, none⟩ = some (.int .i64 0) := P.cell 7
  have q8 : w2.cell? ⟨p, 8, none⟩ = some (.int .i64 0) := P.cell 8
  have OP : Calls Try.prog 11 #[.pointer (some ⟨g, 0, none⟩), .agg #[.int .i64 17, .bool false, .int .u64 0, .int .u64 0, .bool false, .int .u64 0, .int .u64 0, .int .i64 0, .int .i64 0], .int .i64 1, .int .i64 0] w2 _ := tabn_open hT hK awT 1 0
  rw [e1] at OP
  obtain ⟨x2, hx2⟩ : ∃ x, openV awC awS0 awT 1 0 = x := ⟨_, rfl⟩
  rw [hx2] at OP
  replace OP := Lib.hid OP
  replace hx2 := Lib.hid hx2
  replace hT := Lib.hid hT
  go_upto_region 4 with (go_at_call 11; (with_reducible refine OP.out.mono ?_); rintro e v2 ⟨rfl, hT2, hc⟩)
  change Code.wp _ _ _ _ (v2.alloc (.cells x2.entA 43))
  have P2 := P.chg hc (fun e => e.2 (by simp))
  have B := Blk.new v2 43 x2.entA
  have hal := below_alloc (Below.refl v2.heap.size v2) (.cells x2.entA 43)
  have P3 := P2.call hal
  have hT3 := hT2.alloc (.cells x2.entA 43)
  obtain ⟨r2, hr2⟩ : ∃ r, v2.heap.size = r := ⟨_, rfl⟩
  rw [hr2] at B hT3
  try rw [hr2]
  generalize v2.alloc (.cells x2.entA 43) = w3 at *
  clear OP hT hT2 hc P2 P hK hal hpl  q0 q1 q2 q3 q4 q5 q6 q7 q8
  rename Blk w3 p _ _ => P
  have Br2 := B
  clear B
  have hT : TabN w w3 g sb 1 awC (awS1) (fun b => b = p ∨ b = r2) := hT3.mono (fun b hb => by omega)
  clear hT3
  have hpl := P.lt
  have hlr2 := Br2.lt
  have hK : ∀ b, (b = p ∨ b = r2) → b < w3.heap.size := fun b hb => by omega
  have q0 : w3.cell? ⟨p, 0, none⟩ = some (.int .i64 17) := P.cell 0
  have q1 : w3.cell? ⟨p, 1, none⟩ = some (.bool false) := P.cell 1
  have q2 : w3.cell? ⟨p, 2, none⟩ = some (.int .u64 0) := P.cell 2
  have q3 : w3.cell? ⟨p, 3, none⟩ = some (.int .u64 0) := P.cell 3
  have q4 : w3.cell? ⟨p, 4, none⟩ = some (.bool false) := P.cell 4
  have q5 : w3.cell? ⟨p, 5, none⟩ = some (.int .u64 0) := P.cell 5
  have q6 : w3.cell? ⟨p, 6, none⟩ = some (.int .u64 0) := P.cell 6
  have q7 : w3.cell? ⟨p, 7, none⟩ = some (.int .i64 0) := P.cell 7
  have q8 : w3.cell? ⟨p, 8, none⟩ = some (.int .i64 0) := P.cell 8
  have OP : Calls Try.prog 11 #[.pointer (some ⟨g, 0, none⟩), .agg #[.int .i64 17, .bool false, .int .u64 0, .int .u64 0, .bool false, .int .u64 0, .int .u64 0, .int .i64 0, .int .i64 0], .int .i64 1, .int .i64 0] w3 _ := tabn_open hT hK awT 1 0
  rw [e3] at OP
  obtain ⟨x3, hx3⟩ : ∃ x, openV awC awS1 awT 1 0 = x := ⟨_, rfl⟩
  rw [hx3] at OP
  replace OP := Lib.hid OP
  replace hx3 := Lib.hid hx3
  replace hT := Lib.hid hT
  go_upto_region 5 with (go_at_call 11; (with_reducible refine OP.out.mono ?_); rintro e v3 ⟨rfl, hT2, hc⟩)
  change Code.wp _ _ _ _ (v3.alloc (.cells x3.entA 43))
  have P2 := P.chg hc (fun e => e.2 (by simp))
  have B2r2 := Br2.chg hc (fun e => e.2 (by simp))
  have B := Blk.new v3 43 x3.entA
  have hal := below_alloc (Below.refl v3.heap.size v3) (.cells x3.entA 43)
  have P3 := P2.call hal
  have B3r2 := B2r2.call hal
  have hT3 := hT2.alloc (.cells x3.entA 43)
  obtain ⟨r3, hr3⟩ : ∃ r, v3.heap.size = r := ⟨_, rfl⟩
  rw [hr3] at B hT3
  try rw [hr3]
  generalize v3.alloc (.cells x3.entA 43) = w4 at *
  clear OP hT hT2 hc P2 P hK hal hpl B2r2 Br2 hlr2 q0 q1 q2 q3 q4 q5 q6 q7 q8
  rename Blk w4 p _ _ => P
  rename Blk w4 r2 _ _ => Br2
  clear B
  have hT : TabN w w4 g sb 1 awC (awS2) (fun b => b = p ∨ b = r2) := hT3.mono (fun b hb => by omega)
  clear hT3
  have hpl := P.lt
  have hlr2 := Br2.lt
  have hK : ∀ b, (b = p ∨ b = r2) → b < w4.heap.size := fun b hb => by omega
  have OP : Calls Try.prog 14 #[.pointer (some ⟨g, 0, none⟩), .int .i64 0] w4 _ := tabn_close hT hK 0
  rw [e4] at OP
  obtain ⟨x4, hx4⟩ : ∃ x, closeV 1 awS2 0 = x := ⟨_, rfl⟩
  rw [hx4] at OP
  replace OP := Lib.hid OP
  replace hx4 := Lib.hid hx4
  replace hT := Lib.hid hT
  go_upto_region 6 with (go_at_call 14; (with_reducible refine OP.out.mono ?_); rintro e v4 ⟨rfl, hT2, hc⟩)
  change Code.wp _ _ _ _ (v4.alloc (.cells x4.entA 43))
  have P2 := P.chg hc (fun e => e.2 (by simp))
  have B2r2 := Br2.chg hc (fun e => e.2 (by simp))
  have B := Blk.new v4 43 x4.entA
  have hal := below_alloc (Below.refl v4.heap.size v4) (.cells x4.entA 43)
  have P3 := P2.call hal
  have B3r2 := B2r2.call hal
  have hT3 := hT2.alloc (.cells x4.entA 43)
  obtain ⟨r4, hr4⟩ : ∃ r, v4.heap.size = r := ⟨_, rfl⟩
  rw [hr4] at B hT3
  try rw [hr4]
  generalize v4.alloc (.cells x4.entA 43) = w5 at *
  clear OP hT hT2 hc P2 P hK hal hpl B2r2 Br2 hlr2
  rename Blk w5 p _ _ => P
  rename Blk w5 r2 _ _ => Br2
  clear B
  have hT : TabN w w5 g sb 1 awC (awS3) (fun b => b = p ∨ b = r2) := hT3.mono (fun b hb => by omega)
  clear hT3
  have hpl := P.lt
  have hlr2 := Br2.lt
  have hK : ∀ b, (b = p ∨ b = r2) → b < w5.heap.size := fun b hb => by omega
  have q0 : w5.cell? ⟨p, 0, none⟩ = some (.int .i64 17) := P.cell 0
  have q1 : w5.cell? ⟨p, 1, none⟩ = some (.bool false) := P.cell 1
  have q2 : w5.cell? ⟨p, 2, none⟩ = some (.int .u64 0) := P.cell 2
  have q3 : w5.cell? ⟨p, 3, none⟩ = some (.int .u64 0) := P.cell 3
  have q4 : w5.cell? ⟨p, 4, none⟩ = some (.bool false) := P.cell 4
  have q5 : w5.cell? ⟨p, 5, none⟩ = some (.int .u64 0) := P.cell 5
  have q6 : w5.cell? ⟨p, 6, none⟩ = some (.int .u64 0) := P.cell 6
  have q7 : w5.cell? ⟨p, 7, none⟩ = some (.int .i64 0) := P.cell 7
  have q8 : w5.cell? ⟨p, 8, none⟩ = some (.int .i64 0) := P.cell 8
  have OP : Calls Try.prog 11 #[.pointer (some ⟨g, 0, none⟩), .agg #[.int .i64 17, .bool false, .int .u64 0, .int .u64 0, .bool false, .int .u64 0, .int .u64 0, .int .i64 0, .int .i64 0], .int .i64 1, .int .i64 0] w5 _ := tabn_open hT hK awT 1 0
  rw [e5] at OP
  obtain ⟨x5, hx5⟩ : ∃ x, openV awC awS3 awT 1 0 = x := ⟨_, rfl⟩
  rw [hx5] at OP
  replace OP := Lib.hid OP
  replace hx5 := Lib.hid hx5
  replace hT := Lib.hid hT
  go_upto_region 7 with (go_at_call 11; (with_reducible refine OP.out.mono ?_); rintro e v5 ⟨rfl, hT2, hc⟩)
  change Code.wp _ _ _ _ (v5.alloc (.cells x5.entA 43))
  have P2 := P.chg hc (fun e => e.2 (by simp))
  have B2r2 := Br2.chg hc (fun e => e.2 (by simp))
  have B := Blk.new v5 43 x5.entA
  have hal := below_alloc (Below.refl v5.heap.size v5) (.cells x5.entA 43)
  have P3 := P2.call hal
  have B3r2 := B2r2.call hal
  have hT3 := hT2.alloc (.cells x5.entA 43)
  obtain ⟨r5, hr5⟩ : ∃ r, v5.heap.size = r := ⟨_, rfl⟩
  rw [hr5] at B hT3
  try rw [hr5]
  generalize v5.alloc (.cells x5.entA 43) = w6 at *
  clear OP hT hT2 hc P2 P hK hal hpl B2r2 Br2 hlr2 q0 q1 q2 q3 q4 q5 q6 q7 q8
  rename Blk w6 p _ _ => P
  rename Blk w6 r2 _ _ => Br2
  have Br5 := B
  clear B
  have hT : TabN w w6 g sb 1 awC (openS awC 1 awS3 awT 1 0) (fun b => b = p ∨ b = r2 ∨ b = r5) := hT3.mono (fun b hb => by omega)
  clear hT3
  have hbT := hT.below
  have g2 : w6.cell? ⟨r2, 12, none⟩ = some (.int .u64 0) := (Br2.cell 12).trans (by simp only [← hx2.out]; rfl)
  have g5 : w6.cell? ⟨r5, 11, none⟩ = some (.int .i64 0) := (Br5.cell 11).trans (by simp only [← hx5.out]; rfl)
  have g6 : w6.cell? ⟨r5, 12, none⟩ = some (.int .u64 1) := (Br5.cell 12).trans (by simp only [← hx5.out]; rfl)
  have HC := Lib.hid fun W (hb : Below w6.heap.size w6 W) => show W.cell? ⟨r2, 12, none⟩ = some (.int .u64 0) ∧ W.cell? ⟨r5, 11, none⟩ = some (.int .i64 0) ∧ W.cell? ⟨r5, 12, none⟩ = some (.int .u64 1) from ⟨(hb.cell (block_lt_of_cell g2)).trans g2, (hb.cell (block_lt_of_cell g5)).trans g5, (hb.cell (block_lt_of_cell g6)).trans g6⟩
  clear g2 g5 g6 hT Br2 Br5 e1 e2 e3 e4 e5 e6 e7 hx2 hx3 hx4 hx5 hr2 hr3 hr4 hr5
  have Z := Blk.new w6 71 tabZ
  have hb6 := below_alloc (Below.refl w6.heap.size w6) (.cells tabZ 71)
  have P7 := P.call hb6
  go_upto_region 9 with fail
  change Code.wp _ _ _ _ (w6.alloc (.cells tabZ 71))
  obtain ⟨z, hz⟩ : ∃ z, w6.heap.size = z := ⟨_, rfl⟩
  rw [hz] at Z
  try rw [hz]
  generalize w6.alloc (.cells tabZ 71) = w7 at *
  clear P
  have q0 : w7.cell? ⟨p, 0, none⟩ = some (.int .i64 17) := P7.cell 0
  have q1 : w7.cell? ⟨p, 1, none⟩ = some (.bool false) := P7.cell 1
  have q2 : w7.cell? ⟨p, 2, none⟩ = some (.int .u64 0) := P7.cell 2
  have q3 : w7.cell? ⟨p, 3, none⟩ = some (.int .u64 0) := P7.cell 3
  have q4 : w7.cell? ⟨p, 4, none⟩ = some (.bool false) := P7.cell 4
  have q5 : w7.cell? ⟨p, 5, none⟩ = some (.int .u64 0) := P7.cell 5
  have q6 : w7.cell? ⟨p, 6, none⟩ = some (.int .u64 0) := P7.cell 6
  have q7 : w7.cell? ⟨p, 7, none⟩ = some (.int .i64 0) := P7.cell 7
  have q8 : w7.cell? ⟨p, 8, none⟩ = some (.int .i64 0) := P7.cell 8
  have ON : Calls Try.prog 11 #[.pointer none, .agg #[.int .i64 17, .bool false, .int .u64 0, .int .u64 0, .bool false, .int .u64 0, .int .u64 0, .int .i64 0, .int .i64 0], .int .i64 1, .int .i64 0] w7 _ := tab_open_nil awT 1 0 w7
  replace ON := Lib.hid ON
  go_upto_region 10 with (go_at_call 11; (with_reducible refine ON.out.mono ?_); rintro e w8 ⟨rfl, hb7⟩)
  change Code.wp _ _ _ _ (w8.alloc (.cells slt0.entA 43))
  have hb8 := below_alloc hb7 (.cells slt0.entA 43)
  have P9 := P7.call hb8
  have Z9 := Z.call hb8
  generalize w8.alloc (.cells slt0.entA 43) = w9 at *
  clear ON q0 q1 q2 q3 q4 q5 q6 q7 q8 P7 Z hb7
  have GP := Lib.hid (tab_go_plain Z9 1)
  have q0 : w9.cell? ⟨p, 0, none⟩ = some (.int .i64 17) := P9.cell 0
  have q1 : w9.cell? ⟨p, 1, none⟩ = some (.bool false) := P9.cell 1
  have q2 : w9.cell? ⟨p, 2, none⟩ = some (.int .u64 0) := P9.cell 2
  have q3 : w9.cell? ⟨p, 3, none⟩ = some (.int .u64 0) := P9.cell 3
  have q4 : w9.cell? ⟨p, 4, none⟩ = some (.bool false) := P9.cell 4
  have q5 : w9.cell? ⟨p, 5, none⟩ = some (.int .u64 0) := P9.cell 5
  have q6 : w9.cell? ⟨p, 6, none⟩ = some (.int .u64 0) := P9.cell 6
  have q7 : w9.cell? ⟨p, 7, none⟩ = some (.int .i64 0) := P9.cell 7
  have q8 : w9.cell? ⟨p, 8, none⟩ = some (.int .i64 0) := P9.cell 8
  have FN : Calls Try.prog 12 #[.pointer none, .agg #[.int .i64 17, .bool false, .int .u64 0, .int .u64 0, .bool false, .int .u64 0, .int .u64 0, .int .i64 0, .int .i64 0], .int .i64 0, .int .u64 0, .int .i64 0] w9 _ := tab_find_nil awT 0 0 0 w9
  replace FN := Lib.hid FN
  go_upto_region 12 with (first
    | (go_at_call 15; (with_reducible refine GP.out.mono ?_); rintro e w10 ⟨rfl, rfl⟩)
    | (go_at_call 12; (with_reducible refine FN.out.mono ?_); rintro e w10 ⟨rfl, hb9⟩))
  change Code.wp _ _ _ _ (w10.alloc (.cells slt0.entA 43))
  have hb10 := below_alloc hb9 (.cells slt0.entA 43)
  have Z11 := Z9.call hb10
  generalize w10.alloc (.cells slt0.entA 43) = w11 at *
  have hb611 := below_chain hb10 (below_chain hb8 hb6)
  have hbF := below_chain hb611 hbT
  obtain ⟨g2, g5, g6⟩ := HC.out _ hb611
  clear FN GP q0 q1 q2 q3 q4 q5 q6 q7 q8 P9 Z9 hb9 hb10 hb8 hb6 HC hb0
  have LP := Lib.hid (tab_looks_plain Z11)
  have DP := Lib.hid (tab_drop_plain Z11 1)
  go_wp2_with (first
    | (go_at_call 17; (with_reducible refine (tab_free_nil _).mono ?_); rintro e v8 ⟨rfl, rfl⟩)
    | (go_at_call 9; (with_reducible refine LP.out.mono ?_); rintro e v8 ⟨rfl, rfl⟩)
    | (go_at_call 8; (with_reducible refine (tab_live_nil _).mono ?_); rintro e v8 ⟨rfl, rfl⟩)
    | (go_at_call 16; (with_reducible refine DP.out.mono ?_); rintro e v9 ⟨rfl, hb12⟩))
  go_ret
  exact ⟨rfl, below_chain hb12 hbF⟩
end Go.Proofs.Ytmkknjhalcocmaa

namespace Go.Proofs.Ytmkknjhalcocmaa
open Go Go.RowKit Go.Deep Go.Maps Go.ChangeMaps

theorem tup_eql (t u : Tup) (w : World) : (binOp .eql 39 t.val u.val).run Try.prog w = .ok (.bool (tupB t u)) w := by
  have h := tup_neq t u w
  rw [run_neq_struct] at h
  rw [run_eql_struct]
  cases hh : (Op.equalIn 10000 39 t.val u.val).run Try.prog w with
  | ok b w' =>
    rw [hh] at h
    simp only [Result.andThen] at h ⊢
    simp only [Result.ok.injEq, Value.bool.injEq] at h
    obtain ⟨h1, rfl⟩ := h
    have : b = tupB t u := by cases b <;> cases hq : tupB t u <;> simp_all
    rw [this]
  | _ => rw [hh] at h; simp [Result.andThen] at h
theorem tupB_comm (t u : Tup) : tupB t u = tupB u t := by
  rw [Bool.eq_iff_iff, tupB_iff, tupB_iff]
  exact eq_comm
theorem tupB_self (t : Tup) : tupB t t = true := tupB_iff.2 rfl
/-- Are entries one? -/
def entB (x y : Slt) : Bool := tupB x.t y.t && (x.bk == y.bk && (x.st == y.st && (x.sl == y.sl && (x.gen == y.gen && x.due == y.due))))
theorem ent_eql (x y : Slt) (w : World) : (binOp .eql 43 x.val y.val).run Try.prog w = .ok (.bool (entB x y)) w := by
  have u3 := Try.underlying3
  have a3 := Try.isAgg3
  have z3 := Try.sizeOf3
  have u4 := Try.underlying34
  have a4 := Try.isAgg34
  have z4 := Try.sizeOf34
  have u5 := Try.underlying4
  have a5 := Try.isAgg4
  have z5 := Try.sizeOf4
  have a6 := Try.isAgg37
  have z6 := Try.sizeOf37
  have a7 := Try.isAgg39
  have z7 := Try.sizeOf39
  have hS : Try.prog.underlying 43 = some (.struct (Try.prog.fieldsOf 43)) := by kernel_rfl
  have hp : Try.prog.stoodInHeld 43 = false := by kernel_rfl
  have hS1 : Try.prog.underlying 39 = some (.struct (Try.prog.fieldsOf 39)) := by kernel_rfl
  have hp1 : Try.prog.stoodInHeld 39 = false := by kernel_rfl
  have hS2 : Try.prog.underlying 37 = some (.struct (Try.prog.fieldsOf 37)) := by kernel_rfl
  have hp2 : Try.prog.stoodInHeld 37 = false := by kernel_rfl
  have hA := fun (d : Nat) (xs ys : Array Value) => run_equalIn_agg w d 37 xs ys hS2 hp2
  have hT := fun (d : Nat) (xs ys : Array Value) => run_equalIn_agg w d 39 xs ys hS1 hp1
  rw [run_eql_struct, show (10000 : Nat) = 9999 + 1 from rfl, run_equalIn_agg w 9999 43 _ _ hS hp]
  clear hS hp hS2 hp2 hS1 hp1
  simp only [Program.fieldsOf, Try.underlying43, Try.underlying39, Try.underlying37] at hA hT ⊢
  unfold entB tupB
  obtain ⟨⟨a1, a2, a3, a4, a5, a6, a7, a8, a9⟩, b1, b2, b3, b4, b5, -⟩ := x
  obtain ⟨⟨c1, c2, c3, c4, c5, c6, c7, c8, c9⟩, d1, d2, d3, d4, d5, -⟩ := y
  go_simp
  by_cases h1 : a1 = c1
  case neg => simp [h1]
  by_cases h2 : a2 = c2
  case neg => simp [h1, h2]
  by_cases h3 : a3 = c3
  case neg =>
    have g3 : ¬ ((a3 : Int) = (c3 : Int)) := by omega
    simp [h1, h2, h3, g3]
  by_cases h4 : a4 = c4
  case neg =>
    have g4 : ¬ ((a4 : Int) = (c4 : Int)) := by omega
    simp [h1, h2, h3, h4, g4]
  by_cases h5 : a5 = c5
  case neg => simp [h1, h2, h3, h4, h5]
  by_cases h6 : a6 = c6
  case neg =>
    have g6 : ¬ ((a6 : Int) = (c6 : Int)) := by omega
    simp [h1, h2, h3, h4, h5, h6, g6]
  by_cases h7 : a7 = c7
  case neg =>
    have g7 : ¬ ((a7 : Int) = (c7 : Int)) := by omega
    simp [h1, h2, h3, h4, h5, h6, h7, g7]
  by_cases h8 : a8 = c8
  case neg => simp [h1, h2, h3, h4, h5, h6, h7, h8]
  by_cases h9 : a9 = c9
  case neg => simp [h1, h2, h3, h4, h5, h6, h7, h8, h9]
  by_cases k1 : b1 = d1
  case neg => simp [h1, h2, h3, h4, h5, h6, h7, h8, h9, k1]
  by_cases k2 : b2 = d2
  case neg => simp [h1, h2, h3, h4, h5, h6, h7, h8, h9, k1, k2]
  by_cases k3 : b3 = d3
  case neg => simp [h1, h2, h3, h4, h5, h6, h7, h8, h9, k1, k2, k3]
  by_cases k4 : b4 = d4
  case neg => simp [h1, h2, h3, h4, h5, h6, h7, h8, h9, k1, k2, k3, k4]
  by_cases k5 : b5 = d5
  case neg => simp [h1, h2, h3, h4, h5, h6, h7, h8, h9, k1, k2, k3, k4, k5]
  simp [h1, h2, h3, h4, h5, h6, h7, h8, h9, k1, k2, k3, k4, k5]
theorem low_bit {g : Int} (h : 0 ≤ g ∧ g < 18446744073709551616) : bits BinOp.and IntKind.u64 g (maskI 1) = g % 2 := by
  obtain ⟨n, rfl⟩ : ∃ n : Nat, g = (n : Int) := ⟨g.toNat, by omega⟩
  have e := bits_and_u64_nat n 1 (by omega) (by decide)
  have e2 : maskI 1 = ((1 : Nat) : Int) := rfl
  rw [e2, e, Nat.and_one_is_mod]
  omega
end Go.Proofs.Ytmkknjhalcocmaa

namespace Go.Proofs.Ytmkknjhalcocmaa
open Go Go.RowKit Go.Deep Go.Maps Go.ChangeMaps

/-- The rule of the laws. -/
abbrev lwC : TCfg := ⟨3, 20, 5, 8, 4⟩
theorem TabN.drewN {w0 w : World} {g sb n : Nat} {c : TCfg} {s : TSt} {K : Nat → Prop} (h : TabN w0 w g sb n c s K) (m : Nat) : TabN w0 (w.drewN m) g sb n c s K := h.call0 (below_drewN (Below.refl _ _) m)
theorem closeV_no {n : Nat} {s : TSt} {i : Int} (h : closeOk n s i = false) : closeV n s i = slt0 := by
  unfold closeV
  rw [h]
  rfl
theorem closeV_yes {n : Nat} {s : TSt} {i : Int} (h : closeOk n s i = true) : closeV n s i = s.E i.toNat := by
  unfold closeV
  rw [h]
  rfl
/-- What stands behind an entry that was let go, and was opened again. -/
structure Again (n k : Nat) (s : TSt) (x : Slt) (s1 s2 s3 : TSt) (a : Slt) : Prop where
  xk : x.sl = k
  e1 : s1 = closeS n s k
  e2 : s2 = lookS n k s1
  e3 : s3 = openS lwC n s2 x.t 7 2
  no1 : findOk n s1 x.t k 0 0 = false
  l1 : s2.L.length = s.L.length + 1
  g1 : genI n s2.E k = IntKind.u64.wrap (x.gen + 1)
  oe : openE s2 x.t 7 2 = 0
  ov : openV lwC s2 x.t 7 2 = a
  ak : a.sl = k
  ag : a.gen = IntKind.u64.wrap (x.gen + 1)
  ab : a.bk = 7
  at_ : a.t = x.t
  l3 : s3.L.length = s.L.length
  find : ∀ (lk : Int) (y : Tup) (low : Int), findOk n { s3 with lk := lk } y k low 1 = (tupB x.t y && (a.gen % 2 == low))
  par : 0 ≤ a.gen ∧ (a.gen % 2 == x.gen % 2) = false
theorem again_tup {t : Tup} (h : tupW t) : openOk t 7 2 = true := by
  unfold openOk
  rw [h.1]
  unfold beginS firstB
  rcases h.2 with e | e
  · rw [e]
    decide
  · rw [e]
    decide
theorem again_any {n k : Nat} {s : TSt} (h : TI n s) (hk : k < n) (hu : (s.E k).used = true) : ∃ s1 s2 s3 a, Again n k s (s.E k) s1 s2 s3 a := by
  have hc : closeOk n s k = true := closeOk_iff.2 ⟨k, rfl, hk, hu⟩
  have hlk : lookOk n (k : Int) = true := by unfold lookOk; simp; omega
  have h1 : closeS n s k = goS n (lookS n k s) k := by rw [closeS_yes hc, Int.toNat_natCast]
  have hE1 : (closeS n s k).E k = clrS (s.E k) := by
    rw [h1]
    show updE (lookS n k s).E k (clrS ((lookS n k s).E k)) k = _
    rw [updE_self, lookS_E]
  have hL1 : (closeS n s k).L = (k : Int) :: s.L := by
    rw [h1]
    show pushL n (lookS n k s).L k = _
    rw [lookS_L, pushL_used h hk hu]
  have hL2 : (lookS n k (closeS n s k)).L = (k : Int) :: s.L := by rw [lookS_L, hL1]
  have ho := again_tup (h.tup k hk hu)
  have hgr := h.gr k hk
  have hE2 : (lookS n k (closeS n s k)).E k = clrS (s.E k) := by rw [lookS_E, hE1]
  have hov := openV_yes (c := lwC) ho hL2
  have hos := openS_yes (n := n) (c := lwC) ho hL2
  rw [Int.toNat_natCast, hE2] at hov
  rw [Int.toNat_natCast] at hos
  refine ⟨_, _, _, _, ⟨h.sl k hk, rfl, rfl, rfl, ?_, ?_, ?_, ?_, rfl, ?_, ?_, ?_, ?_, ?_, fun lk y low => ?_, ?_⟩⟩
  · unfold findOk
    have : closeOk n (closeS n s k) k = false := by
      unfold closeOk
      rw [Int.toNat_natCast, hE1]
      exact Bool.and_false _
    rw [this, Bool.false_and]
  · rw [hL2]
    rfl
  · unfold genI
    rw [hlk, if_pos rfl, Int.toNat_natCast, hE2]
    rfl
  · unfold openE
    rw [ho, if_pos rfl, hL2]
    rfl
  · rw [hov]
    exact h.sl k hk
  · rw [hov]
    rfl
  · rw [hov]
    rfl
  · rw [hov]
    rfl
  · rw [hos]
  · rw [hos]
    unfold findOk closeOk
    rw [hlk, Int.toNat_natCast]
    dsimp only
    rw [updE_self, hov]
    have hg := wrap64_rng ((s.E k).gen + 1)
    have e := low_bit hg
    show (true && true && (true && (tupB (s.E k).t y && (bits BinOp.and IntKind.u64 (IntKind.u64.wrap ((s.E k).gen + 1)) (maskI 1) == low)))) = _
    rw [e]
    rfl
  · rw [hov]
    show 0 ≤ IntKind.u64.wrap ((s.E k).gen + 1) ∧ (IntKind.u64.wrap ((s.E k).gen + 1) % 2 == (s.E k).gen % 2) = false
    refine ⟨(wrap64_rng _).1, ?_⟩
    rw [beq_eq_false_iff_ne]
    simp [IntKind.wrap, IntKind.bits, IntKind.signed]
    omega
theorem lwC_right : lwC.right := right_idle rfl
set_option maxRecDepth 100000 in
set_option maxHeartbeats 16000000 in
theorem tableAgain_calls (b : Int) (hb8 : 0 ≤ b ∧ b ≤ 255) (l : List TStp) (sl : Int) (hsl8 : 0 ≤ sl ∧ sl ≤ 255) (x y : Tup) (B : Option Addr) (d : Nat) (w : World) (hr : Reads w w.heap.size 15 B l.length (l.flatMap TStp.cells)) (hl : l.length ≤ 9223372036854775807) :
    Calls Try.prog 4 #[.int .u8 b, .slice B l.length d, .int .u8 sl, x.val, y.val] w fun e w' => e = .returned (.bool true) ∧ Below w.heap.size w w' := by
  have hb0 : Below w.heap.size w ((w.alloc (.cells x.cells.toArray 39)).alloc (.cells y.cells.toArray 39)) := below_alloc (below_alloc (Below.refl _ _) _) _
  have PX := (Blk.new w 39 x.cells.toArray).alloc (.cells y.cells.toArray 39)
  have PY := Blk.new (w.alloc (.cells x.cells.toArray 39)) 39 y.cells.toArray
  rw [World.size_alloc] at PY
  by_cases h40 : 40 < l.length
  · have e40 : decide ((40 : Int) < (l.length : Int)) = true := by simp; omega
    clear hr PX PY
    go_enter Try.func4, Try.ntmps4
    go_upto_region 1 with fail
    change Code.wp _ _ _ _ ((w.alloc (.cells x.cells.toArray 39)).alloc (.cells y.cells.toArray 39))
    generalize (w.alloc (.cells x.cells.toArray 39)).alloc (.cells y.cells.toArray 39) = w1 at *
    go_wp2_with (go_at_call 6; (with_reducible refine (awake19 _).mono ?_); rintro e w2 ⟨rfl, hb1⟩)
    go_ret
    exact ⟨rfl, below_chain hb1 hb0⟩
  have e40 : decide ((40 : Int) < (l.length : Int)) = false := by simp; omega
  obtain ⟨m, hm, hm4⟩ : ∃ m : Nat, b % 5 = (m : Int) ∧ m ≤ 4 := ⟨(b % 5).toNat, by omega, by omega⟩
  have hwb : IntKind.i64.wrap b = b := by simp [IntKind.wrap, IntKind.bits, IntKind.signed]; omega
  have htb : b.tmod 5 = (m : Int) := (Int.tmod_eq_emod_of_nonneg (by omega)).trans hm
  replace hr := Lib.hid hr
  go_enter Try.func4, Try.ntmps4
  go_upto_region 1 with fail
  change Code.wp _ _ _ _ ((w.alloc (.cells x.cells.toArray 39)).alloc (.cells y.cells.toArray 39))
  obtain ⟨px, hpx⟩ : ∃ p, w.heap.size = p := ⟨_, rfl⟩
  have hpx2 : w.heap.size ≤ px := by omega
  rw [hpx] at PX PY
  generalize (w.alloc (.cells x.cells.toArray 39)).alloc (.cells y.cells.toArray 39) = w1 at *
  try rw [hpx]
  replace hpx := Lib.hid hpx
  have hlx := PX.lt
  have hly := PY.lt
  have NW : Calls Try.prog 7 #[.int .i64 m, .agg #[.int .i64 3, .int .i64 20, .int .i64 5, .int .i64 8], .int .i64 4] w1 _ := tabn_new (w0 := w) (w := w1) (K := fun b => b = px ∨ b = px + 1) m (by omega) 3 20 5 8 rfl 4 (by omega) hb0 (fun b hb => by omega) lwC_right
  replace NW := Lib.hid NW
  go_upto_region 4 with (go_at_call 7; (with_reducible refine NW.out.mono ?_); rintro e w2 ⟨g, sb, rfl, hT0, hb1⟩)
  have PX1 := PX.call hb1
  have PY1 := PY.call hb1
  obtain ⟨n, hn⟩ : ∃ n : Nat, 2 ^ m = n := ⟨_, rfl⟩
  rw [hn] at hT0
  replace hT0 := Lib.hid hT0
  clear NW PX PY hlx hly hb0 hb1
  go_wp2_with fail
  go_loopw [13] (fun iv wr => ∃ (k : Nat) (s : TSt), k ≤ l.length ∧ iv = .int .i64 (k : Nat) ∧ TabN w wr g sb n lwC s (fun b => b = px ∨ b = px + 1) ∧ Blk wr px 39 x.cells.toArray ∧ Blk wr (px + 1) 39 y.cells.toArray) (fun iv _ => l.length - (intOf iv).toNat)
  case atStart => exact ⟨0, _, by omega, rfl, hT0.out, PX1, PY1⟩
  case round =>
    obtain ⟨k, s, hk, rfl, hT, PX, PY⟩ := hrel
    clear hT0 PX1 PY1
    by_cases hlt : k < l.length
    · have hlti : (k : Int) < (l.length : Int) := by omega
      obtain ⟨ad, st, rfl, hbl, -, c0, c1, c2, c3, c4, c5, c6, c7, c8, c9, c10, c11, c12, c13, c14⟩ := tstp_at15 (hr.out.below hT.below) hlt
      replace hT := Lib.hid hT
      go_upto_region 10 with fail
      change Code.wp _ _ _ _ (wr.alloc (.cells st.cells.toArray 41))
      have S := Blk.new wr 41 st.cells.toArray
      have hT1 := hT.out.alloc (.cells st.cells.toArray 41)
      have PX1 := PX.alloc (.cells st.cells.toArray 41)
      have PY1 := PY.alloc (.cells st.cells.toArray 41)
      obtain ⟨r, hr2⟩ : ∃ r, wr.heap.size = r := ⟨_, rfl⟩
      rw [hr2] at S hT1
      try rw [hr2]
      generalize wr.alloc (.cells st.cells.toArray 41) = w3 at *
      clear c0 c1 c2 c3 c4 c5 c6 c7 c8 c9 c10 c11 c12 c13 c14 PX PY
      have s0 : w3.cell? ⟨r, 0, none⟩ = some (.int .i64 st.kd) := S.cell 0
      have s1 : w3.cell? ⟨r, 1, none⟩ = some (.int .i64 st.tu.p) := S.cell 1
      have s2 : w3.cell? ⟨r, 2, none⟩ = some (.bool st.tu.v) := S.cell 2
      have s3 : w3.cell? ⟨r, 3, none⟩ = some (.int .u64 st.tu.hi) := S.cell 3
      have s4 : w3.cell? ⟨r, 4, none⟩ = some (.int .u64 st.tu.lo) := S.cell 4
      have s5 : w3.cell? ⟨r, 5, none⟩ = some (.bool st.tu.v') := S.cell 5
      have s6 : w3.cell? ⟨r, 6, none⟩ = some (.int .u64 st.tu.hi') := S.cell 6
      have s7 : w3.cell? ⟨r, 7, none⟩ = some (.int .u64 st.tu.lo') := S.cell 7
      have s8 : w3.cell? ⟨r, 8, none⟩ = some (.int .i64 st.tu.sp) := S.cell 8
      have s9 : w3.cell? ⟨r, 9, none⟩ = some (.int .i64 st.tu.dp) := S.cell 9
      have s10 : w3.cell? ⟨r, 10, none⟩ = some (.int .i64 st.sl) := S.cell 10
      have s11 : w3.cell? ⟨r, 11, none⟩ = some (.int .i64 st.n) := S.cell 11
      have s12 : w3.cell? ⟨r, 12, none⟩ = some (.int .i64 st.bk) := S.cell 12
      have hK : ∀ b, ((b = px ∨ b = px + 1) ∨ b = r) → b < w3.heap.size := fun b hb => by
        have := PX1.lt
        have := PY1.lt
        have := S.lt
        omega
      have K0 := Lib.hid (tabn_open hT1 hK st.tu st.bk st.n)
      have K2 := Lib.hid (tabn_touch hT1 hK st.sl st.n)
      have K3 := Lib.hid (tabn_close hT1 hK st.sl)
      have K4 := Lib.hid (tabn_go hT1 hK st.n)
      have K5 := Lib.hid (tabn_drop hT1 hK st.bk)
      obtain ⟨kd, hkd⟩ : ∃ kd, st.kd = kd := ⟨_, rfl⟩
      rw [hkd] at s0
      replace hkd := Lib.hid hkd
      replace hT1 := Lib.hid hT1
      clear S hK
      have hkc : kd = 0 ∨ kd = 2 ∨ kd = 3 ∨ kd = 4 ∨ kd = 5 ∨ ((kd == 0) = false ∧ (kd == 2) = false ∧ (kd == 3) = false ∧ (kd == 4) = false ∧ (kd == 5) = false) := by
        simp only [beq_eq_false_iff_ne]
        omega
      rcases hkc with rfl | rfl | rfl | rfl | rfl | ⟨e0, e2, e3, e4, e5⟩
      case' inr.inr.inr.inr.inr =>
        go_wp2_with fail
        go_roundw
        case rel => exact ⟨k + 1, s, by omega, by go_num, hT1.out.mono (fun b hb => .inl hb), PX1, PY1⟩
        case measure => simp [intOf]; omega
      all_goals
        go_wp2_with (first
          | (go_at_call 11; (with_reducible refine K0.out.mono ?_); rintro e v2 ⟨rfl, hT2, hc2⟩)
          | (go_at_call 13; (with_reducible refine K2.out.mono ?_); rintro e v2 ⟨rfl, hT2, hc2⟩)
          | (go_at_call 14; (with_reducible refine K3.out.mono ?_); rintro e v2 ⟨rfl, hT2, hc2⟩)
          | (go_at_call 15; (with_reducible refine K4.out.mono ?_); rintro e v2 ⟨B4, q4, S4, rfl, -, -, -, hT2, hc2⟩)
          | (go_at_call 16; (with_reducible refine K5.out.mono ?_); rintro e v2 ⟨B4, q4, rfl, -, hT2, hc2⟩))
        go_roundw
        case rel => exact ⟨k + 1, _, by omega, by go_num, hT2.mono (fun b hb => .inl hb), PX1.chg hc2 (fun e => e.2 (.inl (.inl rfl))), PY1.chg hc2 (fun e => e.2 (.inl (.inr rfl)))⟩
        case measure => simp [intOf]; omega
    · obtain rfl : k = l.length := by omega
      have hlti : ¬ (l.length : Int) < (l.length : Int) := by omega
      clear hr
      obtain ⟨kk, hkk, hkk2⟩ : ∃ kk : Nat, sl % 16 = (kk : Int) ∧ kk < 16 := ⟨(sl % 16).toNat, by omega, by omega⟩
      have hws : IntKind.i64.wrap sl = sl := by simp [IntKind.wrap, IntKind.bits, IntKind.signed]; omega
      have hts : sl.tmod 16 = (kk : Int) := (Int.tmod_eq_emod_of_nonneg (by omega)).trans hkk
      have hti := hT.ti
      have hn4 := hT.n4096
      have hLl : s.L.length ≤ 4096 := by have := nodup_len n s.L hti.nd (fun x hx => hti.rng x hx); omega
      have hlx := PX.lt
      have hly := PY.lt
      have hK : ∀ b, (b = px ∨ b = px + 1) → b < wr.heap.size := fun b hb => by omega
      have FR := Lib.hid (tabn_free hT)
      cases hc : closeOk n s kk
      · have CL := tabn_close hT hK kk
        rw [hc, closeV_no hc, closeS_no hc] at CL
        replace CL := Lib.hid CL
        replace hT := Lib.hid hT
        go_upto_region 24 with (first
          | (go_at_call 17; (with_reducible refine FR.out.mono ?_); rintro e v1 ⟨rfl, rfl⟩)
          | (go_at_call 14; (with_reducible refine CL.out.mono ?_); rintro e v2 ⟨rfl, hT2, hc2⟩))
        change Code.wp _ _ _ _ (v2.alloc (.cells slt0.entA 43))
        have R := Blk.new v2 43 slt0.entA
        have hT3 := hT2.alloc (.cells slt0.entA 43)
        obtain ⟨r, hr2⟩ : ∃ r, v2.heap.size = r := ⟨_, rfl⟩
        rw [hr2] at R
        try rw [hr2]
        generalize v2.alloc (.cells slt0.entA 43) = w3 at *
        have s0 : w3.cell? ⟨r, 0, none⟩ = some (.int .i64 0) := R.cell 0
        have s1 : w3.cell? ⟨r, 1, none⟩ = some (.bool false) := R.cell 1
        have s2 : w3.cell? ⟨r, 2, none⟩ = some (.int .u64 0) := R.cell 2
        have s3 : w3.cell? ⟨r, 3, none⟩ = some (.int .u64 0) := R.cell 3
        have s4 : w3.cell? ⟨r, 4, none⟩ = some (.bool false) := R.cell 4
        have s5 : w3.cell? ⟨r, 5, none⟩ = some (.int .u64 0) := R.cell 5
        have s6 : w3.cell? ⟨r, 6, none⟩ = some (.int .u64 0) := R.cell 6
        have s7 : w3.cell? ⟨r, 7, none⟩ = some (.int .i64 0) := R.cell 7
        have s8 : w3.cell? ⟨r, 8, none⟩ = some (.int .i64 0) := R.cell 8
        have s9 : w3.cell? ⟨r, 9, none⟩ = some (.int .i64 0) := R.cell 9
        have s10 : w3.cell? ⟨r, 10, none⟩ = some (.int .i64 0) := R.cell 10
        have s11 : w3.cell? ⟨r, 11, none⟩ = some (.int .i64 0) := R.cell 11
        have s12 : w3.cell? ⟨r, 12, none⟩ = some (.int .u64 0) := R.cell 12
        have s13 : w3.cell? ⟨r, 13, none⟩ = some (.int .i64 0) := R.cell 13
        have hEQ : ∀ W, (binOp .eql 43 (.agg #[.int .i64 0, .bool false, .int .u64 0, .int .u64 0, .bool false, .int .u64 0, .int .u64 0, .int .i64 0, .int .i64 0, .int .i64 0, .int .i64 0, .int .i64 0, .int .u64 0, .int .i64 0]) (.agg #[.int .i64 0, .bool false, .int .u64 0, .int .u64 0, .bool false, .int .u64 0, .int .u64 0, .int .i64 0, .int .i64 0, .int .i64 0, .int .i64 0, .int .i64 0, .int .u64 0, .int .i64 0])).run Try.prog W = .ok (.bool true) W := fun W => ent_eql slt0 slt0 W
        have FR2 := tabn_free hT3
        rw [lookS_L] at FR2
        replace FR2 := Lib.hid FR2
        have hbF := hT3.below
        replace hT3 := Lib.hid hT3
        clear R FR CL hT hT2 hc2
        go_wp2_with (first
          | (go_at_call 17; (with_reducible refine FR2.out.mono ?_); rintro e v4 ⟨rfl, rfl⟩)
          | (go_at_call 6; (with_reducible refine (awake19 _).mono ?_); rintro e v5 ⟨rfl, hb5⟩))
        go_ret
        exact ⟨rfl, below_chain hb5 hbF⟩
      · obtain ⟨k2, hkc, hk, hu⟩ := closeOk_iff.1 hc
        obtain rfl : k2 = kk := by omega
        obtain ⟨s1, s2, s3, a, AG⟩ := again_any hti hk hu
        have CL := tabn_close hT hK k2
        rw [hc, closeV_yes hc, Int.toNat_natCast, ← AG.e1] at CL
        obtain ⟨en, hen⟩ : ∃ en, s.E k2 = en := ⟨_, rfl⟩
        rw [hen] at AG CL
        obtain ⟨L0, hL0⟩ : ∃ L0 : Int, (s.L.length : Int) = L0 := ⟨_, rfl⟩
        have hL0r : 0 ≤ L0 ∧ L0 ≤ 4096 := by omega
        rw [hL0] at FR
        replace FR := Lib.hid FR.out
        replace CL := Lib.hid CL
        replace AG := Lib.hid AG
        replace hT := Lib.hid hT
        replace hti := Lib.hid hti
        replace hen := Lib.hid hen
        replace hu := Lib.hid hu
        go_upto_region 24 with (first
          | (go_at_call 17; (with_reducible refine FR.out.mono ?_); rintro e v1 ⟨rfl, rfl⟩)
          | (go_at_call 14; (with_reducible refine CL.out.mono ?_); rintro e v2 ⟨rfl, hT2, hc2⟩))
        change Code.wp _ _ _ _ (v2.alloc (.cells en.entA 43))
        have R := Blk.new v2 43 en.entA
        have hT3 := hT2.alloc (.cells en.entA 43)
        have PX3 := (PX.chg hc2 (fun e => e.2 (.inl rfl))).alloc (.cells en.entA 43)
        have PY3 := (PY.chg hc2 (fun e => e.2 (.inr rfl))).alloc (.cells en.entA 43)
        obtain ⟨r, hr2⟩ : ∃ r, v2.heap.size = r := ⟨_, rfl⟩
        rw [hr2] at R hT3
        try rw [hr2]
        generalize v2.alloc (.cells en.entA 43) = w3 at *
        clear FR CL hT hT2 hc2 PX PY hlx hly hK
        have q0 : w3.cell? ⟨r, 0, none⟩ = some (.int .i64 en.t.p) := R.cell 0
        have q1 : w3.cell? ⟨r, 1, none⟩ = some (.bool en.t.v) := R.cell 1
        have q2 : w3.cell? ⟨r, 2, none⟩ = some (.int .u64 en.t.hi) := R.cell 2
        have q3 : w3.cell? ⟨r, 3, none⟩ = some (.int .u64 en.t.lo) := R.cell 3
        have q4 : w3.cell? ⟨r, 4, none⟩ = some (.bool en.t.v') := R.cell 4
        have q5 : w3.cell? ⟨r, 5, none⟩ = some (.int .u64 en.t.hi') := R.cell 5
        have q6 : w3.cell? ⟨r, 6, none⟩ = some (.int .u64 en.t.lo') := R.cell 6
        have q7 : w3.cell? ⟨r, 7, none⟩ = some (.int .i64 en.t.sp) := R.cell 7
        have q8 : w3.cell? ⟨r, 8, none⟩ = some (.int .i64 en.t.dp) := R.cell 8
        have hK : ∀ b, ((b = px ∨ b = px + 1) ∨ b = r) → b < w3.heap.size := fun b hb => by
          have := PX3.lt
          have := PY3.lt
          have := R.lt
          omega
        have FN := tabn_find hT3 hK en.t k2 0 0
        rw [AG.out.no1, ← AG.out.e2] at FN
        obtain ⟨fv, hfv⟩ : ∃ fv, findV n s1 en.t k2 0 0 = fv := ⟨_, rfl⟩
        rw [hfv] at FN
        replace hfv := Lib.hid hfv
        replace FN := Lib.hid FN
        replace hT3 := Lib.hid hT3
        go_upto_region 27 with (go_at_call 12; (with_reducible refine FN.out.mono ?_); rintro e v4 ⟨rfl, hT4, hc4⟩)
        change Code.wp _ _ _ _ (v4.alloc (.cells fv.entA 43))
        have R5 := (R.chg hc4 (fun e => e.2 (.inr rfl))).alloc (.cells fv.entA 43)
        have hT5 := (hT4.alloc (.cells fv.entA 43)).mono (K' := fun b => (b = px ∨ b = px + 1) ∨ b = r) (fun b hb => .inl hb)
        have PX5 := (PX3.chg hc4 (fun e => e.2 (.inl (.inl rfl)))).alloc (.cells fv.entA 43)
        have PY5 := (PY3.chg hc4 (fun e => e.2 (.inl (.inr rfl)))).alloc (.cells fv.entA 43)
        try generalize v4.heap.size = r4 at *
        generalize v4.alloc (.cells fv.entA 43) = w5 at *
        clear FN hT3 hT4 hc4 PX3 PY3 R hK q0 q1 q2 q3 q4 q5 q6 q7 q8 hfv
        have c11 : w5.cell? ⟨r, 11, none⟩ = some (.int .i64 (k2 : Int)) := by rw [← AG.out.xk]; exact R5.cell 11
        have c12 : w5.cell? ⟨r, 12, none⟩ = some (.int .u64 en.gen) := R5.cell 12
        obtain ⟨gn, hgn⟩ : ∃ gn, IntKind.u64.wrap (en.gen + 1) = gn := ⟨_, rfl⟩
        have gnn : (gn != gn) = false := by simp
        have hL1 : IntKind.i64.wrap (L0 + 1) = L0 + 1 := by simp [IntKind.wrap, IntKind.bits, IntKind.signed]; omega
        have hL2 : (L0 + 1 != L0 + 1) = false := by simp
        have hLL : (L0 != L0) = false := by simp
        have hkk3 : ((k2 : Int) != (k2 : Int)) = false := by simp
        have FRq := Lib.hid fun m : Nat => show Calls Try.prog 17 #[.pointer (some ⟨g, 0, none⟩)] (w5.drewN m) fun e w' => e = .returned (.int .i64 (L0 + 1)) ∧ w' = w5.drewN m from (tabn_free (hT5.drewN m)).mono fun _ _ h => And.intro (by rw [h.1, AG.out.l1, ← hL0, Int.natCast_add]; rfl) h.2.symm
        have GNq := Lib.hid fun m : Nat => show Calls Try.prog 10 #[.pointer (some ⟨g, 0, none⟩), .int .i64 (k2 : Int)] (w5.drewN m) fun e w' => e = .returned (.int .u64 gn) ∧ w' = w5.drewN m from (tabn_gen (hT5.drewN m) k2).mono fun _ _ h => And.intro (by rw [h.1, AG.out.g1, hgn]) h.2.symm
        replace hT5 := Lib.hid hT5
        go_quiet (first
          | (go_at_call 17; with_reducible exact Calls.quiet_of_same (FRq.out _))
          | (go_at_call 10; with_reducible exact Calls.quiet_of_same (GNq.out _)))
        have hT6 := hT5.out.drewN nq
        have R6 : Blk (w5.drewN nq) r 43 en.entA := R5
        have PX6 : Blk (w5.drewN nq) px 39 x.cells.toArray := PX5
        have PY6 : Blk (w5.drewN nq) (px + 1) 39 y.cells.toArray := PY5
        generalize w5.drewN nq = w6 at *
        clear FRq GNq hT5 PX5 PY5 R5 c11 c12
        have q0 : w6.cell? ⟨r, 0, none⟩ = some (.int .i64 en.t.p) := R6.cell 0
        have q1 : w6.cell? ⟨r, 1, none⟩ = some (.bool en.t.v) := R6.cell 1
        have q2 : w6.cell? ⟨r, 2, none⟩ = some (.int .u64 en.t.hi) := R6.cell 2
        have q3 : w6.cell? ⟨r, 3, none⟩ = some (.int .u64 en.t.lo) := R6.cell 3
        have q4 : w6.cell? ⟨r, 4, none⟩ = some (.bool en.t.v') := R6.cell 4
        have q5 : w6.cell? ⟨r, 5, none⟩ = some (.int .u64 en.t.hi') := R6.cell 5
        have q6 : w6.cell? ⟨r, 6, none⟩ = some (.int .u64 en.t.lo') := R6.cell 6
        have q7 : w6.cell? ⟨r, 7, none⟩ = some (.int .i64 en.t.sp) := R6.cell 7
        have q8 : w6.cell? ⟨r, 8, none⟩ = some (.int .i64 en.t.dp) := R6.cell 8
        have hK : ∀ b, ((b = px ∨ b = px + 1) ∨ b = r) → b < w6.heap.size := fun b hb => by
          have := PX6.lt
          have := PY6.lt
          have := R6.lt
          omega
        have OP := tabn_open hT6 hK en.t 7 2
        rw [AG.out.oe, AG.out.ov, ← AG.out.e3] at OP
        replace OP := Lib.hid OP
        replace hT6 := Lib.hid hT6

        go_upto_region 30 with (go_at_call 11; (with_reducible refine OP.out.mono ?_); rintro e v7 ⟨rfl, hT7, hc7⟩)
        change Code.wp _ _ _ _ (v7.alloc (.cells a.entA 43))
        have Q := Blk.new v7 43 a.entA
        have hT8 := hT7.alloc (.cells a.entA 43)
        have R8 := (R6.chg hc7 (fun e => e.2 (.inr rfl))).alloc (.cells a.entA 43)
        have PX8 := (PX6.chg hc7 (fun e => e.2 (.inl (.inl rfl)))).alloc (.cells a.entA 43)
        have PY8 := (PY6.chg hc7 (fun e => e.2 (.inl (.inr rfl)))).alloc (.cells a.entA 43)
        obtain ⟨o, ho⟩ : ∃ o, v7.heap.size = o := ⟨_, rfl⟩
        rw [ho] at Q hT8
        try rw [ho]
        generalize v7.alloc (.cells a.entA 43) = w8 at *
        clear OP hT6 hT7 hc7 PX6 PY6 R6 hK q0 q1 q2 q3 q4 q5 q6 q7 q8 ho
        have q0 : w8.cell? ⟨r, 0, none⟩ = some (.int .i64 en.t.p) := R8.cell 0
        have q1 : w8.cell? ⟨r, 1, none⟩ = some (.bool en.t.v) := R8.cell 1
        have q2 : w8.cell? ⟨r, 2, none⟩ = some (.int .u64 en.t.hi) := R8.cell 2
        have q3 : w8.cell? ⟨r, 3, none⟩ = some (.int .u64 en.t.lo) := R8.cell 3
        have q4 : w8.cell? ⟨r, 4, none⟩ = some (.bool en.t.v') := R8.cell 4
        have q5 : w8.cell? ⟨r, 5, none⟩ = some (.int .u64 en.t.hi') := R8.cell 5
        have q6 : w8.cell? ⟨r, 6, none⟩ = some (.int .u64 en.t.lo') := R8.cell 6
        have q7 : w8.cell? ⟨r, 7, none⟩ = some (.int .i64 en.t.sp) := R8.cell 7
        have q8 : w8.cell? ⟨r, 8, none⟩ = some (.int .i64 en.t.dp) := R8.cell 8
        have o9 : w8.cell? ⟨o, 9, none⟩ = some (.int .i64 7) := by rw [← AG.out.ab]; exact Q.cell 9
        have o11 : w8.cell? ⟨o, 11, none⟩ = some (.int .i64 (k2 : Int)) := by rw [← AG.out.ak]; exact Q.cell 11
        have o12 : w8.cell? ⟨o, 12, none⟩ = some (.int .u64 gn) := by rw [← hgn, ← AG.out.ag]; exact Q.cell 12
        have c12 : w8.cell? ⟨r, 12, none⟩ = some (.int .u64 en.gen) := R8.cell 12
        have p0 : w8.cell? ⟨o, 0, none⟩ = some (.int .i64 en.t.p) := by rw [← AG.out.at_]; exact Q.cell 0
        have p1 : w8.cell? ⟨o, 1, none⟩ = some (.bool en.t.v) := by rw [← AG.out.at_]; exact Q.cell 1
        have p2 : w8.cell? ⟨o, 2, none⟩ = some (.int .u64 en.t.hi) := by rw [← AG.out.at_]; exact Q.cell 2
        have p3 : w8.cell? ⟨o, 3, none⟩ = some (.int .u64 en.t.lo) := by rw [← AG.out.at_]; exact Q.cell 3
        have p4 : w8.cell? ⟨o, 4, none⟩ = some (.bool en.t.v') := by rw [← AG.out.at_]; exact Q.cell 4
        have p5 : w8.cell? ⟨o, 5, none⟩ = some (.int .u64 en.t.hi') := by rw [← AG.out.at_]; exact Q.cell 5
        have p6 : w8.cell? ⟨o, 6, none⟩ = some (.int .u64 en.t.lo') := by rw [← AG.out.at_]; exact Q.cell 6
        have p7 : w8.cell? ⟨o, 7, none⟩ = some (.int .i64 en.t.sp) := by rw [← AG.out.at_]; exact Q.cell 7
        have p8 : w8.cell? ⟨o, 8, none⟩ = some (.int .i64 en.t.dp) := by rw [← AG.out.at_]; exact Q.cell 8
        have hNE : ∀ W, (binOp .neq 39 en.t.val en.t.val).run Try.prog W = .ok (.bool false) W := fun W => by rw [tup_neq, tupB_self]; rfl
        have FR8 := tabn_free hT8
        rw [AG.out.l3, hL0] at FR8
        replace FR8 := Lib.hid FR8
        have hgr : 0 ≤ en.gen ∧ en.gen < 18446744073709551616 := by have := hti.out.gr k2 hk; rw [hen.out] at this; exact this
        have htm : en.gen.tmod 2 = en.gen % 2 := Int.tmod_eq_emod_of_nonneg hgr.1
        have htg : gn.tmod 2 = gn % 2 := Int.tmod_eq_emod_of_nonneg (by rw [← hgn, ← AG.out.ag]; exact AG.out.par.1)
        have hga : a.gen = gn := by rw [AG.out.ag, hgn]
        have hK : ∀ b, (((b = px ∨ b = px + 1) ∨ b = r) ∨ b = o) → b < w8.heap.size := fun b hb => by
          have := PX8.lt
          have := PY8.lt
          have := R8.lt
          have := Q.lt
          omega
        have FD := AG.out.find
        rw [hga] at FD
        have hpar : (gn % 2 == en.gen % 2) = false := by rw [← hga]; exact AG.out.par.2
        have FN := tabn_find hT8 hK en.t k2 (en.gen % 2) 1
        have hf0 := FD s3.lk en.t (en.gen % 2)
        rw [hpar, Bool.and_false] at hf0
        change findOk n s3 _ _ _ _ = _ at hf0
        rw [hf0] at FN
        obtain ⟨fv2, hfv⟩ : ∃ fv, findV n s3 en.t k2 (en.gen % 2) 1 = fv := ⟨_, rfl⟩
        rw [hfv] at FN
        obtain ⟨s4, hs4⟩ : ∃ s4, lookS n k2 s3 = s4 := ⟨_, rfl⟩
        rw [hs4] at FN
        have hs4e : s4 = { s3 with lk := s4.lk } := by rw [← hs4]; exact lookS_eq _ _ _
        replace FN := Lib.hid FN
        replace FD := Lib.hid FD
        replace hga := Lib.hid hga
        replace hgr := Lib.hid hgr
        replace hs4e := Lib.hid hs4e
        replace hT8 := Lib.hid hT8
        clear hfv hf0 hs4 hpar
        go_upto_region 33 with (first
          | (go_at_call 17; (with_reducible refine FR8.out.mono ?_); rintro e v8 ⟨rfl, rfl⟩)
          | (go_at_call 12; (with_reducible refine FN.out.mono ?_); rintro e v9 ⟨rfl, hT9, hc9⟩))
        replace hgn := Lib.hid hgn
        change Code.wp _ _ _ _ (v9.alloc (.cells fv2.entA 43))
        have Q10 := (Q.chg hc9 (fun e => e.2 (.inr rfl))).alloc (.cells fv2.entA 43)
        have R10 := (R8.chg hc9 (fun e => e.2 (.inl (.inr rfl)))).alloc (.cells fv2.entA 43)
        have PX10 := (PX8.chg hc9 (fun e => e.2 (.inl (.inl (.inl rfl))))).alloc (.cells fv2.entA 43)
        have PY10 := (PY8.chg hc9 (fun e => e.2 (.inl (.inl (.inr rfl))))).alloc (.cells fv2.entA 43)
        have hT10 := (hT9.alloc (.cells fv2.entA 43)).mono (K' := fun b => ((b = px ∨ b = px + 1) ∨ b = r) ∨ b = o) (fun b hb => .inl hb)
        try generalize v9.heap.size = r9 at *
        generalize v9.alloc (.cells fv2.entA 43) = w10 at *
        clear FN hT8 hT9 hc9 FR8 hNE hK PX8 PY8 R8 Q o9 o11 o12 c12 p0 p1 p2 p3 p4 p5 p6 p7 p8 q0 q1 q2 q3 q4 q5 q6 q7 q8
        have hs4e := hs4e.out
        have p0 : w10.cell? ⟨(px + 1), 0, none⟩ = some (.int .i64 y.p) := PY10.cell 0
        have p1 : w10.cell? ⟨(px + 1), 1, none⟩ = some (.bool y.v) := PY10.cell 1
        have p2 : w10.cell? ⟨(px + 1), 2, none⟩ = some (.int .u64 y.hi) := PY10.cell 2
        have p3 : w10.cell? ⟨(px + 1), 3, none⟩ = some (.int .u64 y.lo) := PY10.cell 3
        have p4 : w10.cell? ⟨(px + 1), 4, none⟩ = some (.bool y.v') := PY10.cell 4
        have p5 : w10.cell? ⟨(px + 1), 5, none⟩ = some (.int .u64 y.hi') := PY10.cell 5
        have p6 : w10.cell? ⟨(px + 1), 6, none⟩ = some (.int .u64 y.lo') := PY10.cell 6
        have p7 : w10.cell? ⟨(px + 1), 7, none⟩ = some (.int .i64 y.sp) := PY10.cell 7
        have p8 : w10.cell? ⟨(px + 1), 8, none⟩ = some (.int .i64 y.dp) := PY10.cell 8
        have o12 : w10.cell? ⟨o, 12, none⟩ = some (.int .u64 gn) := by rw [← hga.out]; exact Q10.cell 12
        have hK : ∀ b, (((b = px ∨ b = px + 1) ∨ b = r) ∨ b = o) → b < w10.heap.size := fun b hb => by
          have := PX10.lt
          have := PY10.lt
          have := R10.lt
          have := Q10.lt
          omega
        have FN := tabn_find hT10 hK y k2 (gn % 2) 1
        have hf0 := FD.out s4.lk y (gn % 2)
        rw [beq_self_eq_true, Bool.and_true, ← hs4e] at hf0
        rw [hf0] at FN
        obtain ⟨fy, hfv⟩ : ∃ fv, findV n s4 y k2 (gn % 2) 1 = fv := ⟨_, rfl⟩
        rw [hfv] at FN
        obtain ⟨s5, hsn⟩ : ∃ sz, lookS n k2 s4 = sz := ⟨_, rfl⟩
        rw [hsn] at FN
        have hs5e : s5 = { s3 with lk := s5.lk } := by
          have e := lookS_eq n k2 s4
          rw [hsn] at e
          rw [e, hs4e]
        obtain ⟨bfy, hbfy⟩ : ∃ b, tupB en.t y = b := ⟨_, rfl⟩
        rw [hbfy] at FN
        replace FN := Lib.hid FN
        replace hbfy := Lib.hid hbfy
        replace hT10 := Lib.hid hT10
        clear hfv hf0 hsn
        go_upto_region 34 with (go_at_call 12; (with_reducible refine FN.out.mono ?_); rintro e v11 ⟨rfl, hTx, hcx⟩)
        change Code.wp _ _ _ _ (v11.alloc (.cells fy.entA 43))
        have Q12 := (Q10.chg hcx (fun e => e.2 (.inr rfl))).alloc (.cells fy.entA 43)
        have R12 := (R10.chg hcx (fun e => e.2 (.inl (.inr rfl)))).alloc (.cells fy.entA 43)
        have PX12 := (PX10.chg hcx (fun e => e.2 (.inl (.inl (.inl rfl))))).alloc (.cells fy.entA 43)
        have PY12 := (PY10.chg hcx (fun e => e.2 (.inl (.inl (.inr rfl))))).alloc (.cells fy.entA 43)
        have hT12 := (hTx.alloc (.cells fy.entA 43)).mono (K' := fun b => ((b = px ∨ b = px + 1) ∨ b = r) ∨ b = o) (fun b hb => .inl hb)
        try generalize v11.heap.size = rv11 at *
        generalize v11.alloc (.cells fy.entA 43) = w12 at *
        clear FN hT10 hTx hcx hK PX10 PY10 R10 Q10 o12 p0 p1 p2 p3 p4 p5 p6 p7 p8
        have p0 : w12.cell? ⟨px, 0, none⟩ = some (.int .i64 x.p) := PX12.cell 0
        have p1 : w12.cell? ⟨px, 1, none⟩ = some (.bool x.v) := PX12.cell 1
        have p2 : w12.cell? ⟨px, 2, none⟩ = some (.int .u64 x.hi) := PX12.cell 2
        have p3 : w12.cell? ⟨px, 3, none⟩ = some (.int .u64 x.lo) := PX12.cell 3
        have p4 : w12.cell? ⟨px, 4, none⟩ = some (.bool x.v') := PX12.cell 4
        have p5 : w12.cell? ⟨px, 5, none⟩ = some (.int .u64 x.hi') := PX12.cell 5
        have p6 : w12.cell? ⟨px, 6, none⟩ = some (.int .u64 x.lo') := PX12.cell 6
        have p7 : w12.cell? ⟨px, 7, none⟩ = some (.int .i64 x.sp) := PX12.cell 7
        have p8 : w12.cell? ⟨px, 8, none⟩ = some (.int .i64 x.dp) := PX12.cell 8
        have o12 : w12.cell? ⟨o, 12, none⟩ = some (.int .u64 gn) := by rw [← hga.out]; exact Q12.cell 12
        have hK : ∀ b, (((b = px ∨ b = px + 1) ∨ b = r) ∨ b = o) → b < w12.heap.size := fun b hb => by
          have := PX12.lt
          have := PY12.lt
          have := R12.lt
          have := Q12.lt
          omega
        have FN := tabn_find hT12 hK x k2 (gn % 2) 1
        have hf0 := FD.out s5.lk x (gn % 2)
        rw [beq_self_eq_true, Bool.and_true, ← hs5e] at hf0
        rw [hf0] at FN
        obtain ⟨fx, hfv⟩ : ∃ fv, findV n s5 x k2 (gn % 2) 1 = fv := ⟨_, rfl⟩
        rw [hfv] at FN
        obtain ⟨s6, hsn⟩ : ∃ sz, lookS n k2 s5 = sz := ⟨_, rfl⟩
        rw [hsn] at FN
        have hs6e : s6 = { s3 with lk := s6.lk } := by
          have e := lookS_eq n k2 s5
          rw [hsn] at e
          rw [e, hs5e]
        obtain ⟨bfx, hbfx⟩ : ∃ b, tupB en.t x = b := ⟨_, rfl⟩
        rw [hbfx] at FN
        replace FN := Lib.hid FN
        replace hbfx := Lib.hid hbfx
        replace hT12 := Lib.hid hT12
        clear hfv hf0 hsn
        go_upto_region 35 with (go_at_call 12; (with_reducible refine FN.out.mono ?_); rintro e v13 ⟨rfl, hTx, hcx⟩)
        change Code.wp _ _ _ _ (v13.alloc (.cells fx.entA 43))
        have Q14 := (Q12.chg hcx (fun e => e.2 (.inr rfl))).alloc (.cells fx.entA 43)
        have R14 := (R12.chg hcx (fun e => e.2 (.inl (.inr rfl)))).alloc (.cells fx.entA 43)
        have PX14 := (PX12.chg hcx (fun e => e.2 (.inl (.inl (.inl rfl))))).alloc (.cells fx.entA 43)
        have PY14 := (PY12.chg hcx (fun e => e.2 (.inl (.inl (.inr rfl))))).alloc (.cells fx.entA 43)
        have hT14 := (hTx.alloc (.cells fx.entA 43)).mono (K' := fun b => ((b = px ∨ b = px + 1) ∨ b = r) ∨ b = o) (fun b hb => .inl hb)
        try generalize v13.heap.size = rv13 at *
        generalize v13.alloc (.cells fx.entA 43) = w14 at *
        clear FN hT12 hTx hcx hK PX12 PY12 R12 Q12 o12 p0 p1 p2 p3 p4 p5 p6 p7 p8
        have q0 : w14.cell? ⟨r, 0, none⟩ = some (.int .i64 en.t.p) := R14.cell 0
        have q1 : w14.cell? ⟨r, 1, none⟩ = some (.bool en.t.v) := R14.cell 1
        have q2 : w14.cell? ⟨r, 2, none⟩ = some (.int .u64 en.t.hi) := R14.cell 2
        have q3 : w14.cell? ⟨r, 3, none⟩ = some (.int .u64 en.t.lo) := R14.cell 3
        have q4 : w14.cell? ⟨r, 4, none⟩ = some (.bool en.t.v') := R14.cell 4
        have q5 : w14.cell? ⟨r, 5, none⟩ = some (.int .u64 en.t.hi') := R14.cell 5
        have q6 : w14.cell? ⟨r, 6, none⟩ = some (.int .u64 en.t.lo') := R14.cell 6
        have q7 : w14.cell? ⟨r, 7, none⟩ = some (.int .i64 en.t.sp) := R14.cell 7
        have q8 : w14.cell? ⟨r, 8, none⟩ = some (.int .i64 en.t.dp) := R14.cell 8
        have p0 : w14.cell? ⟨(px + 1), 0, none⟩ = some (.int .i64 y.p) := PY14.cell 0
        have p1 : w14.cell? ⟨(px + 1), 1, none⟩ = some (.bool y.v) := PY14.cell 1
        have p2 : w14.cell? ⟨(px + 1), 2, none⟩ = some (.int .u64 y.hi) := PY14.cell 2
        have p3 : w14.cell? ⟨(px + 1), 3, none⟩ = some (.int .u64 y.lo) := PY14.cell 3
        have p4 : w14.cell? ⟨(px + 1), 4, none⟩ = some (.bool y.v') := PY14.cell 4
        have p5 : w14.cell? ⟨(px + 1), 5, none⟩ = some (.int .u64 y.hi') := PY14.cell 5
        have p6 : w14.cell? ⟨(px + 1), 6, none⟩ = some (.int .u64 y.lo') := PY14.cell 6
        have p7 : w14.cell? ⟨(px + 1), 7, none⟩ = some (.int .i64 y.sp) := PY14.cell 7
        have p8 : w14.cell? ⟨(px + 1), 8, none⟩ = some (.int .i64 y.dp) := PY14.cell 8
        have z0 : w14.cell? ⟨px, 0, none⟩ = some (.int .i64 x.p) := PX14.cell 0
        have z1 : w14.cell? ⟨px, 1, none⟩ = some (.bool x.v) := PX14.cell 1
        have z2 : w14.cell? ⟨px, 2, none⟩ = some (.int .u64 x.hi) := PX14.cell 2
        have z3 : w14.cell? ⟨px, 3, none⟩ = some (.int .u64 x.lo) := PX14.cell 3
        have z4 : w14.cell? ⟨px, 4, none⟩ = some (.bool x.v') := PX14.cell 4
        have z5 : w14.cell? ⟨px, 5, none⟩ = some (.int .u64 x.hi') := PX14.cell 5
        have z6 : w14.cell? ⟨px, 6, none⟩ = some (.int .u64 x.lo') := PX14.cell 6
        have z7 : w14.cell? ⟨px, 7, none⟩ = some (.int .i64 x.sp) := PX14.cell 7
        have z8 : w14.cell? ⟨px, 8, none⟩ = some (.int .i64 x.dp) := PX14.cell 8
        have hE1 : ∀ W, (binOp .eql 39 y.val en.t.val).run Try.prog W = .ok (.bool bfy) W := fun W => by rw [tup_eql, tupB_comm, hbfy.out]
        have hE2 : ∀ W, (binOp .eql 39 x.val en.t.val).run Try.prog W = .ok (.bool bfx) W := fun W => by rw [tup_eql, tupB_comm, hbfx.out]
        have hq1 : (bfy == bfy) = true := by simp
        have hq2 : (bfx == bfx) = true := by simp
        have hbF := hT14.below
        replace hT14 := Lib.hid hT14
        clear R14 PX14 PY14 Q14
        go_wp2_with (go_at_call 6; (with_reducible refine (awake19 _).mono ?_); rintro e v15 ⟨rfl, hb15⟩)
        go_ret
        exact ⟨rfl, below_chain hb15 hbF⟩
end Go.Proofs.Ytmkknjhalcocmaa

namespace Go.Proofs.Ytmkknjhalcocmaa
open Go Go.RowKit Go.Deep Go.Maps Go.ChangeMaps

/-- A step: who is not behind it any more has a generation more; at most one slot is looked at. -/
def StepR (n : Nat) (s s' : TSt) : Prop :=
  (∀ k : Nat, k < n → (s'.E k).gen = if (s.E k).used && !(s'.E k).used then IntKind.u64.wrap ((s.E k).gen + 1) else (s.E k).gen) ∧ (s'.lk = s.lk ∨ s'.lk = s.lk + 1)
section
variable {n : Nat} {s s' : TSt}
theorem StepR.refl (n : Nat) (s : TSt) : StepR n s s := ⟨fun k _ => by cases (s.E k).used <;> rfl, .inl rfl⟩
theorem look_lk (h : 0 ≤ s.lk ∧ s.lk ≤ 1000) (i : Int) : (lookS n i s).lk = s.lk ∨ (lookS n i s).lk = s.lk + 1 := by
  unfold lookS
  split
  · right
    show wrap64 (s.lk + 1) = s.lk + 1
    unfold wrap64
    omega
  · exact .inl rfl
theorem stepR_look (h : 0 ≤ s.lk ∧ s.lk ≤ 1000) (i : Int) : StepR n s (lookS n i s) := ⟨fun k _ => by rw [lookS_E]; cases (s.E k).used <;> rfl, look_lk h i⟩
theorem stepR_gone (h : 0 ≤ s.lk ∧ s.lk ≤ 1000) (i : Int) {k : Nat} (hu : (s.E k).used = true) : StepR n s (goS n (lookS n i s) k) := by
  refine ⟨fun j _ => ?_, look_lk h i⟩
  show (updE (lookS n i s).E k (clrS ((lookS n i s).E k)) j).gen = if (s.E j).used && !(updE (lookS n i s).E k (clrS ((lookS n i s).E k)) j).used then _ else _
  rw [lookS_E]
  by_cases e : j = k
  · subst e
    rw [updE_self, hu]
    rfl
  · rw [updE_ne _ _ e]
    cases (s.E j).used <;> rfl
theorem stepR_put (h : 0 ≤ s.lk ∧ s.lk ≤ 1000) (i : Int) {k : Nat} {x : Slt} (hx : x.used = true) (hg : x.gen = (s.E k).gen) {s' : TSt} (hE : s'.E = updE s.E k x) (hl : s'.lk = (lookS n i s).lk) : StepR n s s' := by
  refine ⟨fun j _ => ?_, by rw [hl]; exact look_lk h i⟩
  rw [hE]
  by_cases e : j = k
  · subst e
    rw [updE_self, hx, hg]
    cases (s.E j).used <;> rfl
  · rw [updE_ne _ _ e]
    cases (s.E j).used <;> rfl
theorem stepR_close (h : 0 ≤ s.lk ∧ s.lk ≤ 1000) (i : Int) : StepR n s (closeS n s i) := by
  cases hc : closeOk n s i
  · rw [closeS_no hc]
    exact stepR_look h i
  · obtain ⟨k, rfl, hk, hu⟩ := closeOk_iff.1 hc
    rw [closeS_yes hc, Int.toNat_natCast]
    exact stepR_gone h _ hu
theorem stepR_touch {c : TCfg} (h : 0 ≤ s.lk ∧ s.lk ≤ 1000) (i fl : Int) : StepR n s (touchS c n s i fl) := by
  cases hc : closeOk n s i
  · rw [touchS_no hc]
    exact stepR_look h i
  · obtain ⟨k, rfl, hk, hu⟩ := closeOk_iff.1 hc
    by_cases h4 : nextS (s.E ((k : Int)).toNat).st fl = 4
    · rw [touchS_gone hc h4, Int.toNat_natCast]
      exact stepR_gone h _ hu
    · rw [touchS_stay hc h4]
      refine stepR_put (i := k) (k := k) (x := touchV c n s k fl) h ?_ ?_ rfl rfl
      · rw [touchV_stay hc h4, Int.toNat_natCast]
        exact hu
      · rw [touchV_stay hc h4, Int.toNat_natCast]
        rfl
theorem stepR_open {c : TCfg} (hi : TI n s) (h : 0 ≤ s.lk ∧ s.lk ≤ 1000) (t : Tup) (bk fl : Int) : StepR n s (openS c n s t bk fl) := by
  cases ho : openOk t bk fl
  · rw [openS_no ho]
    exact StepR.refl n s
  · cases hL : s.L with
    | nil => rw [openS_full hL]; exact StepR.refl n s
    | cons i l =>
      have hi := hi.rng i (by rw [hL]; exact List.mem_cons_self)
      obtain ⟨k, rfl⟩ : ∃ k : Nat, i = (k : Int) := ⟨i.toNat, by omega⟩
      rw [openS_yes ho hL, openV_yes ho hL, Int.toNat_natCast]
      exact stepR_put (i := k) (k := k) (x := { openX (s.E k) t bk fl with due := dueT c s.now (beginS t.p fl) }) h rfl rfl rfl rfl
theorem stepR_of (P : Nat → Prop) [DecidablePred P] (hE : ∀ k : Nat, k < n → (s'.E k) = if P k then clrS (s.E k) else s.E k) (hu : ∀ k : Nat, k < n → P k → (s.E k).used = true) (hl : s'.lk = s.lk) : StepR n s s' := by
  refine ⟨fun k hk => ?_, .inl hl⟩
  rw [hE k hk]
  by_cases hp : P k
  · rw [if_pos hp, hu k hk hp]
    rfl
  · rw [if_neg hp]
    cases (s.E k).used <;> rfl
theorem stepR_go (hi : TI n s) {G nw : Int} {S : List Int} (hS : GoS G s.now nw s.M S) : StepR n s (goTab n s nw S) := by
  obtain ⟨-, h2, -, -, -, h6⟩ := hi.go hS
  refine stepR_of (fun k => (k : Int) ∈ S) (fun k _ => h2 k) (fun k hk hp => ?_) h6
  cases hg : goOk s.now nw
  · rw [hS.no hg] at hp
    cases hp
  · have := (hi.has _).1 ((hS.mem hg _).1 hp).1
    rw [Int.toNat_natCast] at this
    exact this.2.2
theorem stepR_drop (hi : TI n s) (P : Slt → Bool) : StepR n s (dropS n s (allL s.E P n)) := by
  obtain ⟨-, h2, -, -, h6⟩ := hi.drop P
  refine stepR_of (fun k => ((s.E k).used && P (s.E k)) = true) h2 (fun k _ hp => ?_) h6
  rw [Bool.and_eq_true] at hp
  exact hp.1
/-- Who is live, by slots. -/
theorem mem_liveL {x : Slt} : x ∈ liveL n s ↔ ∃ k : Nat, k < n ∧ (s.E k).used = true ∧ s.E k = x := by
  unfold liveL entsOf allL
  rw [List.mem_map]
  constructor
  · rintro ⟨k, hk, rfl⟩
    rw [List.mem_filter, List.mem_range, Bool.and_true] at hk
    exact ⟨k, hk.1, hk.2, rfl⟩
  · rintro ⟨k, hk, hu, rfl⟩
    exact ⟨k, by rw [List.mem_filter, List.mem_range, Bool.and_true]; exact ⟨hk, hu⟩, rfl⟩
def atB (L : List Slt) (k : Nat) : Bool := L.any fun x => x.sl == (k : Int)
theorem at_live (hi : TI n s) {k : Nat} (hk : k < n) : atB (liveL n s) k = (s.E k).used := by
  unfold atB
  rw [Bool.eq_iff_iff, List.any_eq_true]
  constructor
  · rintro ⟨x, hx, e⟩
    obtain ⟨j, hj, hu, rfl⟩ := mem_liveL.1 hx
    rw [hi.sl j hj, beq_iff_eq] at e
    have : j = k := by omega
    exact this ▸ hu
  · intro hu
    exact ⟨s.E k, mem_liveL.2 ⟨k, hk, hu, rfl⟩, by rw [hi.sl k hk]; simp⟩
theorem count_two (L : List Int) : ∀ n : Nat, L.Nodup → (∀ x ∈ L, 0 ≤ x ∧ x < n) → ((List.range n).filter fun k : Nat => !decide ((k : Int) ∈ L)).length + L.length = n
  | 0, _, h => by
    have : L = [] := List.eq_nil_iff_forall_not_mem.2 fun x hx => by have := h x hx; omega
    subst this
    rfl
  | n + 1, hn, h => by
    rw [List.range_succ, List.filter_append, List.length_append]
    by_cases hm : (n : Int) ∈ L
    · have hp := List.perm_cons_erase hm
      have ih := count_two (L.erase n) n (hn.erase _) (fun x hx => by
        have h1 := h x (List.mem_of_mem_erase hx)
        have h2 : x ≠ n := fun e => by rw [e] at hx; exact (hn.not_mem_erase) hx
        omega)
      have e : ((List.range n).filter fun k : Nat => !decide ((k : Int) ∈ L)) = (List.range n).filter fun k : Nat => !decide ((k : Int) ∈ L.erase n) := by
        refine List.filter_congr fun k hk => ?_
        have hk := List.mem_range.1 hk
        congr 1
        rw [decide_eq_decide, List.mem_erase_of_ne (by omega)]
      rw [e]
      have hl := List.length_erase_of_mem hm
      have hpos : 0 < L.length := List.length_pos_of_mem hm
      simp [hm]
      omega
    · have ih := count_two L n hn (fun x hx => by
        have h1 := h x hx
        have h2 : x ≠ n := fun e => hm (e ▸ hx)
        omega)
      simp [hm]
      omega
theorem live_free (hi : TI n s) : (liveL n s).length + s.L.length = n := by
  have h := count_two s.L n hi.nd hi.rng
  refine Eq.trans ?_ h
  unfold liveL entsOf allL
  rw [List.length_map]
  congr 2
  refine List.filter_congr fun k hk => ?_
  have := hi.used k (List.mem_range.1 hk)
  rw [Bool.and_true, Bool.eq_iff_iff, this]
  simp
theorem any_live {x : Slt} (hm : x ∈ liveL n s) : (liveL n s).any (fun y => entB y x) = true := by
  rw [List.any_eq_true]
  refine ⟨x, hm, ?_⟩
  unfold entB
  simp [tupB_self]
end
theorem any_take {α : Type} (L : List α) (p : α → Bool) {j : Nat} (hj : j < L.length) : (L.take (j + 1)).any p = ((L.take j).any p || p L[j]) := by
  rw [List.take_succ_eq_append_getElem hj, List.any_append]
  simp
theorem at19 (w : World) (base q : Nat) (A : Option Addr) (L : List Slt) (hO : OwnE w base A q L) (hl : L.length ≤ 1000000) (k : Nat) :
    Calls Try.prog 18 #[.slice A L.length q, .int .i64 k] w fun e w' => e = .returned (.bool (atB L k)) ∧ w = w' := by
  have hr := hO.reads
  obtain ⟨bv, hbv⟩ : ∃ bv, atB L k = bv := ⟨_, rfl⟩
  rw [hbv]
  replace hr := Lib.hid hr
  replace hO := Lib.hid hO
  go_enter Try.func18, Try.ntmps18
  go_wp2_with fail
  go_loop [5] (fun iv => ∃ j : Nat, j ≤ L.length ∧ iv = .int .i64 (j : Nat) ∧ (L.take j).any (fun x => x.sl == (k : Int)) = false) (fun iv => L.length - (intOf iv).toNat)
  case atStart => exact ⟨0, by omega, rfl, rfl⟩
  case round =>
    obtain ⟨j, hj, rfl, hno⟩ := hrel
    by_cases hlt : j < L.length
    · have hlti : (j : Int) < (L.length : Int) := by omega
      obtain ⟨ad, rfl, hbl, hc⟩ := hr.out.rec_at Slt.ent (fun _ => rfl) hlt
      have c11 : w.cell? ⟨(ad.add (j * 14)).block, (ad.add (j * 14)).off + 11, none⟩ = some (.int .i64 L[j].sl) := hc 11 _ rfl
      have hs := any_take L (fun x => x.sl == (k : Int)) hlt
      rw [hno, Bool.false_or] at hs
      by_cases he : L[j].sl = (k : Int)
      · have hb : bv = true := by
          rw [← hbv]
          unfold atB
          rw [List.any_eq_true]
          exact ⟨L[j], List.getElem_mem hlt, by simpa using he⟩
        subst hb
        have x1 : (L[j].sl == (k : Int)) = true := by simpa using he
        replace hbv := Lib.hid hbv
        replace hs := Lib.hid hs
        replace he := Lib.hid he
        clear hc
        generalize L[j].sl = z at *
        go_wp2_with fail
        go_ret
        exact ⟨rfl, rfl⟩
      · have x1 : (L[j].sl == (k : Int)) = false := by simpa using he
        rw [x1] at hs
        replace hbv := Lib.hid hbv
        replace hs := Lib.hid hs
        replace he := Lib.hid he
        clear hc
        generalize L[j].sl = z at *
        go_wp2_with fail
        go_round
        case rel => exact ⟨j + 1, by omega, by go_num, hs.out⟩
        case measure => simp [intOf]; omega
    · obtain rfl : j = L.length := by omega
      have hlti : ¬ (L.length : Int) < (L.length : Int) := by omega
      rw [List.take_length] at hno
      have hb : bv = false := by rw [← hbv]; exact hno
      subst hb
      replace hbv := Lib.hid hbv
      go_wp2_with fail
      go_ret
      exact ⟨rfl, rfl⟩
end Go.Proofs.Ytmkknjhalcocmaa

namespace Go.Proofs.Ytmkknjhalcocmaa
open Go Go.RowKit Go.Deep Go.Maps Go.ChangeMaps

/-- An entry that someone got: it stands as told, or it went when it was due. -/
def DOk (n : Nat) (s : TSt) (x : Slt) (d : Int) : Prop :=
  x.used = true ∧ ∃ k : Nat, k < n ∧ x.sl = (k : Int) ∧ (s.E k = x ∧ x.due = d ∨ x.gen < (s.E k).gen ∧ d ≤ s.now)
/-- What visitors know. -/
structure DSt where
  had : Nat → Bool
  due : Nat → Int
  en : Nat → Slt
def alive (s : TSt) (x : Slt) : Prop := s.E x.sl.toNat = x
/-- What is true of them. -/
structure DI (n : Nat) (G : Int) (m : Nat) (gb : Int) (s : TSt) (D : DSt) : Prop where
  ok : ∀ i, i < m → D.had i = true → DOk n s (D.en i) (D.due i)
  apart : ∀ i j, i < m → j < m → i ≠ j → D.had i = true → D.had j = true → alive s (D.en i) → alive s (D.en j) → (D.en i).sl ≠ (D.en j).sl
  soon : ∀ k : Nat, k < n → (s.E k).used = true → s.now < (s.E k).due + G
  gen : ∀ k : Nat, k < n → (s.E k).gen ≤ gb
  nw : 0 ≤ s.now ∧ s.now ≤ 1000
/-- Is an entry in a list of those that are live? -/
def heldB (L : List Slt) (x : Slt) : Bool := L.any fun y => y.sl == x.sl && y.gen == x.gen
section
variable {n m : Nat} {G gb d : Int} {s s' : TSt} {x : Slt} {D : DSt}
theorem DOk.alive_iff (h : DOk n s x d) : alive s x ↔ (s.E x.sl.toNat).used = true ∧ (s.E x.sl.toNat).gen = x.gen := by
  obtain ⟨hu, k, hk, hs, h⟩ := h
  unfold alive
  rw [hs, Int.toNat_natCast]
  constructor
  · intro e
    rw [e]
    exact ⟨hu, rfl⟩
  · rintro ⟨-, h2⟩
    rcases h with h | h
    · exact h.1
    · omega
theorem held_iff (hi : TI n s) (h : DOk n s x d) : heldB (liveL n s) x = true ↔ alive s x := by
  rw [h.alive_iff]
  obtain ⟨hu, k, hk, hs, h⟩ := h
  rw [hs, Int.toNat_natCast]
  unfold heldB
  rw [List.any_eq_true]
  constructor
  · rintro ⟨y, hy, e⟩
    obtain ⟨j, hj, hju, rfl⟩ := mem_liveL.1 hy
    rw [Bool.and_eq_true, beq_iff_eq, beq_iff_eq, hi.sl j hj, hs] at e
    obtain rfl : j = k := by omega
    exact ⟨hju, e.2⟩
  · rintro ⟨a, b⟩
    exact ⟨s.E k, mem_liveL.2 ⟨k, hk, a, rfl⟩, by rw [hi.sl k hk, hs, b]; simp⟩
theorem DOk.dead (h : DOk n s x d) (hd : ¬ alive s x) : d ≤ s.now ∧ ∃ k : Nat, k < n ∧ x.sl = (k : Int) ∧ x.gen < (s.E k).gen := by
  obtain ⟨hu, k, hk, hs, h⟩ := h
  rcases h with h | h
  · exact absurd (by unfold alive; rw [hs, Int.toNat_natCast]; exact h.1) hd
  · exact ⟨h.2, k, hk, hs, h.1⟩
theorem DOk.live (h : DOk n s x d) (hd : alive s x) : x.due = d ∧ ∃ k : Nat, k < n ∧ x.sl = (k : Int) ∧ s.E k = x ∧ (s.E k).used = true := by
  obtain ⟨hu, k, hk, hs, h⟩ := h
  have hd2 := hd
  unfold alive at hd2
  rw [hs, Int.toNat_natCast] at hd2
  rcases h with h | h
  · exact ⟨h.2, k, hk, hs, h.1, by rw [h.1]; exact hu⟩
  · rw [hd2] at h
    omega
theorem turn_lt (hG : 1 ≤ G) (d : Int) : d ≤ turnI G d * G ∧ turnI G d * G < d + G := by
  unfold turnI
  have h1 := Int.emod_add_mul_ediv (d + G - 1) G
  have h2 := Int.emod_nonneg (d + G - 1) (show G ≠ 0 by omega)
  have h3 := Int.emod_lt_of_pos (d + G - 1) (show 0 < G by omega)
  rw [Int.mul_comm] at h1
  omega
/-- The time goes on. -/
theorem DI.go (h : DI n G m gb s D) (hi : TI n s) (hG : 1 ≤ G) {nw : Int} {S : List Int} (hS : GoS G s.now nw s.M S) (hn : s.now ≤ nw ∧ nw ≤ 1000) (hgb : gb ≤ 100000) : DI n G m (gb + 1) (goTab n s nw S) D ∧ (goTab n s nw S).now = nw := by
  obtain ⟨h1, h2, h3, h4, h5, h6⟩ := hi.go hS
  have hg : goOk s.now nw = true := by unfold goOk; simp; omega
  have hnow : (goTab n s nw S).now = nw := by rw [h5]; unfold goN; rw [hg]; rfl
  have hw : ∀ k : Nat, k < n → IntKind.u64.wrap ((s.E k).gen + 1) = (s.E k).gen + 1 := fun k hk => by
    have a := h.gen k hk
    have b := (hi.gr k hk).1
    simp [IntKind.wrap, IntKind.bits, IntKind.signed]
    omega
  have hmem : ∀ k : Nat, k < n → ((k : Int) ∈ S ↔ (s.E k).used = true ∧ turnI G (s.E k).due * G ≤ nw) := fun k hk => by
    rw [hS.mem hg, hi.has, Int.toNat_natCast]
    constructor
    · rintro ⟨⟨-, -, a⟩, b⟩
      rw [hi.get k hk a] at b
      exact ⟨a, b⟩
    · rintro ⟨a, b⟩
      rw [hi.get k hk a]
      exact ⟨⟨by omega, by omega, a⟩, b⟩
  have hal : ∀ x : Slt, (∃ k : Nat, k < n ∧ x.sl = (k : Int)) → x.used = true → alive (goTab n s nw S) x → alive s x := by
    rintro x ⟨k, hk, hs⟩ hu
    unfold alive
    rw [hs, Int.toNat_natCast, h2]
    by_cases e : (k : Int) ∈ S
    · rw [if_pos e]
      intro e2
      rw [← e2] at hu
      cases hu
    · rw [if_neg e]
      exact id
  refine ⟨⟨fun i hi2 hh => ?_, fun i j hi2 hj hij h7 h8 h9 h10 => ?_, fun k hk hu => ?_, fun k hk => ?_, by rw [hnow]; have := h.nw; omega⟩, hnow⟩
  · obtain ⟨hu, k, hk, hs, ho⟩ := h.ok i hi2 hh
    refine ⟨hu, k, hk, hs, ?_⟩
    rw [h2 k, hnow]
    by_cases e : (k : Int) ∈ S
    · rw [if_pos e]
      right
      show _ < IntKind.u64.wrap ((s.E k).gen + 1) ∧ _
      rw [hw k hk]
      rcases ho with ⟨a, b⟩ | ⟨a, b⟩
      · have := ((hmem k hk).1 e).2
        have t := (turn_lt hG (s.E k).due).1
        rw [a] at this t ⊢
        omega
      · omega
    · rw [if_neg e]
      rcases ho with ho | ho
      · exact .inl ho
      · exact .inr ⟨ho.1, by omega⟩
  · obtain ⟨hu, k, hk, hs, -⟩ := h.ok i hi2 h7
    obtain ⟨hu', k', hk', hs', -⟩ := h.ok j hj h8
    exact h.apart i j hi2 hj hij h7 h8 (hal _ ⟨k, hk, hs⟩ hu h9) (hal _ ⟨k', hk', hs'⟩ hu' h10)
  · rw [h2 k] at hu ⊢
    rw [hnow]
    by_cases e : (k : Int) ∈ S
    · rw [if_pos e] at hu
      cases hu
    · rw [if_neg e] at hu ⊢
      have t := (turn_lt hG (s.E k).due).2
      have : ¬ turnI G (s.E k).due * G ≤ nw := fun h => e ((hmem k hk).2 ⟨hu, h⟩)
      omega
  · rw [h2 k]
    have := h.gen k hk
    by_cases e : (k : Int) ∈ S
    · rw [if_pos e]
      show IntKind.u64.wrap ((s.E k).gen + 1) ≤ _
      rw [hw k hk]
      omega
    · rw [if_neg e]
      omega
/-- A step at one slot, k, by visitor i: others know what they knew. -/
theorem DI.step (h : DI n G m gb s D) {i k : Nat} {hb : Bool} {d : Int} {x : Slt} (hk : k < n) (him : i < m) (hE : ∀ j, j ≠ k → s'.E j = s.E j) (hg : (s.E k).gen ≤ (s'.E k).gen ∧ (s'.E k).gen ≤ gb + 1) (hnow : s'.now = s.now)
    (hoth : ∀ j, j < m → j ≠ i → D.had j = true → (D.en j).sl = (k : Int) → ¬ alive s (D.en j)) (hsoon : (s'.E k).used = true → s.now < (s'.E k).due + G)
    (hself : hb = true → x = s'.E k ∧ x.used = true ∧ x.sl = k ∧ x.due = d) :
    DI n G m (gb + 1) s' ⟨fun j => if j = i then hb else D.had j, fun j => if j = i then d else D.due j, fun j => if j = i then x else D.en j⟩ ∧ ∀ j, j < m → j ≠ i → D.had j = true → (alive s' (D.en j) ↔ alive s (D.en j)) := by
  have hot : ∀ j, j < m → j ≠ i → D.had j = true → DOk n s' (D.en j) (D.due j) ∧ (alive s' (D.en j) ↔ alive s (D.en j)) := fun j hj hji hh => by
    have ho := h.ok j hj hh
    by_cases e : (D.en j).sl = (k : Int)
    · have hd := hoth j hj hji hh e
      obtain ⟨a, k2, hk2, e2, b⟩ := ho.dead hd
      obtain rfl : k2 = k := by omega
      have ho2 : DOk n s' (D.en j) (D.due j) := ⟨ho.1, k2, hk, e, .inr ⟨by omega, by omega⟩⟩
      refine ⟨ho2, ⟨fun h => absurd ?_ (fun h => h), fun h => absurd h hd⟩⟩
      have := (ho2.alive_iff.1 h).2
      rw [e, Int.toNat_natCast] at this
      omega
    · obtain ⟨hu, k2, hk2, e2, hc⟩ := ho
      have : k2 ≠ k := fun e3 => e (e3 ▸ e2)
      refine ⟨⟨hu, k2, hk2, e2, by rw [hE k2 this, hnow]; exact hc⟩, ?_⟩
      unfold alive
      rw [e2, Int.toNat_natCast, hE k2 this]
  refine ⟨⟨fun j hj hh => ?_, fun j j' hj hj' hjj hh hh' ha ha' => ?_, fun j hj hu => ?_, fun j hj => ?_, by rw [hnow]; exact h.nw⟩, fun j hj hji hh => (hot j hj hji hh).2⟩
  · by_cases e : j = i
    · subst e
      simp only [if_true] at hh ⊢
      obtain ⟨a, b, c, d2⟩ := hself hh
      exact ⟨b, k, hk, c, .inl ⟨a.symm, d2⟩⟩
    · simp only [if_neg e] at hh ⊢
      exact (hot j hj e hh).1
  · by_cases e : j = i
    · subst e
      have e' : j' ≠ j := fun h => hjj h.symm
      simp only [if_true, if_neg e'] at hh hh' ha ha' ⊢
      obtain ⟨a, b, c, d2⟩ := hself hh
      intro e2
      rw [c] at e2
      exact hoth j' hj' e' hh' e2.symm ((hot j' hj' e' hh').2.1 ha')
    · by_cases e' : j' = i
      · subst e'
        simp only [if_true, if_neg e] at hh hh' ha ha' ⊢
        obtain ⟨a, b, c, d2⟩ := hself hh'
        intro e2
        rw [c] at e2
        exact hoth j hj e hh e2 ((hot j hj e hh).2.1 ha)
      · simp only [if_neg e, if_neg e'] at hh hh' ha ha' ⊢
        exact h.apart j j' hj hj' hjj hh hh' ((hot j hj e hh).2.1 ha) ((hot j' hj' e' hh').2.1 ha')
  · by_cases e : j = k
    · subst e
      rw [hnow]
      exact hsoon hu
    · rw [hE j e] at hu ⊢
      rw [hnow]
      exact h.soon j hj hu
  · by_cases e : j = k
    · subst e
      exact hg.2
    · rw [hE j e]
      have := h.gen j hj
      omega
/-- A visitor who leaves. -/
theorem DI.not (h : DI n G m gb s D) {i : Nat} (d : Int) (x : Slt) : DI n G m (gb + 1) s ⟨fun j => if j = i then false else D.had j, fun j => if j = i then d else D.due j, fun j => if j = i then x else D.en j⟩ := by
  refine ⟨fun j hj hh => ?_, fun j j' hj hj' hjj hh hh' ha ha' => ?_, h.soon, fun j hj => by have := h.gen j hj; omega, h.nw⟩
  · by_cases e : j = i
    · simp only [if_pos e] at hh
      cases hh
    · simp only [if_neg e] at hh ⊢
      exact h.ok j hj hh
  · by_cases e : j = i
    · simp only [if_pos e] at hh
      cases hh
    · by_cases e' : j' = i
      · simp only [if_pos e'] at hh'
        cases hh'
      · simp only [if_neg e, if_neg e'] at hh hh' ha ha' ⊢
        exact h.apart j j' hj hj' hjj hh hh' ha ha'
theorem DI.weak (h : DI n G m gb s D) {gb' : Int} (hg : gb ≤ gb') : DI n G m gb' s D := ⟨h.ok, h.apart, h.soon, fun k hk => by have := h.gen k hk; omega, h.nw⟩
/-- A visitor's packet. -/
theorem DI.touch {c : TCfg} (h : DI n G m gb s D) (hi : TI n s) (hr : c.right) (hG : 1 ≤ G) (hgb : gb ≤ 100000) {i : Nat} (him : i < m) (hh : D.had i = true) (ha : alive s (D.en i)) (fl : Int) :
    closeOk n s (D.en i).sl = true ∧ (touchV c n s (D.en i).sl fl).st = nextS (D.en i).st fl ∧ (touchS c n s (D.en i).sl fl).now = s.now ∧
      DI n G m (gb + 1) (touchS c n s (D.en i).sl fl) ⟨fun j => if j = i then (nextS (D.en i).st fl != 4) else D.had j, fun j => if j = i then s.now + idleS c.a c.b c.c c.d (nextS (D.en i).st fl) else D.due j, fun j => if j = i then touchV c n s (D.en i).sl fl else D.en j⟩ ∧
      ∀ j, j < m → j ≠ i → D.had j = true → (alive (touchS c n s (D.en i).sl fl) (D.en j) ↔ alive s (D.en j)) := by
  obtain ⟨hd, k, hk, hs, hE, hu⟩ := (h.ok i him hh).live ha
  have hc : closeOk n s (D.en i).sl = true := closeOk_iff.2 ⟨k, hs, hk, hu⟩
  have hto : (D.en i).sl.toNat = k := by rw [hs, Int.toNat_natCast]
  have hst : (s.E (D.en i).sl.toNat).st = (D.en i).st := by rw [hto, hE]
  have hoth : ∀ j, j < m → j ≠ i → D.had j = true → (D.en j).sl = (k : Int) → ¬ alive s (D.en j) := fun j hj hji hhj e hal =>
    h.apart j i hj him hji hhj hh hal ha (e.trans hs.symm)
  have hgk := h.gen k hk
  have hg0 := (hi.gr k hk).1
  have hid := hr (nextS (D.en i).st fl)
  by_cases h4 : nextS (D.en i).st fl = 4
  · have hv : touchV c n s (D.en i).sl fl = nextT (s.E k) fl := by
      unfold touchV
      rw [hc, if_pos rfl, hst, if_pos h4, hto]
    have hss : touchS c n s (D.en i).sl fl = goS n (lookS n (D.en i).sl s) k := by rw [touchS_gone hc (by rw [hst]; exact h4), hto]
    have hEk : (touchS c n s (D.en i).sl fl).E = updE s.E k (clrS (s.E k)) := by
      rw [hss]
      show updE (lookS n (D.en i).sl s).E k (clrS ((lookS n (D.en i).sl s).E k)) = _
      rw [lookS_E]
    have hnw : (touchS c n s (D.en i).sl fl).now = s.now := by
      rw [hss]
      show (lookS n (D.en i).sl s).now = _
      rw [lookS_eq]
    have hw : IntKind.u64.wrap ((s.E k).gen + 1) = (s.E k).gen + 1 := by
      simp [IntKind.wrap, IntKind.bits, IntKind.signed]
      omega
    refine ⟨hc, by rw [hv, ← hE]; rfl, hnw, h.step hk him (fun j hj => by rw [hEk, updE_ne _ _ hj]) ?_ hnw hoth (fun hu2 => ?_) (fun e => ?_)⟩
    · rw [hEk, updE_self]
      show _ ≤ IntKind.u64.wrap ((s.E k).gen + 1) ∧ IntKind.u64.wrap ((s.E k).gen + 1) ≤ _
      rw [hw]
      omega
    · rw [hEk, updE_self] at hu2
      cases hu2
    · rw [h4] at e
      cases e
  · have hv : touchV c n s (D.en i).sl fl = { nextT (s.E k) fl with due := dueT c s.now (nextS (D.en i).st fl) } := by
      rw [touchV_stay hc (by rw [hst]; exact h4), hst, hto]
    have hss := touchS_stay (c := c) (fl := fl) hc (by rw [hst]; exact h4)
    have hEk : (touchS c n s (D.en i).sl fl).E = updE s.E k (touchV c n s (D.en i).sl fl) := by
      rw [hss, hto]
    have hnw : (touchS c n s (D.en i).sl fl).now = s.now := by rw [hss]
    refine ⟨hc, by rw [hv, ← hE]; rfl, hnw, h.step hk him (fun j hj => by rw [hEk, updE_ne _ _ hj]) ?_ hnw hoth (fun hu2 => ?_) (fun e => ?_)⟩
    · rw [hEk, updE_self, hv]
      show _ ≤ (s.E k).gen ∧ (s.E k).gen ≤ _
      omega
    · rw [hEk, updE_self, hv]
      show s.now < s.now + idleS c.a c.b c.c c.d (nextS (D.en i).st fl) + G
      omega
    · rw [hEk, updE_self]
      refine ⟨rfl, ?_, ?_, ?_⟩
      · rw [hv]
        exact hu
      · rw [hv]
        exact hi.sl k hk
      · rw [hv]
theorem beginS_idle {c : TCfg} (hr : c.right) (st : Int) : 0 ≤ idleS c.a c.b c.c c.d st ∧ idleS c.a c.b c.c c.d st ≤ 1048576 := hr st
/-- A visitor who comes. -/
theorem DI.open {c : TCfg} (h : DI n G m gb s D) (hi : TI n s) (hr : c.right) (hG : 1 ≤ G) {i : Nat} (him : i < m) {t : Tup} {bk fl : Int} (ho : openOk t bk fl = true) :
    (openS c n s t bk fl).now = s.now ∧
    (openE s t bk fl = 0 ∧ (openV c s t bk fl).bk = bk ∧ (openV c s t bk fl).st = beginS t.p fl ∧
      DI n G m (gb + 1) (openS c n s t bk fl) ⟨fun j => if j = i then true else D.had j, fun j => if j = i then s.now + idleS c.a c.b c.c c.d (beginS t.p fl) else D.due j, fun j => if j = i then openV c s t bk fl else D.en j⟩ ∧
      (∀ j, j < m → j ≠ i → D.had j = true → (alive (openS c n s t bk fl) (D.en j) ↔ alive s (D.en j))) ∨
     openE s t bk fl = 9 ∧ openV c s t bk fl = slt0 ∧ s.L.length = 0 ∧ openS c n s t bk fl = s) := by
  cases hL : s.L with
  | nil =>
    have hss : openS c n s t bk fl = s := openS_full hL
    refine ⟨by rw [hss], .inr ⟨?_, ?_, rfl, hss⟩⟩
    · unfold openE
      rw [ho, hL]
      rfl
    · unfold openV
      rw [ho, hL]
      rfl
  | cons k0 l0 =>
    have hk0 := hi.rng k0 (by rw [hL]; exact List.mem_cons_self)
    obtain ⟨k, rfl⟩ : ∃ k : Nat, k0 = (k : Int) := ⟨k0.toNat, by omega⟩
    have hk : k < n := by omega
    have hnu : ¬ (s.E k).used = true := fun hu => (hi.used k hk).1 hu (by rw [hL]; exact List.mem_cons_self)
    have hv := openV_yes (c := c) ho hL
    rw [Int.toNat_natCast] at hv
    have hss := openS_yes (n := n) (c := c) ho hL
    have hEk : (openS c n s t bk fl).E = updE s.E k (openV c s t bk fl) := by rw [hss, Int.toNat_natCast]
    have hnw : (openS c n s t bk fl).now = s.now := by rw [hss]
    have hid := hr (beginS t.p fl)
    have hgk := h.gen k hk
    have hoth : ∀ j, j < m → j ≠ i → D.had j = true → (D.en j).sl = (k : Int) → ¬ alive s (D.en j) := fun j hj hji hhj e hal => by
      obtain ⟨-, k2, hk2, e2, -, hu2⟩ := (h.ok j hj hhj).live hal
      obtain rfl : k2 = k := by omega
      exact hnu hu2
    refine ⟨hnw, .inl ⟨?_, by rw [hv]; rfl, by rw [hv]; rfl, h.step hk him (fun j hj => by rw [hEk, updE_ne _ _ hj]) ?_ hnw hoth (fun hu2 => ?_) (fun e => ?_)⟩⟩
    · unfold openE
      rw [ho, hL]
      rfl
    · rw [hEk, updE_self, hv]
      show _ ≤ (s.E k).gen ∧ (s.E k).gen ≤ _
      omega
    · rw [hEk, updE_self, hv]
      show s.now < s.now + idleS c.a c.b c.c c.d (beginS t.p fl) + G
      omega
    · rw [hEk, updE_self]
      refine ⟨rfl, ?_, ?_, ?_⟩
      · rw [hv]
        rfl
      · rw [hv]
        exact hi.sl k hk
      · rw [hv]
end
end Go.Proofs.Ytmkknjhalcocmaa

namespace Go.Proofs.Ytmkknjhalcocmaa
open Go Go.RowKit Go.Deep Go.Maps Go.ChangeMaps

theorem setM_past : ∀ (vs : List Value) (cs : Array Value) (o j : Nat), o + vs.length ≤ j → (setM cs o vs)[j]? = cs[j]?
  | [], _, _, _, _ => rfl
  | v :: r, cs, o, j, h => by
    simp at h
    unfold setM
    rw [setM_past r _ (o + 1) j (by omega), Array.getElem?_setIfInBounds_ne (by omega)]
/-- A row of entries. -/
def Ents (w : World) (eb m : Nat) (E : Nat → Slt) : Prop :=
  ∃ Z : Array Value, Blk w eb 43 Z ∧ Z.size = m * 14 ∧ ∀ i, i < m → ∀ j, j < 14 → Z[i * 14 + j]? = (E i).ent[j]?
section
variable {w w' : World} {eb m : Nat} {E : Nat → Slt} {F : Nat → Prop}
theorem Ents.lt (h : Ents w eb m E) : eb < w.heap.size := by
  obtain ⟨Z, h1, h2, h3⟩ := h
  exact h1.lt
theorem Ents.chg (h : Ents w eb m E) (k : Chg F w w') (hd : ¬ F eb) : Ents w' eb m E := by
  obtain ⟨Z, h1, h2, h3⟩ := h
  exact ⟨Z, h1.chg k hd, h2, h3⟩
theorem Ents.frozen (h : Ents w eb m E) (x : Nat) : w.frozen? ⟨eb, x, none⟩ = false := by
  obtain ⟨Z, h1, h2, h3⟩ := h
  exact h1.frozen x
theorem Ents.cell (h : Ents w eb m E) {i : Nat} (hi : i < m) (j : Nat) (hj : j < 14) : w.cell? ⟨eb, i * 14 + j, none⟩ = (E i).ent[j]? := by
  obtain ⟨Z, h1, h2, h3⟩ := h
  rw [h1.cell, h3 i hi j hj]
theorem Ents.set (h : Ents w eb m E) {i : Nat} (hi : i < m) (x : Slt) : Ents (w.setCells eb (i * 14) x.ent) eb m (fun j => if j = i then x else E j) := by
  obtain ⟨Z, h1, h2, h3⟩ := h
  have hl : x.ent.length = 14 := rfl
  refine ⟨_, blk_setCells x.ent (i * 14) h1, by rw [setM_size, h2], fun j hj k hk => ?_⟩
  dsimp only
  by_cases e : j = i
  · subst e
    rw [if_pos rfl, setM_in _ _ _ _ (by omega) (by omega)]
  · rw [if_neg e]
    rcases Nat.lt_or_gt_of_ne e with h | h
    · rw [setM_out _ _ _ _ (by omega)]
      exact h3 j hj k hk
    · rw [setM_past _ _ _ _ (by omega)]
      exact h3 j hj k hk
end
theorem ents_made (w : World) (m : Nat) : Ents (w.alloc (.cells (madeCells slt0.ent.toArray (m * 14)) 43)) w.heap.size m (fun _ => slt0) := by
  refine ⟨_, Blk.new w _ _, size_madeCells _ _, fun i hi j hj => ?_⟩
  have hlt : i * 14 + j < m * 14 := by omega
  unfold madeCells
  rw [Array.getElem?_map, Array.getElem?_range, if_pos hlt]
  have hz : slt0.ent.toArray.size = 14 := rfl
  have hm : (i * 14 + j) % 14 = j := by omega
  simp only [Option.map_some, hz, hm]
  rw [List.getElem?_eq_getElem (by simpa using hj)]
  congr 1
  rw [getElem!_pos _ _ (by simpa using hj)]
  rfl
theorem info_boolT : (Try.prog.info? 4).map (fun i => (i.zero, i.size, i.bytes)) = some (some (.bool false), 1, 1) := by kernel_rfl
theorem info_intT : (Try.prog.info? 3).map (fun i => (i.zero, i.size, i.bytes)) = some (some (.int .i64 0), 1, 8) := by kernel_rfl
/-- What visitors keep in memory: who is in, when each is due, and its entry; the law's rule. -/
structure VM (B0 : Nat) (w : World) (hb db eb rb m : Nat) (c : TCfg) (D : DSt) : Prop where
  had : w.rowIs hb 4 m (fun i => .bool (D.had i))
  due : w.rowIs db 3 m (fun i => .int .i64 (D.due i))
  en : Ents w eb m D.en
  rule : Blk w rb 29 #[.int .i64 c.a, .int .i64 c.b, .int .i64 c.c, .int .i64 c.d]
  ge : B0 ≤ hb ∧ B0 ≤ db ∧ B0 ≤ eb ∧ B0 ≤ rb
  ne : hb ≠ db ∧ hb ≠ eb ∧ hb ≠ rb ∧ db ≠ eb ∧ db ≠ rb ∧ eb ≠ rb
def vmK (hb db eb rb : Nat) : Nat → Prop := fun b => b = hb ∨ b = db ∨ b = eb ∨ b = rb
section
variable {w w' : World} {B0 hb db eb rb m : Nat} {c : TCfg} {D : DSt} {F : Nat → Prop}
theorem VM.chg (h : VM B0 w hb db eb rb m c D) (k : Chg F w w') (hF : ∀ b, F b → ¬ vmK hb db eb rb b) : VM B0 w' hb db eb rb m c D :=
  ⟨rowIs_chg h.had k (fun e => hF _ e (.inl rfl)), rowIs_chg h.due k (fun e => hF _ e (.inr (.inl rfl))), h.en.chg k (fun e => hF _ e (.inr (.inr (.inl rfl)))), h.rule.chg k (fun e => hF _ e (.inr (.inr (.inr rfl)))), h.ge, h.ne⟩
theorem VM.call (h : VM B0 w hb db eb rb m c D) (hb' : Below w.heap.size w w') : VM B0 w' hb db eb rb m c D := h.chg (F := fun _ => False) (Chg.of_below hb') (fun _ h => h.elim)
theorem VM.lt (h : VM B0 w hb db eb rb m c D) : ∀ b, vmK hb db eb rb b → b < w.heap.size := fun b hb => by
  rcases hb with rfl | rfl | rfl | rfl
  · exact h.had.lt
  · exact h.due.lt
  · exact h.en.lt
  · exact h.rule.lt
theorem VM.base (h : VM B0 w hb db eb rb m c D) : ∀ b, vmK hb db eb rb b → B0 ≤ b := fun b hb => by
  obtain ⟨g1, g2, g3, g4⟩ := h.ge
  rcases hb with rfl | rfl | rfl | rfl <;> assumption
theorem VM.setHad (h : VM B0 w hb db eb rb m c D) (i : Nat) (v : Bool) : VM B0 (w.setCell ⟨hb, i, none⟩ (.bool v)) hb db eb rb m c ⟨fun j => if j = i then v else D.had j, D.due, D.en⟩ ∧ Chg (· = hb) w (w.setCell ⟨hb, i, none⟩ (.bool v)) := by
  have k : Chg (· = hb) w (w.setCell ⟨hb, i, none⟩ (.bool v)) := Chg.setCell (F := (· = hb)) (p := ⟨hb, i, none⟩) (Chg.refl _ _) (fun _ => rfl) _
  obtain ⟨n1, n2, n3, n4, n5, n6⟩ := h.ne
  refine ⟨⟨(h.had.set i (.bool v)).congr fun j hj => ?_, rowIs_chg h.due k (fun e => n1 e.symm), h.en.chg k (fun e => n2 e.symm), h.rule.chg k (fun e => n3 e.symm), h.ge, h.ne⟩, k⟩
  by_cases e : j = i <;> simp [e]
theorem VM.setDue (h : VM B0 w hb db eb rb m c D) (i : Nat) (v : Int) : VM B0 (w.setCell ⟨db, i, none⟩ (.int .i64 v)) hb db eb rb m c ⟨D.had, fun j => if j = i then v else D.due j, D.en⟩ ∧ Chg (· = db) w (w.setCell ⟨db, i, none⟩ (.int .i64 v)) := by
  have k : Chg (· = db) w (w.setCell ⟨db, i, none⟩ (.int .i64 v)) := Chg.setCell (F := (· = db)) (p := ⟨db, i, none⟩) (Chg.refl _ _) (fun _ => rfl) _
  obtain ⟨n1, n2, n3, n4, n5, n6⟩ := h.ne
  refine ⟨⟨rowIs_chg h.had k n1, (h.due.set i (.int .i64 v)).congr fun j hj => ?_, h.en.chg k (fun e => n4 e.symm), h.rule.chg k (fun e => n5 e.symm), h.ge, h.ne⟩, k⟩
  by_cases e : j = i <;> simp [e]
theorem VM.setEn (h : VM B0 w hb db eb rb m c D) {i : Nat} (hi : i < m) (x : Slt) : VM B0 (w.setCells eb (i * 14) x.ent) hb db eb rb m c ⟨D.had, D.due, fun j => if j = i then x else D.en j⟩ ∧ Chg (· = eb) w (w.setCells eb (i * 14) x.ent) := by
  have k : Chg (· = eb) w (w.setCells eb (i * 14) x.ent) := chg_setCells _ _ _
  obtain ⟨n1, n2, n3, n4, n5, n6⟩ := h.ne
  exact ⟨⟨rowIs_chg h.had k n2, rowIs_chg h.due k n4, h.en.set hi x, h.rule.chg k (fun e => n6 e.symm), h.ge, h.ne⟩, k⟩
theorem VM.facts (h : VM B0 w hb db eb rb m c D) {i : Nat} (hi : i < m) : (w.cell? ⟨hb, i, none⟩ = some (.bool (D.had i)) ∧ w.frozen? ⟨hb, i, none⟩ = false) ∧ (w.cell? ⟨db, i, none⟩ = some (.int .i64 (D.due i)) ∧ w.frozen? ⟨db, i, none⟩ = false) ∧ w.cell? ⟨rb, 0, none⟩ = some (.int .i64 c.a) ∧ w.cell? ⟨rb, 1, none⟩ = some (.int .i64 c.b) ∧ w.cell? ⟨rb, 2, none⟩ = some (.int .i64 c.c) ∧ w.cell? ⟨rb, 3, none⟩ = some (.int .i64 c.d) :=
  ⟨⟨h.had.cell hi, h.had.frozen i⟩, ⟨h.due.cell hi, h.due.frozen i⟩, h.rule.cell 0, h.rule.cell 1, h.rule.cell 2, h.rule.cell 3⟩
end
theorem ownE_far {y y' : World} {z1 q p : Nat} {A : Option Addr} {LL : List Slt} (hO : OwnE y z1 A q LL) (hc : Chg (· = p) y y') (hp : p < z1) : OwnE y' z1 A q LL :=
  OwnA.chg hO hc (fun b hb e => by
    have h1 := (hO.block hb).1
    have e2 : b = p := e
    omega)
theorem TabN.at1 {w0 y y' : World} {g sb n p : Nat} {c : TCfg} {s : TSt} {K : Nat → Prop} (h : TabN w0 y g sb n c s K) (hc : Chg (· = p) y y') (hp : K p) (h0 : w0.heap.size ≤ p) : TabN w0 y' g sb n c s K :=
  h.chg hc (fun b e => by have e2 : b = p := e; exact e2 ▸ hp) (fun b e => by have e2 : b = p := e; omega)
theorem Blk.far1 {y y' : World} {r p : Nat} {t : TypeId} {cs : Array Value} (h : Blk y r t cs) (hc : Chg (· = p) y y') (hp : p < r) : Blk y' r t cs :=
  h.chg hc (fun e => by have e2 : r = p := e; omega)
/-- A visit. -/
structure Vis where
  at_ : Int
  tc : Int
  fl : Int
  udp : Bool
abbrev Vis.cells (v : Vis) : List Value := [.int .u8 v.at_, .int .u8 v.tc, .int .i64 v.fl, .bool v.udp]
def visW (v : Vis) : Prop := (0 ≤ v.at_ ∧ v.at_ ≤ 255) ∧ 0 ≤ v.tc ∧ v.tc ≤ 255
def visT (u : Bool) (i : Int) : Tup := ⟨if u then 17 else 6, false, 0, 0, false, 0, 0, i, 0⟩
theorem vis_at {w : World} {B : Nat} {A : Option Addr} {l : List Vis} (h : Reads w B 4 A l.length (l.flatMap Vis.cells)) {k : Nat} (hk : k < l.length) :
    ∃ ad, A = some ad ∧ ad.block < B ∧ (w.cell? (ad.add (k * 4)) = some (.int .u8 l[k].at_) ∧ w.cell? ⟨(ad.add (k * 4)).block, (ad.add (k * 4)).off + 1, none⟩ = some (.int .u8 l[k].tc) ∧ w.cell? ⟨(ad.add (k * 4)).block, (ad.add (k * 4)).off + 2, none⟩ = some (.int .i64 l[k].fl) ∧ w.cell? ⟨(ad.add (k * 4)).block, (ad.add (k * 4)).off + 3, none⟩ = some (.bool l[k].udp)) := by
  obtain ⟨ad, rfl, hb, hc⟩ := h.rec_at Vis.cells (fun _ => rfl) hk
  exact ⟨ad, rfl, hb, hc 0 _ rfl, hc 1 _ rfl, hc 2 _ rfl, hc 3 _ rfl⟩
theorem vis_at2 {w : World} {B : Nat} {ad : Addr} {l : List Vis} (h : Reads w B 4 (some ad) l.length (l.flatMap Vis.cells)) {k : Nat} (hk : k < l.length) :
    ad.block < B ∧ w.cell? (ad.add (k * 4)) = some (.int .u8 l[k].at_) ∧ w.cell? ⟨(ad.add (k * 4)).block, (ad.add (k * 4)).off + 1, none⟩ = some (.int .u8 l[k].tc) ∧ w.cell? ⟨(ad.add (k * 4)).block, (ad.add (k * 4)).off + 2, none⟩ = some (.int .i64 l[k].fl) ∧ w.cell? ⟨(ad.add (k * 4)).block, (ad.add (k * 4)).off + 3, none⟩ = some (.bool l[k].udp) := by
  obtain ⟨ad', e, hb, hc⟩ := vis_at h hk
  cases e
  exact ⟨hb, hc⟩
theorem Ents.cells14 {w : World} {eb m : Nat} {E : Nat → Slt} (h : Ents w eb m E) {i : Nat} (hi : i < m) {x : Slt} (hx : E i = x) : w.cell? ⟨eb, i * 14, none⟩ = some (.int .i64 x.t.p) ∧ w.cell? ⟨eb, i * 14 + 1, none⟩ = some (.bool x.t.v) ∧ w.cell? ⟨eb, i * 14 + 2, none⟩ = some (.int .u64 x.t.hi) ∧ w.cell? ⟨eb, i * 14 + 3, none⟩ = some (.int .u64 x.t.lo) ∧ w.cell? ⟨eb, i * 14 + 4, none⟩ = some (.bool x.t.v') ∧ w.cell? ⟨eb, i * 14 + 5, none⟩ = some (.int .u64 x.t.hi') ∧ w.cell? ⟨eb, i * 14 + 6, none⟩ = some (.int .u64 x.t.lo') ∧ w.cell? ⟨eb, i * 14 + 7, none⟩ = some (.int .i64 x.t.sp) ∧ w.cell? ⟨eb, i * 14 + 8, none⟩ = some (.int .i64 x.t.dp) ∧ w.cell? ⟨eb, i * 14 + 9, none⟩ = some (.int .i64 x.bk) ∧ w.cell? ⟨eb, i * 14 + 10, none⟩ = some (.int .i64 x.st) ∧ w.cell? ⟨eb, i * 14 + 11, none⟩ = some (.int .i64 x.sl) ∧ w.cell? ⟨eb, i * 14 + 12, none⟩ = some (.int .u64 x.gen) ∧ w.cell? ⟨eb, i * 14 + 13, none⟩ = some (.int .i64 x.due) := by
  subst hx
  exact ⟨h.cell hi 0 (by omega), h.cell hi 1 (by omega), h.cell hi 2 (by omega), h.cell hi 3 (by omega), h.cell hi 4 (by omega), h.cell hi 5 (by omega), h.cell hi 6 (by omega), h.cell hi 7 (by omega), h.cell hi 8 (by omega), h.cell hi 9 (by omega), h.cell hi 10 (by omega), h.cell hi 11 (by omega), h.cell hi 12 (by omega), h.cell hi 13 (by omega)⟩
theorem visT_ok (u : Bool) {i : Int} (h : 0 ≤ i ∧ i ≤ 12) : openOk (visT u i) i 2 = true := by
  have h1 : tinB i 65535 = true := by simp [tinB]; omega
  have h2 : decide (0 ≤ i ∧ i ≤ 65535) = true := by simp; omega
  unfold openOk visT tupOk
  dsimp only
  rw [h1, h2]
  cases u <;> rfl
/-- A visitor who comes, told in one way. -/
theorem DI.openAll {n m : Nat} {G gb : Int} {s : TSt} {D : DSt} {c : TCfg} (h : DI n G m gb s D) (hi : TI n s) (hr : c.right) (hG : 1 ≤ G) {i : Nat} (him : i < m) {t : Tup} {bk fl : Int} (ho : openOk t bk fl = true) :
    (openS c n s t bk fl).now = s.now ∧ (openE s t bk fl = 0 ∧ (openV c s t bk fl).bk = bk ∨ openE s t bk fl = 9 ∧ (openS c n s t bk fl).L.length = 0) ∧
      DI n G m (gb + 1) (openS c n s t bk fl) ⟨fun j => if j = i then (openE s t bk fl == 0) else D.had j, fun j => if j = i then s.now + idleS c.a c.b c.c c.d (openV c s t bk fl).st else D.due j, fun j => if j = i then openV c s t bk fl else D.en j⟩ ∧
      ∀ j, j < m → j ≠ i → D.had j = true → (alive (openS c n s t bk fl) (D.en j) ↔ alive s (D.en j)) := by
  obtain ⟨h1, h2⟩ := h.open hi hr hG him ho
  rcases h2 with ⟨h2, h3, h4, h5, h6⟩ | ⟨h2, h3, h4, h5⟩
  · refine ⟨h1, .inl ⟨h2, h3⟩, ?_, h6⟩
    rw [h2, h4]
    exact h5
  · refine ⟨h1, .inr ⟨h2, by rw [h5]; exact h4⟩, ?_, fun j _ _ _ => by rw [h5]⟩
    rw [h2, h5]
    exact h.not _ _
theorem held19 (w : World) (base q : Nat) (A : Option Addr) (L : List Slt) (hO : OwnE w base A q L) (hl : L.length ≤ 1000000) (x : Slt) :
    Calls Try.prog 19 #[.slice A L.length q, x.val] w fun e w' => e = .returned (.bool (heldB L x)) ∧ Below w.heap.size w w' := by
  have hr0 := hO.reads
  have X0 := Blk.new w 43 x.entA
  have hb0 : Below w.heap.size w (w.alloc (.cells x.entA 43)) := below_alloc (Below.refl _ _) _
  have hr1 := hO.call hb0
  obtain ⟨bv, hbv⟩ : ∃ bv, heldB L x = bv := ⟨_, rfl⟩
  rw [hbv]
  replace hbv := Lib.hid hbv
  clear hr0 hO
  replace hr1 := Lib.hid hr1
  go_enter Try.func19, Try.ntmps19
  go_upto_region 1 with fail
  change Code.wp _ _ _ _ (w.alloc (.cells x.entA 43))
  obtain ⟨p, hp⟩ : ∃ p, w.heap.size = p := ⟨_, rfl⟩
  rw [hp] at X0
  generalize w.alloc (.cells x.entA 43) = w1 at *
  try rw [hp]
  go_wp2_with fail
  go_loopg [5] L.length (fun gk iv wr => ∃ j : Nat, j + gk = L.length ∧ iv = .int .i64 (j : Nat) ∧ (L.take j).any (fun y => y.sl == x.sl && y.gen == x.gen) = false ∧ Below w1.heap.size w1 wr)
  case atStart => exact ⟨0, by omega, rfl, rfl, Below.refl _ _⟩
  case round =>
    obtain ⟨j, hj, rfl, hno, hbx⟩ := hrel
    by_cases hlt : j < L.length
    · have hlti : (j : Int) < (L.length : Int) := by omega
      obtain ⟨ad, rfl, hbl, hc⟩ := (hr1.out.call hbx).reads.rec_at Slt.ent (fun _ => rfl) hlt
      have c11 : wr.cell? ⟨(ad.add (j * 14)).block, (ad.add (j * 14)).off + 11, none⟩ = some (.int .i64 L[j].sl) := hc 11 _ rfl
      have c12 : wr.cell? ⟨(ad.add (j * 14)).block, (ad.add (j * 14)).off + 12, none⟩ = some (.int .u64 L[j].gen) := hc 12 _ rfl
      have X1 := X0.call hbx
      have f11 : wr.cell? ⟨p, 11, none⟩ = some (.int .i64 x.sl) := X1.cell 11
      have f12 : wr.cell? ⟨p, 12, none⟩ = some (.int .u64 x.gen) := X1.cell 12
      have hs := any_take L (fun y => y.sl == x.sl && y.gen == x.gen) hlt
      rw [hno, Bool.false_or] at hs
      obtain ⟨b1, hb1⟩ : ∃ b1, (L[j].sl == x.sl) = b1 := ⟨_, rfl⟩
      obtain ⟨b2, hb2⟩ : ∃ b2, (L[j].gen == x.gen) = b2 := ⟨_, rfl⟩
      rw [hb1, hb2] at hs
      have hyes : (b1 && b2) = true → bv = true := fun e => by
        rw [← hbv.out]
        unfold heldB
        rw [List.any_eq_true]
        exact ⟨L[j], List.getElem_mem hlt, by rw [hb1, hb2]; exact e⟩
      clear hc X1
      generalize L[j].sl = z at *
      generalize L[j].gen = z2 at *
      replace hs := Lib.hid hs
      replace hyes := Lib.hid hyes
      cases b1 <;> cases b2
      case true.true =>
        obtain rfl : bv = true := hyes.out rfl
        go_wp2_with fail
        go_quiet (fail)
        go_wp2_with fail
        go_ret
        exact ⟨rfl, hp ▸ below_chain (below_drewN hbx nq) hb0⟩
      all_goals
        go_wp2_with fail
        go_quiet (fail)
        go_wp2_with fail
        go_roundg (gk - 1)
        case measure => omega
        case rel => exact ⟨j + 1, by omega, by go_num, hs.out, below_drewN hbx nq⟩
    · obtain rfl : j = L.length := by omega
      have hlti : ¬ (L.length : Int) < (L.length : Int) := by omega
      rw [List.take_length] at hno
      obtain rfl : bv = false := by rw [← hbv.out]; exact hno
      go_wp2_with fail
      go_ret
      exact ⟨rfl, hp ▸ below_chain hbx hb0⟩
theorem visitor19 (w : World) (v : Vis) (i : Int) : Calls Try.prog 22 #[.agg #[.int .u8 v.at_, .int .u8 v.tc, .int .i64 v.fl, .bool v.udp], .int .i64 i] w fun e w' => e = .returned (visT v.udp i).val ∧ Below w.heap.size w w' := by
  obtain ⟨u, hu⟩ : ∃ u, v.udp = u := ⟨_, rfl⟩
  rw [hu]
  unfold visT
  cases u
  all_goals
    go_enter Try.func22, Try.ntmps22
    go_wp2_with fail
    refine bodyPost_ret (v := .agg #[.int .i64 _, .bool false, .int .u64 0, .int .u64 0, .bool false, .int .u64 0, .int .u64 0, .int .i64 i, .int .i64 0]) (by simp [results, Try.results22, go_sem]; rfl) rfl ?_
    exact ⟨rfl, (by repeat (first | exact Below.refl _ _ | assumption | refine below_alloc ?_ _ | refine below_chain (by assumption) ?_ | refine below_call2 (by assumption) ?_ (by first | omega | (simp; done) | (simp; omega) | (simp [World.setCell]; omega)) | refine below_drewN ?_ _ | refine Below.drew ?_ | refine Below.alloc ?_ (by first | omega | (simp; done) | (simp; omega) | (simp [World.setCell]; omega)) _ | refine Below.setCell ?_ (by first | omega | (simp; done) | (simp; omega) | (simp [World.setCell]; omega)) _))⟩
end Go.Proofs.Ytmkknjhalcocmaa

namespace Go.Proofs.Ytmkknjhalcocmaa
open Go Go.RowKit Go.Deep Go.Maps Go.ChangeMaps

theorem blk_range {w : World} {r : Nat} {x : Slt} (h : Blk w r 43 x.entA) : w.rangeAt r 0 x.ent := fun j v hv => by
  rw [Nat.zero_add, h.cell j]
  exact (List.getElem?_toArray ..).trans hv
theorem blk_there {w : World} {r : Nat} {x : Slt} (h : Blk w r 43 x.entA) : w.there r 0 14 := fun j hj => by
  refine ⟨?_, h.frozen _⟩
  have e : x.entA[j]? = x.ent[j]? := List.getElem?_toArray ..
  rw [Nat.zero_add, h.cell j, e, List.getElem?_eq_getElem (show j < x.ent.length from hj)]
  rfl
theorem Ents.there {w : World} {eb m : Nat} {E : Nat → Slt} (h : Ents w eb m E) {i : Nat} (hi : i < m) : w.there eb (i * 14) 14 := fun j hj => by
  refine ⟨?_, h.frozen _⟩
  rw [h.cell hi j hj, List.getElem?_eq_getElem (show j < (E i).ent.length from hj)]
  rfl
theorem ent_size : (Try.prog.info? 43).map (·.size) = some 14 := by kernel_rfl
theorem ent_one (x : Slt) : x.entA.all (·.oneCell') = true := by
  refine all_oneCell_toArray (cs := x.ent) fun u hu => ?_
  unfold Slt.ent at hu
  simp at hu
  rcases hu with rfl | rfl | rfl | rfl | rfl | rfl | rfl | rfl | rfl | rfl | rfl | rfl | rfl | rfl <;> rfl
section
variable {ops : Array Oper} {rest : List Oper} {op : Oper} {a : Act} {w : World} {Q : Exit → Act → World → Prop}
/-- An entry's block is loaded. -/
theorem wpList_load_ent (hgd : op.guard = none) (x : Operand) (ho : op.op = .load 43 x) (r : Nat) (hx : a.eval x = .pointer (some ⟨r, 0, none⟩)) (v : Slt) (hB : Blk w r 43 v.entA)
    (h : wpList Try.prog ops Q rest (a.put op.dst (.agg v.entA)) w) : wpList Try.prog ops Q (op :: rest) a w :=
  wpList_load_mid hgd 43 x ho r 0 hx v.ent _ (blk_range hB) Try.underlying43 rfl ent_size h
/-- An entry is stored into the row. -/
theorem wpList_store_ents (hgd : op.guard = none) (x y : Operand) (ho : op.op = .store 43 x y) {eb i m : Nat} {E : Nat → Slt} (hE : Ents w eb m E) (hi : i < m) (v : Slt) (hx : a.eval x = .pointer (some ⟨eb, i * 14, none⟩)) (hy : a.eval y = .agg v.entA)
    (h : wpList Try.prog ops Q rest (a.put op.dst undef) (w.setCells eb (i * 14) v.ent)) : wpList Try.prog ops Q (op :: rest) a w :=
  wpList_store_mid hgd 43 x y ho eb (i * 14) v.entA hx hy (hE.there hi) ent_size (ent_one v) h
/-- An entry is stored into its own block. -/
theorem wp_store_blk {K : Act → World → Prop} (x y : Operand) (ho : op.op = .store 43 x y) {r : Nat} {z : Slt} (hB : Blk w r 43 z.entA) (v : Slt) (hx : a.eval x = .pointer (some ⟨r, 0, none⟩)) (hy : a.eval y = .agg v.entA)
    (h : K (a.put op.dst undef) (setEnt w r v)) : op.wp Try.prog a w K Q :=
  wp_store_mid 43 x y ho r 0 v.entA hx hy (blk_there hB) ent_size (ent_one v) h
end
end Go.Proofs.Ytmkknjhalcocmaa

namespace Go.Proofs.Ytmkknjhalcocmaa
open Go Go.RowKit Go.Deep Go.Maps Go.ChangeMaps

@[reducible] def ops24 : Array Oper := #[
{ dst := some 155, op := Op.move (Operand.tmp 11), type := 24, pos := "law.go:162", after := #[], guard := none },
  { dst := some 156, op := Op.move (Operand.tmp 15), type := 30, pos := "law.go:162", after := #[], guard := none },
  { dst := some 157, op := Op.move (Operand.tmp 20), type := 3, pos := "law.go:162", after := #[], guard := none },
  { dst := some 158, op := Op.indexAddr 30 (Operand.tmp 156) (Operand.tmp 157), type := 0, pos := "law.go:162", after := #[{ on := 1, ground := Ground.data }, { on := 2, ground := Ground.data }], guard := none },
  { dst := some 159, op := Op.fieldAddr 43 (Operand.tmp 158) 3, type := 0, pos := "law.go:162", after := #[{ on := 3, ground := Ground.data }], guard := none },
  { dst := some 160, op := Op.load 3 (Operand.tmp 159), type := 3, pos := "law.go:162", after := #[{ on := 4, ground := Ground.data }], guard := none },
  { dst := some 161, op := Op.move (Operand.tmp 3), type := 57, pos := "law.go:162", after := #[], guard := none },
  { dst := some 162, op := Op.move (Operand.tmp 20), type := 3, pos := "law.go:162", after := #[], guard := none },
  { dst := some 163, op := Op.indexAddr 57 (Operand.tmp 161) (Operand.tmp 162), type := 0, pos := "law.go:162", after := #[{ on := 6, ground := Ground.data }, { on := 7, ground := Ground.data }], guard := none },
  { dst := some 164, op := Op.fieldAddr 62 (Operand.tmp 163) 2, type := 0, pos := "law.go:162", after := #[{ on := 8, ground := Ground.data }], guard := none },
  { dst := some 165, op := Op.load 3 (Operand.tmp 164), type := 3, pos := "law.go:162", after := #[{ on := 9, ground := Ground.data }], guard := none },
  { dst := some 166, op := Op.call { callee := Callee.value (Operand.func 13), args := #[Operand.tmp 155, Operand.tmp 160, Operand.tmp 165], argTypes := #[24, 3, 3] }, type := 46, pos := "law.go:162", after := #[{ on := 0, ground := Ground.data }, { on := 5, ground := Ground.data }, { on := 10, ground := Ground.data }], guard := none },
  { dst := some 154, op := Op.move (Operand.tmp 166), type := 46, pos := "law.go:162", after := #[{ on := 11, ground := Ground.data }], guard := none },
  { dst := some 167, op := Op.extract (Operand.tmp 154) 0, type := 43, pos := "law.go:162", after := #[{ on := 12, ground := Ground.data }], guard := none },
  { dst := some 168, op := Op.extract (Operand.tmp 154) 1, type := 4, pos := "law.go:162", after := #[{ on := 12, ground := Ground.data }, { on := 16, ground := Ground.gcOnly Departure.lateStores }], guard := none },
  { dst := some 22, op := Op.alloc 43, type := 0, pos := "law.go:162", after := #[], guard := none },
  { dst := none, op := Op.store 43 (Operand.tmp 22) (Operand.tmp 167), type := 0, pos := "law.go:162", after := #[{ on := 15, ground := Ground.data }, { on := 13, ground := Ground.data }, { on := 11, ground := Ground.chain }, { on := 0, ground := Ground.phase }, { on := 1, ground := Ground.phase }, { on := 2, ground := Ground.phase }, { on := 3, ground := Ground.phase }, { on := 4, ground := Ground.phase }, { on := 5, ground := Ground.phase }, { on := 6, ground := Ground.phase }, { on := 7, ground := Ground.phase }, { on := 8, ground := Ground.phase }, { on := 9, ground := Ground.phase }, { on := 10, ground := Ground.phase }, { on := 11, ground := Ground.phase }, { on := 12, ground := Ground.phase }, { on := 13, ground := Ground.phase }, { on := 14, ground := Ground.textOnly Departure.lateStores }, { on := 15, ground := Ground.phase }], guard := none },
  { dst := some 23, op := Op.assign (Operand.tmp 168), type := 4, pos := "law.go:162", after := #[{ on := 14, ground := Ground.data }, { on := 16, ground := Ground.chain }, { on := 0, ground := Ground.phase }, { on := 1, ground := Ground.phase }, { on := 2, ground := Ground.phase }, { on := 3, ground := Ground.phase }, { on := 4, ground := Ground.phase }, { on := 5, ground := Ground.phase }, { on := 6, ground := Ground.phase }, { on := 7, ground := Ground.phase }, { on := 8, ground := Ground.phase }, { on := 9, ground := Ground.phase }, { on := 10, ground := Ground.phase }, { on := 11, ground := Ground.phase }, { on := 12, ground := Ground.phase }, { on := 13, ground := Ground.phase }, { on := 14, ground := Ground.phase }, { on := 15, ground := Ground.phase }, { on := 16, ground := Ground.phase }], guard := none }]
/-- The frame behind the region. -/
@[reducible] def fr24 (a : Act) (g eb m i : Nat) (sl : Int) (ad : Addr) (dd : Nat) (vf : Int) (tv : Slt) (r : Nat) : Act :=
  (((((((((((((((((a.put (some 155) (.pointer (some ⟨g, 0, none⟩))).put (some 156) (.slice (some ⟨eb, 0, none⟩) m m)).put (some 157) (.int .i64 (i : Int))).put (some 158) (.pointer (some ⟨eb, i * 14, none⟩))).put (some 159) (.pointer (some ⟨eb, i * 14 + 11, none⟩))).put (some 160) (.int .i64 sl)).put (some 161) (.slice (some ad) m dd)).put (some 162) (.int .i64 (i : Int))).put (some 163) (.pointer (some (ad.add (i * 4))))).put (some 164) (.pointer (some ⟨(ad.add (i * 4)).block, (ad.add (i * 4)).off + 2, none⟩))).put (some 165) (.int .i64 vf)).put (some 166) (.tuple #[tv.val, .bool true])).put (some 154) (.tuple #[tv.val, .bool true])).put (some 167) tv.val).put (some 168) (.bool true)).put (some 22) (.pointer (some ⟨r, 0, none⟩))).put (some 23) (.bool true))
@[reducible] def S24 (w : World) (eb i : Nat) (ad : Addr) (sl vf : Int) (W : World) : Prop := Below w.heap.size w W ∧ W.cell? ⟨eb, i * 14 + 11, none⟩ = some (.int .i64 sl) ∧ W.cell? ⟨(ad.add (i * 4)).block, (ad.add (i * 4)).off + 2, none⟩ = some (.int .i64 vf)
set_option maxRecDepth 100000 in
set_option maxHeartbeats 4000000 in
theorem region24 {Q : Exit → Act → World → Prop} {a : Act} {w wc : World} {g eb m i dd : Nat} {ad : Addr} {sl vf : Int} {tv : Slt} {A B : World → Prop}
    (hQ : ∀ c (a : Act) (t : Tmp) (v : Value) w, Q (.panic c) (a.put (some t) v) w → Q (.panic c) a w) (hz : ∀ k, k < 169 → k < a.tmps.size)
    (e11 : a.tmps[11]'(hz 11 (by decide)) = .pointer (some ⟨g, 0, none⟩)) (e15 : a.tmps[15]'(hz 15 (by decide)) = .slice (some ⟨eb, 0, none⟩) m m) (e20 : a.tmps[20]'(hz 20 (by decide)) = .int .i64 (i : Int)) (e3 : a.tmps[3]'(hz 3 (by decide)) = .slice (some ad) m dd)
    (hi0 : (0 : Int) ≤ (i : Int)) (hi1 : (i : Int) < (m : Int))
    (hS0 : Below w.heap.size w wc.drew ∧ wc.drew.cell? ⟨eb, i * 14 + 11, none⟩ = some (.int .i64 sl) ∧ wc.drew.cell? ⟨(ad.add (i * 4)).block, (ad.add (i * 4)).off + 2, none⟩ = some (.int .i64 vf))
    (TA : Calls Try.prog 13 #[.pointer (some ⟨g, 0, none⟩), .int .i64 sl, .int .i64 vf] wc.drew fun e y => e = .returned (.tuple #[tv.val, .bool true]) ∧ A y)
    (TB : Calls Try.prog 13 #[.pointer (some ⟨g, 0, none⟩), .int .i64 sl, .int .i64 vf] (wc.drew.alloc (.cells #[.int .i64 0, .bool false, .int .u64 0, .int .u64 0, .bool false, .int .u64 0, .int .u64 0, .int .i64 0, .int .i64 0, .int .i64 0, .int .i64 0, .int .i64 0, .int .u64 0, .int .i64 0] 43)) fun e y => e = .returned (.tuple #[tv.val, .bool true]) ∧ B y)
    (SA : ∀ y, A y → S24 w eb i ad sl vf y ∧ S24 w eb i ad sl vf (y.alloc (.cells #[.int .i64 0, .bool false, .int .u64 0, .int .u64 0, .bool false, .int .u64 0, .int .u64 0, .int .i64 0, .int .i64 0, .int .i64 0, .int .i64 0, .int .i64 0, .int .u64 0, .int .i64 0] 43)) ∧ S24 w eb i ad sl vf (setEnt (y.alloc (.cells #[.int .i64 0, .bool false, .int .u64 0, .int .u64 0, .bool false, .int .u64 0, .int .u64 0, .int .i64 0, .int .i64 0, .int .i64 0, .int .i64 0, .int .i64 0, .int .u64 0, .int .i64 0] 43)) y.heap.size tv))
    (SB0 : S24 w eb i ad sl vf (wc.drew.alloc (.cells #[.int .i64 0, .bool false, .int .u64 0, .int .u64 0, .bool false, .int .u64 0, .int .u64 0, .int .i64 0, .int .i64 0, .int .i64 0, .int .i64 0, .int .i64 0, .int .u64 0, .int .i64 0] 43)))
    (SB : ∀ y, B y → S24 w eb i ad sl vf y ∧ Blk y wc.heap.size 43 slt0.entA ∧ S24 w eb i ad sl vf (setEnt y wc.heap.size tv))
    (hKA : ∀ y, A y → Q .normal (fr24 a g eb m i sl ad dd vf tv y.heap.size) (setEnt (y.alloc (.cells #[.int .i64 0, .bool false, .int .u64 0, .int .u64 0, .bool false, .int .u64 0, .int .u64 0, .int .i64 0, .int .i64 0, .int .i64 0, .int .i64 0, .int .i64 0, .int .u64 0, .int .i64 0] 43)) y.heap.size tv))
    (hKB : ∀ y, B y → Q .normal (fr24 a g eb m i sl ad dd vf tv wc.heap.size) (setEnt y wc.heap.size tv)) : (Code.region 24 ops24 true).wp Try.prog Q a wc := by
  refine wp_region_held_drew (S := (fun W => Below w.heap.size w W ∧ W.cell? ⟨eb, i * 14 + 11, none⟩ = some (.int .i64 sl) ∧ W.cell? ⟨(ad.add (i * 4)).block, (ad.add (i * 4)).off + 2, none⟩ = some (.int .i64 vf))) (by kernel_rfl) hS0 (fun hHeld => ?_)
  refine wpAnyH_take (i := 0) (oi := { dst := some 155, op := Op.move (Operand.tmp 11), type := 24, pos := "law.go:162", after := #[], guard := none }) (v := (.pointer (some ⟨g, 0, none⟩))) rfl (by kernel_rfl) (by kernel_rfl) (by kernel_rfl) (fun c a w => hQ c _ _ _ w) (Or.inl ⟨rfl, ?_⟩) (by assumption) ?_
  · intro W hSW
    obtain ⟨-, s1, s2⟩ := hSW
    (simp [go_sem, execOp, hz, e11]; done)
  refine wpAnyH_take (i := 1) (oi := { dst := some 156, op := Op.move (Operand.tmp 15), type := 30, pos := "law.go:162", after := #[], guard := none }) (v := (.slice (some ⟨eb, 0, none⟩) m m)) rfl (by kernel_rfl) (by kernel_rfl) (by kernel_rfl) (fun c a w => hQ c _ _ _ w) (Or.inl ⟨rfl, ?_⟩) (by assumption) ?_
  · intro W hSW
    obtain ⟨-, s1, s2⟩ := hSW
    (simp [go_sem, execOp, hz, e15]; done)
  refine wpAnyH_take (i := 2) (oi := { dst := some 157, op := Op.move (Operand.tmp 20), type := 3, pos := "law.go:162", after := #[], guard := none }) (v := (.int .i64 (i : Int))) rfl (by kernel_rfl) (by kernel_rfl) (by kernel_rfl) (fun c a w => hQ c _ _ _ w) (Or.inl ⟨rfl, ?_⟩) (by assumption) ?_
  · intro W hSW
    obtain ⟨-, s1, s2⟩ := hSW
    (simp [go_sem, execOp, hz, e20]; done)
  refine wpAnyH_take (i := 3) (oi := { dst := some 158, op := Op.indexAddr 30 (Operand.tmp 156) (Operand.tmp 157), type := 0, pos := "law.go:162", after := #[{ on := 1, ground := Ground.data }, { on := 2, ground := Ground.data }], guard := none }) (v := (.pointer (some ⟨eb, i * 14, none⟩))) rfl (by kernel_rfl) (by kernel_rfl) (by kernel_rfl) (fun c a w => hQ c _ _ _ w) (Or.inl ⟨rfl, ?_⟩) (by assumption) ?_
  · intro W hSW
    obtain ⟨-, s1, s2⟩ := hSW
    (simp [go_sem, execOp, hz, hi0, hi1]; done)
  refine wpAnyH_take (i := 4) (oi := { dst := some 159, op := Op.fieldAddr 43 (Operand.tmp 158) 3, type := 0, pos := "law.go:162", after := #[{ on := 3, ground := Ground.data }], guard := none }) (v := (.pointer (some ⟨eb, i * 14 + 11, none⟩))) rfl (by kernel_rfl) (by kernel_rfl) (by kernel_rfl) (fun c a w => hQ c _ _ _ w) (Or.inl ⟨rfl, ?_⟩) (by assumption) ?_
  · intro W hSW
    obtain ⟨-, s1, s2⟩ := hSW
    (simp [go_sem, execOp, hz]; done)
  refine wpAnyH_take (i := 5) (oi := { dst := some 160, op := Op.load 3 (Operand.tmp 159), type := 3, pos := "law.go:162", after := #[{ on := 4, ground := Ground.data }], guard := none }) (v := (.int .i64 sl)) rfl (by kernel_rfl) (by kernel_rfl) (by kernel_rfl) (fun c a w => hQ c _ _ _ w) (Or.inl ⟨rfl, ?_⟩) (by assumption) ?_
  · intro W hSW
    obtain ⟨-, s1, s2⟩ := hSW
    (simp [go_sem, execOp, hz, s1]; done)
  refine wpAnyH_take (i := 6) (oi := { dst := some 161, op := Op.move (Operand.tmp 3), type := 57, pos := "law.go:162", after := #[], guard := none }) (v := (.slice (some ad) m dd)) rfl (by kernel_rfl) (by kernel_rfl) (by kernel_rfl) (fun c a w => hQ c _ _ _ w) (Or.inl ⟨rfl, ?_⟩) (by assumption) ?_
  · intro W hSW
    obtain ⟨-, s1, s2⟩ := hSW
    (simp [go_sem, execOp, hz, e3]; done)
  refine wpAnyH_take (i := 7) (oi := { dst := some 162, op := Op.move (Operand.tmp 20), type := 3, pos := "law.go:162", after := #[], guard := none }) (v := (.int .i64 (i : Int))) rfl (by kernel_rfl) (by kernel_rfl) (by kernel_rfl) (fun c a w => hQ c _ _ _ w) (Or.inl ⟨rfl, ?_⟩) (by assumption) ?_
  · intro W hSW
    obtain ⟨-, s1, s2⟩ := hSW
    (simp [go_sem, execOp, hz, e20]; done)
  refine wpAnyH_take (i := 8) (oi := { dst := some 163, op := Op.indexAddr 57 (Operand.tmp 161) (Operand.tmp 162), type := 0, pos := "law.go:162", after := #[{ on := 6, ground := Ground.data }, { on := 7, ground := Ground.data }], guard := none }) (v := (.pointer (some (ad.add (i * 4))))) rfl (by kernel_rfl) (by kernel_rfl) (by kernel_rfl) (fun c a w => hQ c _ _ _ w) (Or.inl ⟨rfl, ?_⟩) (by assumption) ?_
  · intro W hSW
    obtain ⟨-, s1, s2⟩ := hSW
    (simp [go_sem, execOp, hz, hi0, hi1]; done)
  refine wpAnyH_take (i := 9) (oi := { dst := some 164, op := Op.fieldAddr 62 (Operand.tmp 163) 2, type := 0, pos := "law.go:162", after := #[{ on := 8, ground := Ground.data }], guard := none }) (v := (.pointer (some ⟨(ad.add (i * 4)).block, (ad.add (i * 4)).off + 2, none⟩))) rfl (by kernel_rfl) (by kernel_rfl) (by kernel_rfl) (fun c a w => hQ c _ _ _ w) (Or.inl ⟨rfl, ?_⟩) (by assumption) ?_
  · intro W hSW
    obtain ⟨-, s1, s2⟩ := hSW
    (simp [go_sem, execOp, hz]; done)
  refine wpAnyH_take (i := 10) (oi := { dst := some 165, op := Op.load 3 (Operand.tmp 164), type := 3, pos := "law.go:162", after := #[{ on := 9, ground := Ground.data }], guard := none }) (v := (.int .i64 vf)) rfl (by kernel_rfl) (by kernel_rfl) (by kernel_rfl) (fun c a w => hQ c _ _ _ w) (Or.inl ⟨rfl, ?_⟩) (by assumption) ?_
  · intro W hSW
    obtain ⟨-, s1, s2⟩ := hSW
    (simp [go_sem, execOp, hz, s2]; done)
  refine wpAnyH_ready (rs := [11, 15]) (by kernel_rfl) (by simp) ?_
  refine AllReadyH.cons (o := { dst := some 166, op := Op.call { callee := Callee.value (Operand.func 13), args := #[Operand.tmp 155, Operand.tmp 160, Operand.tmp 165], argTypes := #[24, 3, 3] }, type := 46, pos := "law.go:162", after := #[{ on := 0, ground := Ground.data }, { on := 5, ground := Ground.data }, { on := 10, ground := Ground.data }], guard := none }) rfl (fun K hK => ?_) (AllReadyH.cons (o := { dst := some 22, op := Op.alloc 43, type := 0, pos := "law.go:162", after := #[], guard := none }) rfl (fun K hK => ?_) AllReadyH.nil)
  · rw [if_pos (by rfl)]
    unfold Oper.wp
    simp [go_sem, hz]
    refine TA.mono ?_
    rintro e y ⟨rfl, hA⟩
    dsimp only
    refine hK.out _ _ (SA y hA).1 (fun hHeld => ?_)
    clear hK K
    refine wpAnyH_take (i := 12) (oi := { dst := some 154, op := Op.move (Operand.tmp 166), type := 46, pos := "law.go:162", after := #[{ on := 11, ground := Ground.data }], guard := none }) (v := (.tuple #[tv.val, .bool true])) rfl (by kernel_rfl) (by kernel_rfl) (by kernel_rfl) (fun c a w => hQ c _ _ _ w) (Or.inl ⟨rfl, ?_⟩) (by assumption) ?_
    · intro W hSW
      obtain ⟨-, s1, s2⟩ := hSW
      (simp [go_sem, execOp, hz]; done)
    refine wpAnyH_take (i := 13) (oi := { dst := some 167, op := Op.extract (Operand.tmp 154) 0, type := 43, pos := "law.go:162", after := #[{ on := 12, ground := Ground.data }], guard := none }) (v := tv.val) rfl (by kernel_rfl) (by kernel_rfl) (by kernel_rfl) (fun c a w => hQ c _ _ _ w) (Or.inl ⟨rfl, ?_⟩) (by assumption) ?_
    · intro W hSW
      obtain ⟨-, s1, s2⟩ := hSW
      (simp [go_sem, execOp, hz]; done)
    refine wpAnyH_take (i := 14) (oi := { dst := some 168, op := Op.extract (Operand.tmp 154) 1, type := 4, pos := "law.go:162", after := #[{ on := 12, ground := Ground.data }, { on := 16, ground := Ground.gcOnly Departure.lateStores }], guard := none }) (v := (.bool true)) rfl (by kernel_rfl) (by kernel_rfl) (by kernel_rfl) (fun c a w => hQ c _ _ _ w) (Or.inl ⟨rfl, ?_⟩) (by assumption) ?_
    · intro W hSW
      obtain ⟨-, s1, s2⟩ := hSW
      (simp [go_sem, execOp, hz]; done)
    refine wpAnyH_ready (rs := [15]) (by kernel_rfl) (by simp) ?_
    refine AllReadyH.cons (o := { dst := some 22, op := Op.alloc 43, type := 0, pos := "law.go:162", after := #[], guard := none }) rfl (fun K hK => ?_) AllReadyH.nil
    rw [if_pos (by rfl)]
    unfold Oper.wp
    simp [go_sem, execOp]
    refine hK.out _ _ (SA y hA).2.1 (fun hHeld => ?_)
    clear hK K
    refine wpAnyH_ready (rs := [16]) (by kernel_rfl) (by simp) ?_
    refine AllReadyH.cons (o := { dst := none, op := Op.store 43 (Operand.tmp 22) (Operand.tmp 167), type := 0, pos := "law.go:162", after := #[{ on := 15, ground := Ground.data }, { on := 13, ground := Ground.data }, { on := 11, ground := Ground.chain }, { on := 0, ground := Ground.phase }, { on := 1, ground := Ground.phase }, { on := 2, ground := Ground.phase }, { on := 3, ground := Ground.phase }, { on := 4, ground := Ground.phase }, { on := 5, ground := Ground.phase }, { on := 6, ground := Ground.phase }, { on := 7, ground := Ground.phase }, { on := 8, ground := Ground.phase }, { on := 9, ground := Ground.phase }, { on := 10, ground := Ground.phase }, { on := 11, ground := Ground.phase }, { on := 12, ground := Ground.phase }, { on := 13, ground := Ground.phase }, { on := 14, ground := Ground.textOnly Departure.lateStores }, { on := 15, ground := Ground.phase }], guard := none }) rfl (fun K hK => ?_) AllReadyH.nil
    rw [if_pos (by rfl)]
    with_reducible refine wp_store_blk (r := y.heap.size) (z := slt0) (.tmp 22) (.tmp 167) ?h0 ?h1 tv ?h2 ?h3 ?h4
    case h0 => rfl
    case h1 => exact Blk.new y 43 slt0.entA
    case h2 => simp [go_sem, hz]
    case h3 => simp [go_sem, hz]
    refine hK.out _ _ (SA y hA).2.2 (fun hHeld => ?_)
    clear hK K
    refine wpAnyH_take (i := 17) (oi := { dst := some 23, op := Op.assign (Operand.tmp 168), type := 4, pos := "law.go:162", after := #[{ on := 14, ground := Ground.data }, { on := 16, ground := Ground.chain }, { on := 0, ground := Ground.phase }, { on := 1, ground := Ground.phase }, { on := 2, ground := Ground.phase }, { on := 3, ground := Ground.phase }, { on := 4, ground := Ground.phase }, { on := 5, ground := Ground.phase }, { on := 6, ground := Ground.phase }, { on := 7, ground := Ground.phase }, { on := 8, ground := Ground.phase }, { on := 9, ground := Ground.phase }, { on := 10, ground := Ground.phase }, { on := 11, ground := Ground.phase }, { on := 12, ground := Ground.phase }, { on := 13, ground := Ground.phase }, { on := 14, ground := Ground.phase }, { on := 15, ground := Ground.phase }, { on := 16, ground := Ground.phase }], guard := none }) (v := (.bool true)) rfl (by kernel_rfl) (by kernel_rfl) (by kernel_rfl) (fun c a w => hQ c _ _ _ w) (Or.inl ⟨rfl, ?_⟩) (by assumption) ?_
    · intro W hSW
      obtain ⟨-, s1, s2⟩ := hSW
      (simp [go_sem, execOp, hz]; done)
    refine wpAnyH_done (by kernel_rfl) ?_ _
    have hq := hKA y hA
    simp only [fr24, Act.put] at hq ⊢
    with_reducible exact hq
  · rw [if_pos (by rfl)]
    unfold Oper.wp
    simp [go_sem, execOp]
    refine hK.out _ _ SB0 (fun hHeld => ?_)
    clear hK K
    refine wpAnyH_ready (rs := [11]) (by kernel_rfl) (by simp) ?_
    refine AllReadyH.cons (o := { dst := some 166, op := Op.call { callee := Callee.value (Operand.func 13), args := #[Operand.tmp 155, Operand.tmp 160, Operand.tmp 165], argTypes := #[24, 3, 3] }, type := 46, pos := "law.go:162", after := #[{ on := 0, ground := Ground.data }, { on := 5, ground := Ground.data }, { on := 10, ground := Ground.data }], guard := none }) rfl (fun K hK => ?_) AllReadyH.nil
    rw [if_pos (by rfl)]
    unfold Oper.wp
    simp [go_sem, hz]
    refine TB.mono ?_
    rintro e y ⟨rfl, hB⟩
    dsimp only
    refine hK.out _ _ (SB y hB).1 (fun hHeld => ?_)
    clear hK K
    refine wpAnyH_take (i := 12) (oi := { dst := some 154, op := Op.move (Operand.tmp 166), type := 46, pos := "law.go:162", after := #[{ on := 11, ground := Ground.data }], guard := none }) (v := (.tuple #[tv.val, .bool true])) rfl (by kernel_rfl) (by kernel_rfl) (by kernel_rfl) (fun c a w => hQ c _ _ _ w) (Or.inl ⟨rfl, ?_⟩) (by assumption) ?_
    · intro W hSW
      obtain ⟨-, s1, s2⟩ := hSW
      (simp [go_sem, execOp, hz]; done)
    refine wpAnyH_take (i := 13) (oi := { dst := some 167, op := Op.extract (Operand.tmp 154) 0, type := 43, pos := "law.go:162", after := #[{ on := 12, ground := Ground.data }], guard := none }) (v := tv.val) rfl (by kernel_rfl) (by kernel_rfl) (by kernel_rfl) (fun c a w => hQ c _ _ _ w) (Or.inl ⟨rfl, ?_⟩) (by assumption) ?_
    · intro W hSW
      obtain ⟨-, s1, s2⟩ := hSW
      (simp [go_sem, execOp, hz]; done)
    refine wpAnyH_take (i := 14) (oi := { dst := some 168, op := Op.extract (Operand.tmp 154) 1, type := 4, pos := "law.go:162", after := #[{ on := 12, ground := Ground.data }, { on := 16, ground := Ground.gcOnly Departure.lateStores }], guard := none }) (v := (.bool true)) rfl (by kernel_rfl) (by kernel_rfl) (by kernel_rfl) (fun c a w => hQ c _ _ _ w) (Or.inl ⟨rfl, ?_⟩) (by assumption) ?_
    · intro W hSW
      obtain ⟨-, s1, s2⟩ := hSW
      (simp [go_sem, execOp, hz]; done)
    refine wpAnyH_ready (rs := [16]) (by kernel_rfl) (by simp) ?_
    refine AllReadyH.cons (o := { dst := none, op := Op.store 43 (Operand.tmp 22) (Operand.tmp 167), type := 0, pos := "law.go:162", after := #[{ on := 15, ground := Ground.data }, { on := 13, ground := Ground.data }, { on := 11, ground := Ground.chain }, { on := 0, ground := Ground.phase }, { on := 1, ground := Ground.phase }, { on := 2, ground := Ground.phase }, { on := 3, ground := Ground.phase }, { on := 4, ground := Ground.phase }, { on := 5, ground := Ground.phase }, { on := 6, ground := Ground.phase }, { on := 7, ground := Ground.phase }, { on := 8, ground := Ground.phase }, { on := 9, ground := Ground.phase }, { on := 10, ground := Ground.phase }, { on := 11, ground := Ground.phase }, { on := 12, ground := Ground.phase }, { on := 13, ground := Ground.phase }, { on := 14, ground := Ground.textOnly Departure.lateStores }, { on := 15, ground := Ground.phase }], guard := none }) rfl (fun K hK => ?_) AllReadyH.nil
    rw [if_pos (by rfl)]
    with_reducible refine wp_store_blk (r := wc.heap.size) (z := slt0) (.tmp 22) (.tmp 167) ?k0 ?k1 tv ?k2 ?k3 ?k4
    case k0 => rfl
    case k1 => exact (SB y hB).2.1
    case k2 => simp [go_sem, hz]
    case k3 => simp [go_sem, hz]
    refine hK.out _ _ (SB y hB).2.2 (fun hHeld => ?_)
    clear hK K
    refine wpAnyH_take (i := 17) (oi := { dst := some 23, op := Op.assign (Operand.tmp 168), type := 4, pos := "law.go:162", after := #[{ on := 14, ground := Ground.data }, { on := 16, ground := Ground.chain }, { on := 0, ground := Ground.phase }, { on := 1, ground := Ground.phase }, { on := 2, ground := Ground.phase }, { on := 3, ground := Ground.phase }, { on := 4, ground := Ground.phase }, { on := 5, ground := Ground.phase }, { on := 6, ground := Ground.phase }, { on := 7, ground := Ground.phase }, { on := 8, ground := Ground.phase }, { on := 9, ground := Ground.phase }, { on := 10, ground := Ground.phase }, { on := 11, ground := Ground.phase }, { on := 12, ground := Ground.phase }, { on := 13, ground := Ground.phase }, { on := 14, ground := Ground.phase }, { on := 15, ground := Ground.phase }, { on := 16, ground := Ground.phase }], guard := none }) (v := (.bool true)) rfl (by kernel_rfl) (by kernel_rfl) (by kernel_rfl) (fun c a w => hQ c _ _ _ w) (Or.inl ⟨rfl, ?_⟩) (by assumption) ?_
    · intro W hSW
      obtain ⟨-, s1, s2⟩ := hSW
      (simp [go_sem, execOp, hz]; done)
    refine wpAnyH_done (by kernel_rfl) ?_ _
    have hq := hKB y hB
    simp only [fr24, Act.put] at hq ⊢
    rw [Array.setIfInBounds_comm (i := 22) (j := 166) _ _ (by decide), Array.setIfInBounds_comm (i := 22) (j := 154) _ _ (by decide), Array.setIfInBounds_comm (i := 22) (j := 167) _ _ (by decide), Array.setIfInBounds_comm (i := 22) (j := 168) _ _ (by decide)]
    with_reducible exact hq
end Go.Proofs.Ytmkknjhalcocmaa
